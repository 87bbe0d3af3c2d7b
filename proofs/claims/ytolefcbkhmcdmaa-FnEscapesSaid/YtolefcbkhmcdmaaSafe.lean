/- The walks of EscapeIn and IsSafeIn, and their laws. -/
import Derived.Test.YtolefcbkhmcdmaaUnHtml
namespace Go.Proofs.Ytolefcbkhmcdmaa
open Go.RowKit
set_option linter.unusedVariables false

def escIn (ctx : Int) (s : ByteArray) : ByteArray :=
  if ctx = 1 then strOf (escAll ent (bytesI s)) else if ctx = 2 then strOf (escAll encU (bytesI s)) else if ctx = 3 then strOf (escAll encS (bytesI s)) else s
theorem escIn_1 (s : ByteArray) : escIn 1 s = strOf (escAll ent (bytesI s)) := rfl
theorem escIn_2 (s : ByteArray) : escIn 2 s = strOf (escAll encU (bytesI s)) := rfl
theorem escIn_3 (s : ByteArray) : escIn 3 s = strOf (escAll encS (bytesI s)) := rfl
theorem escIn_raw (ctx : Int) (s : ByteArray) (h1 : ctx ≠ 1) (h2 : ctx ≠ 2) (h3 : ctx ≠ 3) : escIn ctx s = s := by unfold escIn; rw [if_neg h1, if_neg h2, if_neg h3]
def InPost (ctx : Int) (s : ByteArray) (w : World) (e : Ending) (w' : World) : Prop := e = .returned (.string (escIn ctx s)) ∧ w.grownBy w' none

theorem specEscIn_any (ctx : Int) (s : ByteArray) (w : World) (hs : s.size ≤ 1048576) : Calls Try.prog 24 #[.int .i64 ctx, .string s] w (InPost ctx s w) := by
  by_cases h1 : ctx = 1
  · subst h1
    go_enter Try.func24, Try.ntmps24
    go_wp2_with fail
    refine (specEscHtml_any _ _ hs).mono ?_
    rintro e w1 ⟨rfl, hg1⟩
    go_wp2
    go_ret
    exact ⟨rfl, hg1⟩
  · by_cases h2 : ctx = 2
    · subst h2
      go_enter Try.func24, Try.ntmps24
      go_wp2_with fail
      refine (specEscUrl_any _ _ hs).mono ?_
      rintro e w1 ⟨rfl, hg1⟩
      go_wp2
      go_ret
      exact ⟨rfl, hg1⟩
    · by_cases h3 : ctx = 3
      · subst h3
        go_enter Try.func24, Try.ntmps24
        go_wp2_with fail
        refine (specEscScript_any _ _ hs).mono ?_
        rintro e w1 ⟨rfl, hg1⟩
        go_wp2
        go_ret
        exact ⟨rfl, hg1⟩
      · have HE := hid (escIn_raw ctx s h1 h2 h3)
        have e1 : (ctx == 1) = false := by simpa using h1
        have e2 : (ctx == 2) = false := by simpa using h2
        have e3 : (ctx == 3) = false := by simpa using h3
        clear h1 h2 h3
        go_enter Try.func24, Try.ntmps24
        go_wp2
        go_ret
        exact ⟨ret_str (by rw [HE.out]), gb_refl _ _⟩

theorem implEscIn_any (ctx : Int) (s : ByteArray) (w : World) (hs : s.size ≤ 1048576) : Calls Try.prog 25 #[.int .i64 ctx, .string s] w (InPost ctx s w) := by
  by_cases h1 : ctx = 1
  · subst h1
    go_enter Try.func25, Try.ntmps25
    go_wp2_with fail
    refine (implEscHtml_any _ _ hs).mono ?_
    rintro e w1 ⟨rfl, hg1⟩
    go_wp2
    go_ret
    exact ⟨rfl, hg1⟩
  · by_cases h2 : ctx = 2
    · subst h2
      go_enter Try.func25, Try.ntmps25
      go_wp2_with fail
      refine (implEscUrl_any _ _ hs).mono ?_
      rintro e w1 ⟨rfl, hg1⟩
      go_wp2
      go_ret
      exact ⟨rfl, hg1⟩
    · by_cases h3 : ctx = 3
      · subst h3
        go_enter Try.func25, Try.ntmps25
        go_wp2_with fail
        refine (implEscScript_any _ _ hs).mono ?_
        rintro e w1 ⟨rfl, hg1⟩
        go_wp2
        go_ret
        exact ⟨rfl, hg1⟩
      · have HE := hid (escIn_raw ctx s h1 h2 h3)
        have e1 : (ctx == 1) = false := by simpa using h1
        have e2 : (ctx == 2) = false := by simpa using h2
        have e3 : (ctx == 3) = false := by simpa using h3
        clear h1 h2 h3
        go_enter Try.func25, Try.ntmps25
        go_wp2
        go_ret
        exact ⟨ret_str (by rw [HE.out]), gb_refl _ _⟩

/-! nothing grows where it is unescaped -/
theorem unU_len (l : List Int) : ∀ (f i : Nat) (acc r : List Int), unU l f i acc = some r → i ≤ l.length → r.length + i ≤ acc.length + l.length
  | 0, i, acc, r, h, hi => by unfold unU at h; injection h with h; subst h; omega
  | f + 1, i, acc, r, h, hi => by
    by_cases he : l.length ≤ i
    · rw [unU_end l _ i acc he] at h; injection h with h; subst h; omega
    · by_cases h43 : l.getD i 0 = 43
      · rw [unU_plus l f i acc (by omega) h43] at h
        have := unU_len l f (i + 1) _ r h (by omega)
        rw [List.length_append, List.length_singleton] at this; omega
      · by_cases h37 : l.getD i 0 = 37
        · cases ht : two l (i + 1) true with
          | none => rw [unU_bad l f i acc (by omega) h37 ht] at h; cases h
          | some n =>
            have hb := (two_bd ht).2.2
            rw [unU_hex l f i acc n (by omega) h37 ht] at h
            have := unU_len l f (i + 3) _ r h (by omega)
            rw [List.length_append, List.length_singleton] at this; omega
        · rw [unU_other l f i acc (by omega) h43 h37] at h
          have := unU_len l f (i + 1) _ r h (by omega)
          rw [List.length_append, List.length_singleton] at this; omega
theorem unS_len (l : List Int) : ∀ (f i : Nat) (acc r : List Int), unS l f i acc = some r → i ≤ l.length → r.length + i ≤ acc.length + l.length
  | 0, i, acc, r, h, hi => by unfold unS at h; injection h with h; subst h; omega
  | f + 1, i, acc, r, h, hi => by
    by_cases he : l.length ≤ i
    · rw [unS_end l _ i acc he] at h; injection h with h; subst h; omega
    · by_cases h92 : l.getD i 0 = 92
      · by_cases hx : i + 1 < l.length ∧ l.getD (i + 1) 0 = 120
        · cases ht : two l (i + 2) false with
          | none => rw [unS_bad2 l f i acc (by omega) h92 hx ht] at h; cases h
          | some n =>
            have hb := (two_bd ht).2.2
            rw [unS_hex l f i acc n (by omega) h92 hx ht] at h
            have := unS_len l f (i + 4) _ r h (by omega)
            rw [List.length_append, List.length_singleton] at this; omega
        · rw [unS_bad1 l f i acc (by omega) h92 hx] at h; cases h
      · rw [unS_other l f i acc (by omega) h92] at h
        have := unS_len l f (i + 1) _ r h (by omega)
        rw [List.length_append, List.length_singleton] at this; omega
theorem entAt_bd {s : ByteArray} {k : Nat} {c : Int} (h : entAt s k = some c) : Special c ∧ k + (ent c).length ≤ s.size := by
  have h1 := List.find?_some h
  have h2 := List.mem_of_find?_eq_some h
  refine ⟨by simpa [five, Special] using h2, ?_⟩
  have := mt_len h1
  rwa [strOf_size] at this
theorem unH_len (s : ByteArray) : ∀ (f i : Nat) (acc r : List Int), unH s f i acc = some r → i ≤ s.size → r.length + i ≤ acc.length + s.size
  | 0, i, acc, r, h, hi => by unfold unH at h; injection h with h; subst h; omega
  | f + 1, i, acc, r, h, hi => by
    by_cases he : s.size ≤ i
    · rw [unH_end s _ i acc he] at h; injection h with h; subst h; omega
    · by_cases h38 : (bytesI s).getD i 0 = 38
      · cases ht : entAt s i with
        | none => rw [unH_bad s f i acc (by omega) h38 ht] at h; cases h
        | some n =>
          obtain ⟨hsp, hb⟩ := entAt_bd ht
          have := ent_size n hsp
          rw [unH_ent s f i acc n (by omega) h38 ht] at h
          have := unH_len s f _ _ r h hb
          rw [List.length_append, List.length_singleton] at this; omega
      · rw [unH_other s f i acc (by omega) h38] at h
        have := unH_len s f (i + 1) _ r h (by omega)
        rw [List.length_append, List.length_singleton] at this; omega

def unIn (ctx : Int) (s : ByteArray) : Option (List Int) := if ctx = 1 then unHtml s else if ctx = 2 then unUrl (bytesI s) else unScript (bytesI s)
theorem unIn_len {ctx : Int} {s : ByteArray} {r : List Int} (h : unIn ctx s = some r) : r.length ≤ s.size := by
  unfold unIn at h
  split at h
  · have := unH_len s _ _ _ _ h (Nat.zero_le _); simpa using this
  · split at h
    · have := unU_len _ _ _ _ _ h (Nat.zero_le _); simpa [bytesI_length] using this
    · have := unS_len _ _ _ _ _ h (Nat.zero_le _); simpa [bytesI_length] using this
def safeIn (ctx : Int) (s : ByteArray) : Bool :=
  if ctx = 1 ∨ ctx = 2 ∨ ctx = 3 then match unIn ctx s with | some r => (escIn ctx (strOf r)).toList == s.toList | none => false else true
def SafePost (ctx : Int) (s : ByteArray) (w : World) (e : Ending) (w' : World) : Prop := e = .returned (.bool (safeIn ctx s)) ∧ w.grownBy w' none
theorem safeIn_no {ctx : Int} {s : ByteArray} (hc : ctx = 1 ∨ ctx = 2 ∨ ctx = 3) (h : unIn ctx s = none) : safeIn ctx s = false := by unfold safeIn; rw [if_pos hc, h]
theorem safeIn_yes {ctx : Int} {s : ByteArray} {r : List Int} (hc : ctx = 1 ∨ ctx = 2 ∨ ctx = 3) (h : unIn ctx s = some r) : safeIn ctx s = ((escIn ctx (strOf r)).toList == s.toList) := by unfold safeIn; rw [if_pos hc, h]
theorem safeIn_raw {ctx : Int} {s : ByteArray} (hc : ¬ (ctx = 1 ∨ ctx = 2 ∨ ctx = 3)) : safeIn ctx s = true := by unfold safeIn; rw [if_neg hc]

set_option maxHeartbeats 1000000 in
theorem specSafe_any (ctx : Int) (s : ByteArray) (w : World) (hs : s.size ≤ 1048576) : Calls Try.prog 30 #[.int .i64 ctx, .string s] w (SafePost ctx s w) := by
  by_cases hc : ctx = 1 ∨ ctx = 2 ∨ ctx = 3
  · have HC := hid hc
    obtain ⟨R, hR⟩ : ∃ R, unIn ctx s = R := ⟨_, rfl⟩
    have HR := hid hR
    rcases hc with rfl | rfl | rfl
    · have CU := fun w => specUnHTML_any s w hs
      rw [show unHtml s = R from hR] at CU
      clear hR
      cases R with
      | none =>
        have HN := hid (safeIn_no HC.out HR.out)
        have HCU := hid CU
        clear CU
        go_enter Try.func30, Try.ntmps30
        go_wp2_with fail
        refine (HCU.out _).mono ?_
        rintro e w1 ⟨rfl, hg1⟩
        simp only [Option.isSome, optStr]
        go_wp2
        go_ret
        exact ⟨ret_bool (by rw [HN.out]), hg1⟩
      | some r =>
        have HN := hid (safeIn_yes HC.out HR.out)
        have hl := unIn_len HR.out
        have HCU := hid CU
        clear CU
        have hts : (strOf r).size ≤ 1048576 := by rw [strOf_size]; omega
        obtain ⟨T, hT⟩ : ∃ T, strOf r = T := ⟨_, rfl⟩
        have HT := hid hT
        rw [hT] at hts
        clear hT
        have CE := fun w => specEscIn_any 1 T w hts
        obtain ⟨X, hX⟩ : ∃ X, escIn 1 T = X := ⟨_, rfl⟩
        unfold InPost at CE
        rw [hX] at CE
        have HX := hid hX
        have HCE := hid CE
        clear CE hX
        go_enter Try.func30, Try.ntmps30
        go_wp2_with fail
        refine (HCU.out _).mono ?_
        rintro e w1 ⟨rfl, hg1⟩
        simp only [Option.isSome, optStr]
        rw [show strOf r = T from HT.out]
        go_wp2_with fail
        refine (HCE.out _).mono ?_
        rintro e w2 ⟨rfl, hg2⟩
        go_wp2
        go_ret
        exact ⟨ret_bool (by rw [HN.out, HT.out, HX.out]), gb_trans hg1 hg2⟩
    · have CU := fun w => specUnURL_any s w hs
      rw [show unUrl (bytesI s) = R from hR] at CU
      clear hR
      cases R with
      | none =>
        have HN := hid (safeIn_no HC.out HR.out)
        have HCU := hid CU
        clear CU
        go_enter Try.func30, Try.ntmps30
        go_wp2_with fail
        refine (HCU.out _).mono ?_
        rintro e w1 ⟨rfl, hg1⟩
        simp only [Option.isSome, optStr]
        go_wp2
        go_ret
        exact ⟨ret_bool (by rw [HN.out]), hg1⟩
      | some r =>
        have HN := hid (safeIn_yes HC.out HR.out)
        have hl := unIn_len HR.out
        have HCU := hid CU
        clear CU
        have hts : (strOf r).size ≤ 1048576 := by rw [strOf_size]; omega
        obtain ⟨T, hT⟩ : ∃ T, strOf r = T := ⟨_, rfl⟩
        have HT := hid hT
        rw [hT] at hts
        clear hT
        have CE := fun w => specEscIn_any 2 T w hts
        obtain ⟨X, hX⟩ : ∃ X, escIn 2 T = X := ⟨_, rfl⟩
        unfold InPost at CE
        rw [hX] at CE
        have HX := hid hX
        have HCE := hid CE
        clear CE hX
        go_enter Try.func30, Try.ntmps30
        go_wp2_with fail
        refine (HCU.out _).mono ?_
        rintro e w1 ⟨rfl, hg1⟩
        simp only [Option.isSome, optStr]
        rw [show strOf r = T from HT.out]
        go_wp2_with fail
        refine (HCE.out _).mono ?_
        rintro e w2 ⟨rfl, hg2⟩
        go_wp2
        go_ret
        exact ⟨ret_bool (by rw [HN.out, HT.out, HX.out]), gb_trans hg1 hg2⟩
    · have CU := fun w => specUnScript_any s w hs
      rw [show unScript (bytesI s) = R from hR] at CU
      clear hR
      cases R with
      | none =>
        have HN := hid (safeIn_no HC.out HR.out)
        have HCU := hid CU
        clear CU
        go_enter Try.func30, Try.ntmps30
        go_wp2_with fail
        refine (HCU.out _).mono ?_
        rintro e w1 ⟨rfl, hg1⟩
        simp only [Option.isSome, optStr]
        go_wp2
        go_ret
        exact ⟨ret_bool (by rw [HN.out]), hg1⟩
      | some r =>
        have HN := hid (safeIn_yes HC.out HR.out)
        have hl := unIn_len HR.out
        have HCU := hid CU
        clear CU
        have hts : (strOf r).size ≤ 1048576 := by rw [strOf_size]; omega
        obtain ⟨T, hT⟩ : ∃ T, strOf r = T := ⟨_, rfl⟩
        have HT := hid hT
        rw [hT] at hts
        clear hT
        have CE := fun w => specEscIn_any 3 T w hts
        obtain ⟨X, hX⟩ : ∃ X, escIn 3 T = X := ⟨_, rfl⟩
        unfold InPost at CE
        rw [hX] at CE
        have HX := hid hX
        have HCE := hid CE
        clear CE hX
        go_enter Try.func30, Try.ntmps30
        go_wp2_with fail
        refine (HCU.out _).mono ?_
        rintro e w1 ⟨rfl, hg1⟩
        simp only [Option.isSome, optStr]
        rw [show strOf r = T from HT.out]
        go_wp2_with fail
        refine (HCE.out _).mono ?_
        rintro e w2 ⟨rfl, hg2⟩
        go_wp2
        go_ret
        exact ⟨ret_bool (by rw [HN.out, HT.out, HX.out]), gb_trans hg1 hg2⟩
  · have HN := hid (safeIn_raw (s := s) hc)
    have h1 : ctx ≠ 1 := fun h => hc (.inl h)
    have h2 : ctx ≠ 2 := fun h => hc (.inr (.inl h))
    have h3 : ctx ≠ 3 := fun h => hc (.inr (.inr h))
    have CE := fun w => specEscIn_any ctx s w hs
    unfold InPost at CE
    rw [escIn_raw ctx s h1 h2 h3] at CE
    have HCE := hid CE
    have e1 : (ctx == 1) = false := by simpa using h1
    have e2 : (ctx == 2) = false := by simpa using h2
    have e3 : (ctx == 3) = false := by simpa using h3
    clear h1 h2 h3 CE hc
    go_enter Try.func30, Try.ntmps30
    go_wp2_with fail
    refine (HCE.out _).mono ?_
    rintro e w2 ⟨rfl, hg2⟩
    go_wp2
    go_ret
    exact ⟨ret_bool (by rw [HN.out]), hg2⟩

set_option maxHeartbeats 1000000 in
theorem implSafe_any (ctx : Int) (s : ByteArray) (w : World) (hs : s.size ≤ 1048576) : Calls Try.prog 29 #[.int .i64 ctx, .string s] w (SafePost ctx s w) := by
  by_cases hc : ctx = 1 ∨ ctx = 2 ∨ ctx = 3
  · have HC := hid hc
    obtain ⟨R, hR⟩ : ∃ R, unIn ctx s = R := ⟨_, rfl⟩
    have HR := hid hR
    rcases hc with rfl | rfl | rfl
    · have CU := fun w => implUnHTML_any s w hs
      rw [show unHtml s = R from hR] at CU
      clear hR
      cases R with
      | none =>
        have HN := hid (safeIn_no HC.out HR.out)
        have HCU := hid CU
        clear CU
        go_enter Try.func29, Try.ntmps29
        go_wp2_with fail
        refine (HCU.out _).mono ?_
        rintro e w1 ⟨rfl, hg1⟩
        simp only [Option.isSome, optStr]
        go_wp2
        go_ret
        exact ⟨ret_bool (by rw [HN.out]), hg1⟩
      | some r =>
        have HN := hid (safeIn_yes HC.out HR.out)
        have hl := unIn_len HR.out
        have HCU := hid CU
        clear CU
        have hts : (strOf r).size ≤ 1048576 := by rw [strOf_size]; omega
        obtain ⟨T, hT⟩ : ∃ T, strOf r = T := ⟨_, rfl⟩
        have HT := hid hT
        rw [hT] at hts
        clear hT
        have CE := fun w => implEscIn_any 1 T w hts
        obtain ⟨X, hX⟩ : ∃ X, escIn 1 T = X := ⟨_, rfl⟩
        unfold InPost at CE
        rw [hX] at CE
        have HX := hid hX
        have HCE := hid CE
        clear CE hX
        go_enter Try.func29, Try.ntmps29
        go_wp2_with fail
        refine (HCU.out _).mono ?_
        rintro e w1 ⟨rfl, hg1⟩
        simp only [Option.isSome, optStr]
        rw [show strOf r = T from HT.out]
        go_wp2_with fail
        refine (HCE.out _).mono ?_
        rintro e w2 ⟨rfl, hg2⟩
        go_wp2
        go_ret
        exact ⟨ret_bool (by rw [HN.out, HT.out, HX.out]), gb_trans hg1 hg2⟩
    · have CU := fun w => implUnURL_any s w hs
      rw [show unUrl (bytesI s) = R from hR] at CU
      clear hR
      cases R with
      | none =>
        have HN := hid (safeIn_no HC.out HR.out)
        have HCU := hid CU
        clear CU
        go_enter Try.func29, Try.ntmps29
        go_wp2_with fail
        refine (HCU.out _).mono ?_
        rintro e w1 ⟨rfl, hg1⟩
        simp only [Option.isSome, optStr]
        go_wp2
        go_ret
        exact ⟨ret_bool (by rw [HN.out]), hg1⟩
      | some r =>
        have HN := hid (safeIn_yes HC.out HR.out)
        have hl := unIn_len HR.out
        have HCU := hid CU
        clear CU
        have hts : (strOf r).size ≤ 1048576 := by rw [strOf_size]; omega
        obtain ⟨T, hT⟩ : ∃ T, strOf r = T := ⟨_, rfl⟩
        have HT := hid hT
        rw [hT] at hts
        clear hT
        have CE := fun w => implEscIn_any 2 T w hts
        obtain ⟨X, hX⟩ : ∃ X, escIn 2 T = X := ⟨_, rfl⟩
        unfold InPost at CE
        rw [hX] at CE
        have HX := hid hX
        have HCE := hid CE
        clear CE hX
        go_enter Try.func29, Try.ntmps29
        go_wp2_with fail
        refine (HCU.out _).mono ?_
        rintro e w1 ⟨rfl, hg1⟩
        simp only [Option.isSome, optStr]
        rw [show strOf r = T from HT.out]
        go_wp2_with fail
        refine (HCE.out _).mono ?_
        rintro e w2 ⟨rfl, hg2⟩
        go_wp2
        go_ret
        exact ⟨ret_bool (by rw [HN.out, HT.out, HX.out]), gb_trans hg1 hg2⟩
    · have CU := fun w => implUnScript_any s w hs
      rw [show unScript (bytesI s) = R from hR] at CU
      clear hR
      cases R with
      | none =>
        have HN := hid (safeIn_no HC.out HR.out)
        have HCU := hid CU
        clear CU
        go_enter Try.func29, Try.ntmps29
        go_wp2_with fail
        refine (HCU.out _).mono ?_
        rintro e w1 ⟨rfl, hg1⟩
        simp only [Option.isSome, optStr]
        go_wp2
        go_ret
        exact ⟨ret_bool (by rw [HN.out]), hg1⟩
      | some r =>
        have HN := hid (safeIn_yes HC.out HR.out)
        have hl := unIn_len HR.out
        have HCU := hid CU
        clear CU
        have hts : (strOf r).size ≤ 1048576 := by rw [strOf_size]; omega
        obtain ⟨T, hT⟩ : ∃ T, strOf r = T := ⟨_, rfl⟩
        have HT := hid hT
        rw [hT] at hts
        clear hT
        have CE := fun w => implEscIn_any 3 T w hts
        obtain ⟨X, hX⟩ : ∃ X, escIn 3 T = X := ⟨_, rfl⟩
        unfold InPost at CE
        rw [hX] at CE
        have HX := hid hX
        have HCE := hid CE
        clear CE hX
        go_enter Try.func29, Try.ntmps29
        go_wp2_with fail
        refine (HCU.out _).mono ?_
        rintro e w1 ⟨rfl, hg1⟩
        simp only [Option.isSome, optStr]
        rw [show strOf r = T from HT.out]
        go_wp2_with fail
        refine (HCE.out _).mono ?_
        rintro e w2 ⟨rfl, hg2⟩
        go_wp2
        go_ret
        exact ⟨ret_bool (by rw [HN.out, HT.out, HX.out]), gb_trans hg1 hg2⟩
  · have HN := hid (safeIn_raw (s := s) hc)
    have e1 : (ctx == 1) = false := by simp; exact fun h => hc (.inl h)
    have e2 : (ctx == 2) = false := by simp; exact fun h => hc (.inr (.inl h))
    have e3 : (ctx == 3) = false := by simp; exact fun h => hc (.inr (.inr h))
    clear hc
    go_enter Try.func29, Try.ntmps29
    go_wp2
    go_ret
    exact ⟨ret_bool (by rw [HN.out]), gb_refl _ _⟩

theorem escapeIn_walk (a0 : Int) (a1 : ByteArray) (w : World) (_w0 : (Lit.int .i64 a0).wf = true) (_w1 : a1.size ≤ maxLen) : Calls Try.prog 9 #[.int .i64 a0, .string a1] w fun e w' => e = .returned (.bool true) ∧ Below w.heap.size w w' := by
  unfold maxLen at _w1
  by_cases h : a1.size ≤ 1048576
  · have c1 := fun w => specEscIn_any a0 a1 w h
    have c2 := fun w => implEscIn_any a0 a1 w h
    unfold InPost at c1 c2
    obtain ⟨T, hT⟩ : ∃ T, escIn a0 a1 = T := ⟨_, rfl⟩
    rw [hT] at c1 c2
    have C1 := hid c1
    have C2 := hid c2
    clear hT c1 c2
    go_enter Try.func9, Try.ntmps9
    go_wp2_with fail
    refine (C1.out _).mono ?_
    rintro e w1 ⟨rfl, hg1⟩
    go_wp2_with fail
    refine (C2.out _).mono ?_
    rintro e w2 ⟨rfl, hg2⟩
    go_wp2
    go_ret
    exact ⟨ret_bool (by simp), gb_below (gb_trans hg1 hg2)⟩
  · go_enter Try.func9, Try.ntmps9
    go_wp2
    go_ret
    exact ⟨rfl, Below.refl _ _⟩

theorem isSafeIn_walk (a0 : Int) (a1 : ByteArray) (w : World) (_w0 : (Lit.int .i64 a0).wf = true) (_w1 : a1.size ≤ maxLen) : Calls Try.prog 11 #[.int .i64 a0, .string a1] w fun e w' => e = .returned (.bool true) ∧ Below w.heap.size w w' := by
  unfold maxLen at _w1
  by_cases h : a1.size ≤ 1048576
  · have c1 := fun w => specSafe_any a0 a1 w h
    have c2 := fun w => implSafe_any a0 a1 w h
    unfold SafePost at c1 c2
    obtain ⟨T, hT⟩ : ∃ T, safeIn a0 a1 = T := ⟨_, rfl⟩
    rw [hT] at c1 c2
    have C1 := hid c1
    have C2 := hid c2
    clear hT c1 c2
    go_enter Try.func11, Try.ntmps11
    go_wp2_with fail
    refine (C1.out _).mono ?_
    rintro e w1 ⟨rfl, hg1⟩
    go_wp2_with fail
    refine (C2.out _).mono ?_
    rintro e w2 ⟨rfl, hg2⟩
    go_wp2
    go_ret
    exact ⟨ret_bool (by simp), gb_below (gb_trans hg1 hg2)⟩
  · go_enter Try.func11, Try.ntmps11
    go_wp2
    go_ret
    exact ⟨rfl, Below.refl _ _⟩
end Go.Proofs.Ytolefcbkhmcdmaa
