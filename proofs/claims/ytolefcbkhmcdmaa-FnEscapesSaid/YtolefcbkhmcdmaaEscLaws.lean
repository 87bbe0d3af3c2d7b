/- What is escaped is unescaped. No program in sight. -/
import Derived.Test.YtolefcbkhmcdmaaSafe
namespace Go.Proofs.Ytolefcbkhmcdmaa
open Go.RowKit
set_option linter.unusedVariables false
set_option linter.unusedSimpArgs false

theorem getD_app (pre t : List Int) (k : Nat) : (pre ++ t).getD (pre.length + k) 0 = t.getD k 0 := by
  rw [List.getD_eq_getElem?_getD, List.getElem?_append_right (by omega), List.getD_eq_getElem?_getD]
  congr 2
  omega
theorem getD_app0 (pre t : List Int) : (pre ++ t).getD pre.length 0 = t.getD 0 0 := getD_app pre t 0
theorem hexV_hexU (d : Int) (small : Bool) (h0 : 0 ≤ d) (h1 : d < 16) : hexV (hexU d) small = some d := by
  unfold hexV hexU
  by_cases h : d < 10
  · rw [if_pos h, if_pos (by omega)]; congr 1; omega
  · rw [if_neg h, if_neg (by omega), if_pos (by omega)]; congr 1; omega
theorem two_enc (l : List Int) (p : Nat) (small : Bool) (c : Int) (h0 : 0 ≤ c) (h1 : c ≤ 255) (hl : p + 2 ≤ l.length) (ha : l.getD p 0 = hexU (c / 16)) (hb : l.getD (p + 1) 0 = hexU (c % 16)) : two l p small = some c := by
  rw [two_some hl (by rw [ha]; exact hexV_hexU _ _ (by omega) (by omega)) (by rw [hb]; exact hexV_hexU _ _ (by omega) (by omega))]
  congr 1
  omega

theorem unU_enc : ∀ (rest pre acc : List Int) (f : Nat), (∀ x ∈ rest, 0 ≤ x ∧ x ≤ 255) → (escAll encU rest).length < f → unU (pre ++ escAll encU rest) f pre.length acc = some (acc ++ rest)
  | [], pre, acc, f, _, _ => by rw [unU_end _ _ _ _ (by simp [escAll])]; simp
  | c :: rest, pre, acc, f, hb, hf => by
    have hc := hb c (by simp)
    have hr : ∀ x ∈ rest, 0 ≤ x ∧ x ≤ 255 := fun x hx => hb x (by simp [hx])
    obtain ⟨f, rfl⟩ : ∃ f', f = f' + 1 := ⟨f - 1, by omega⟩
    have e : escAll encU (c :: rest) = encU c ++ escAll encU rest := by simp [escAll]
    rw [e] at hf ⊢
    rw [List.length_append] at hf
    cases hp : plainU c
    · have he : encU c = [37, hexU (c / 16), hexU (c % 16)] := by unfold encU; rw [hp]; rfl
      rw [he] at hf ⊢
      have h37 : (pre ++ ([37, hexU (c / 16), hexU (c % 16)] ++ escAll encU rest)).getD pre.length 0 = 37 := by rw [getD_app0]; rfl
      have ht : two (pre ++ ([37, hexU (c / 16), hexU (c % 16)] ++ escAll encU rest)) (pre.length + 1) true = some c :=
        two_enc _ _ _ c hc.1 hc.2 (by simp; omega) (by rw [getD_app]; rfl) (by rw [Nat.add_assoc, getD_app]; rfl)
      rw [unU_hex _ _ _ _ c (by simp) h37 ht]
      have := unU_enc rest (pre ++ [37, hexU (c / 16), hexU (c % 16)]) (acc ++ [c]) f hr (by simp at hf; omega)
      rw [List.length_append] at this
      rw [List.append_assoc, List.append_assoc] at this
      exact this
    · have he : encU c = [c] := by unfold encU; rw [hp]; rfl
      have hpp : (97 ≤ c ∧ c ≤ 122) ∨ (65 ≤ c ∧ c ≤ 90) ∨ (48 ≤ c ∧ c ≤ 57) ∨ c = 45 ∨ c = 95 ∨ c = 46 ∨ c = 126 := by unfold plainU at hp; exact of_decide_eq_true hp
      rw [he] at hf ⊢
      have hg : (pre ++ ([c] ++ escAll encU rest)).getD pre.length 0 = c := by rw [getD_app0]; rfl
      rw [unU_other _ _ _ _ (by simp) (by rw [hg]; omega) (by rw [hg]; omega), hg]
      have := unU_enc rest (pre ++ [c]) (acc ++ [c]) f hr (by simp at hf; omega)
      rw [List.length_append] at this
      rw [List.append_assoc, List.append_assoc] at this
      exact this
theorem unUrl_enc (l : List Int) (hb : ∀ x ∈ l, 0 ≤ x ∧ x ≤ 255) : unUrl (escAll encU l) = some l := by
  have := unU_enc l [] [] ((escAll encU l).length + 1) hb (by omega)
  simpa [unUrl] using this

theorem unS_enc : ∀ (rest pre acc : List Int) (f : Nat), (∀ x ∈ rest, 0 ≤ x ∧ x ≤ 255) → (escAll encS rest).length < f → unS (pre ++ escAll encS rest) f pre.length acc = some (acc ++ rest)
  | [], pre, acc, f, _, _ => by rw [unS_end _ _ _ _ (by simp [escAll])]; simp
  | c :: rest, pre, acc, f, hb, hf => by
    have hc := hb c (by simp)
    have hr : ∀ x ∈ rest, 0 ≤ x ∧ x ≤ 255 := fun x hx => hb x (by simp [hx])
    obtain ⟨f, rfl⟩ : ∃ f', f = f' + 1 := ⟨f - 1, by omega⟩
    have e : escAll encS (c :: rest) = encS c ++ escAll encS rest := by simp [escAll]
    rw [e] at hf ⊢
    rw [List.length_append] at hf
    cases hp : bareS c
    · have he : encS c = [92, 120, hexU (c / 16), hexU (c % 16)] := by unfold encS; rw [hp]; rfl
      rw [he] at hf ⊢
      have h92 : (pre ++ ([92, 120, hexU (c / 16), hexU (c % 16)] ++ escAll encS rest)).getD pre.length 0 = 92 := by rw [getD_app0]; rfl
      have hx : pre.length + 1 < (pre ++ ([92, 120, hexU (c / 16), hexU (c % 16)] ++ escAll encS rest)).length ∧ (pre ++ ([92, 120, hexU (c / 16), hexU (c % 16)] ++ escAll encS rest)).getD (pre.length + 1) 0 = 120 := ⟨by simp, by rw [getD_app]; rfl⟩
      have ht : two (pre ++ ([92, 120, hexU (c / 16), hexU (c % 16)] ++ escAll encS rest)) (pre.length + 2) false = some c :=
        two_enc _ _ _ c hc.1 hc.2 (by simp; omega) (by rw [getD_app]; rfl) (by rw [Nat.add_assoc, getD_app]; rfl)
      rw [unS_hex _ _ _ _ c (by simp) h92 hx ht]
      have := unS_enc rest (pre ++ [92, 120, hexU (c / 16), hexU (c % 16)]) (acc ++ [c]) f hr (by simp at hf; omega)
      rw [List.length_append] at this
      rw [List.append_assoc, List.append_assoc] at this
      exact this
    · have he : encS c = [c] := by unfold encS; rw [hp]; rfl
      have hpp : 32 ≤ c ∧ c ≤ 126 ∧ c ≠ 92 ∧ c ≠ 39 ∧ c ≠ 34 ∧ c ≠ 60 ∧ c ≠ 62 ∧ c ≠ 38 := by unfold bareS at hp; exact of_decide_eq_true hp
      rw [he] at hf ⊢
      have hg : (pre ++ ([c] ++ escAll encS rest)).getD pre.length 0 = c := by rw [getD_app0]; rfl
      rw [unS_other _ _ _ _ (by simp) (by rw [hg]; omega), hg]
      have := unS_enc rest (pre ++ [c]) (acc ++ [c]) f hr (by simp at hf; omega)
      rw [List.length_append] at this
      rw [List.append_assoc, List.append_assoc] at this
      exact this
theorem unScript_enc (l : List Int) (hb : ∀ x ∈ l, 0 ≤ x ∧ x ≤ 255) : unScript (escAll encS l) = some l := by
  have := unS_enc l [] [] ((escAll encS l).length + 1) hb (by omega)
  simpa [unScript] using this

/-! entities -/
theorem bytesI_extract (s : ByteArray) (a b : Nat) : bytesI (s.extract a b) = ((bytesI s).drop a).take (b - a) := by
  unfold bytesI
  rw [Lib.extract_data, List.map_take, List.map_drop]
theorem bytesI_inj {s t : ByteArray} (h : bytesI s = bytesI t) : s = t := by rw [← strOf_bytesI s, ← strOf_bytesI t, h]
theorem toList_inj {s t : ByteArray} (h : s.toList = t.toList) : s = t := by
  rw [ByteArray.toList_eq, ByteArray.toList_eq] at h
  exact ByteArray.ext (Array.toList_inj.1 h)
theorem mt_list (s : ByteArray) (k : Nat) (c : Int) (hc : Special c) : mt s k c = decide (((bytesI s).drop k).take (ent c).length = ent c) := by
  have hcb : ∀ x ∈ ent c, 0 ≤ x ∧ x ≤ 255 := ent_bd c (by unfold Special at hc; omega) (by unfold Special at hc; omega)
  have hes := ent_size c hc
  by_cases h : ((bytesI s).drop k).take (ent c).length = ent c
  · rw [decide_eq_true h]
    have hlen := congrArg List.length h
    rw [List.length_take, List.length_drop, bytesI_length] at hlen
    have e : s.extract k (k + (ent c).length) = strOf (ent c) := by
      apply bytesI_inj
      rw [bytesI_extract, bytesI_strOf _ hcb, Nat.add_sub_cancel_left, h]
    unfold mt
    rw [decide_eq_true (by omega), e]
    simp
  · rw [decide_eq_false h]
    cases hm : mt s k c
    · rfl
    · exfalso
      unfold mt at hm
      rw [Bool.and_eq_true, beq_iff_eq] at hm
      have e := toList_inj hm.2
      apply h
      have := congrArg bytesI e
      rw [bytesI_extract, bytesI_strOf _ hcb, Nat.add_sub_cancel_left] at this
      exact this
theorem entAt_enc (s : ByteArray) (k : Nat) (c : Int) (hc : Special c) (t : List Int) (h : (bytesI s).drop k = ent c ++ t) : entAt s k = some c := by
  have m1 := mt_list s k 38 (by simp [Special])
  have m2 := mt_list s k 60 (by simp [Special])
  have m3 := mt_list s k 62 (by simp [Special])
  have m4 := mt_list s k 34 (by simp [Special])
  have m5 := mt_list s k 39 (by simp [Special])
  rw [h] at m1 m2 m3 m4 m5
  unfold entAt five
  rcases hc with rfl | rfl | rfl | rfl | rfl
  all_goals
    simp [ent] at m1 m2 m3 m4 m5
    simp [List.find?, m1, m2, m3, m4, m5]
theorem unH_enc (s : ByteArray) : ∀ (rest pre acc : List Int) (f : Nat), bytesI s = pre ++ escAll ent rest → (escAll ent rest).length < f → unH s f pre.length acc = some (acc ++ rest)
  | [], pre, acc, f, hs, _ => by
    rw [unH_end _ _ _ _ (by rw [← bytesI_length, hs]; simp [escAll])]; simp
  | c :: rest, pre, acc, f, hs, hf => by
    obtain ⟨f, rfl⟩ : ∃ f', f = f' + 1 := ⟨f - 1, by omega⟩
    have e : escAll ent (c :: rest) = ent c ++ escAll ent rest := by simp [escAll]
    rw [e] at hf hs
    rw [List.length_append] at hf
    have hlen : s.size = pre.length + ((ent c).length + (escAll ent rest).length) := by rw [← bytesI_length, hs]; simp
    by_cases hsp : Special c
    · have hes := ent_size c hsp
      have hd : (bytesI s).drop pre.length = ent c ++ escAll ent rest := by rw [hs, List.drop_left]
      have h38 : (bytesI s).getD pre.length 0 = 38 := by
        rw [hs, getD_app0]
        rcases hsp with rfl | rfl | rfl | rfl | rfl <;> rfl
      rw [unH_ent s f _ acc c (by omega) h38 (entAt_enc s _ c hsp _ hd)]
      have := unH_enc s rest (pre ++ ent c) (acc ++ [c]) f (by rw [hs, List.append_assoc]) (by omega)
      rw [List.length_append] at this
      rw [List.append_assoc] at this
      exact this
    · have he := ent_plain c hsp
      rw [he] at hf hs hlen
      have hg : (bytesI s).getD pre.length 0 = c := by rw [hs, getD_app0]; rfl
      rw [unH_other s f _ acc (by simp at hlen; omega) (by rw [hg]; unfold Special at hsp; omega), hg]
      have := unH_enc s rest (pre ++ [c]) (acc ++ [c]) f (by rw [hs, List.append_assoc]) (by simp at hf; omega)
      rw [List.length_append] at this
      rw [List.append_assoc] at this
      exact this

theorem escAll_bd (f : Int → List Int) (hf : ∀ c, 0 ≤ c → c ≤ 255 → ∀ x ∈ f c, 0 ≤ x ∧ x ≤ 255) (l : List Int) (hl : ∀ x ∈ l, 0 ≤ x ∧ x ≤ 255) : ∀ x ∈ escAll f l, 0 ≤ x ∧ x ≤ 255 := by
  intro x hx
  obtain ⟨c, hc, hxc⟩ := List.mem_flatMap.1 hx
  exact hf c (hl c hc).1 (hl c hc).2 x hxc
theorem encU_bd (c : Int) (h0 : 0 ≤ c) (h1 : c ≤ 255) : ∀ x ∈ encU c, 0 ≤ x ∧ x ≤ 255 := by
  have a := hexU_bd (c / 16) (by omega) (by omega)
  have b := hexU_bd (c % 16) (by omega) (by omega)
  unfold encU
  split <;> (intro x hx; simp at hx; omega)
theorem encS_bd (c : Int) (h0 : 0 ≤ c) (h1 : c ≤ 255) : ∀ x ∈ encS c, 0 ≤ x ∧ x ≤ 255 := by
  have a := hexU_bd (c / 16) (by omega) (by omega)
  have b := hexU_bd (c % 16) (by omega) (by omega)
  unfold encS
  split <;> (intro x hx; simp at hx; omega)
theorem bytesI_esc (f : Int → List Int) (hf : ∀ c, 0 ≤ c → c ≤ 255 → ∀ x ∈ f c, 0 ≤ x ∧ x ≤ 255) (s : ByteArray) : bytesI (strOf (escAll f (bytesI s))) = escAll f (bytesI s) := bytesI_strOf _ (escAll_bd f hf _ (bytesI_bd s))

theorem back_html (s : ByteArray) : unHtml (strOf (escAll ent (bytesI s))) = some (bytesI s) := by
  have hb := bytesI_esc ent ent_bd s
  have hl := congrArg List.length hb
  rw [bytesI_length] at hl
  have := unH_enc (strOf (escAll ent (bytesI s))) (bytesI s) [] [] ((strOf (escAll ent (bytesI s))).size + 1) hb (by omega)
  simpa [unHtml] using this
theorem back_url (s : ByteArray) : unUrl (bytesI (strOf (escAll encU (bytesI s)))) = some (bytesI s) := by
  rw [bytesI_esc encU encU_bd]; exact unUrl_enc _ (bytesI_bd s)
theorem back_script (s : ByteArray) : unScript (bytesI (strOf (escAll encS (bytesI s)))) = some (bytesI s) := by
  rw [bytesI_esc encS encS_bd]; exact unScript_enc _ (bytesI_bd s)
theorem safe_esc (k : Int) (s : ByteArray) : safeIn k (escIn k s) = true := by
  by_cases h1 : k = 1
  · subst h1
    rw [safeIn_yes (Or.inl rfl) (show unIn 1 (escIn 1 s) = some (bytesI s) from back_html s), strOf_bytesI]
    simp
  · by_cases h2 : k = 2
    · subst h2
      rw [safeIn_yes (Or.inr (Or.inl rfl)) (show unIn 2 (escIn 2 s) = some (bytesI s) from back_url s), strOf_bytesI]
      simp
    · by_cases h3 : k = 3
      · subst h3
        rw [safeIn_yes (Or.inr (Or.inr rfl)) (show unIn 3 (escIn 3 s) = some (bytesI s) from back_script s), strOf_bytesI]
        simp
      · exact safeIn_raw (by omega)
theorem bytesI_app (s t : ByteArray) : bytesI (s ++ t) = bytesI s ++ bytesI t := by
  unfold bytesI
  rw [ByteArray.data_append]
  simp
theorem escIn_app (k : Int) (s t : ByteArray) : escIn k (s ++ t) = escIn k s ++ escIn k t := by
  unfold escIn
  split
  · rw [bytesI_app, escAll_app, strOf_app]
  · split
    · rw [bytesI_app, escAll_app, strOf_app]
    · split
      · rw [bytesI_app, escAll_app, strOf_app]
      · rfl
theorem escIn_size (k : Int) (s : ByteArray) : (escIn k s).size ≤ 6 * s.size := by
  have hl := bytesI_length s
  unfold escIn
  split
  · rw [strOf_size, ← hl]; exact escAll_length _ ent_length _
  · split
    · rw [strOf_size, ← hl]; exact escAll_length _ encU_length _
    · split
      · rw [strOf_size, ← hl]; exact escAll_length _ encS_length _
      · omega
end Go.Proofs.Ytolefcbkhmcdmaa
