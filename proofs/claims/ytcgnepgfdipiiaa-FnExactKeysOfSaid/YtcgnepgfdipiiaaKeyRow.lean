/- Rows of keys: KeysOf, eqKeyS, markKeyS, heldKeyS. -/
import Derived.Test.YtcgnepgfdipiiaaStill
import Derived.Test.YtcgnepgfdipiiaaHeld
import Derived.Test.YtcgnepgfdipiiaaKeys
import Derived.Test.YtcgnepgfdipiiaaMarkS
import Derived.Test.YtcgnepgfdipiiaaEq
import Derived.Maps.AppendAt
namespace Go.Proofs.Ytcgnepgfdipiiaa
open Go.RowKit
set_option linter.unusedVariables false

def kcells : List (Bool × Int × ByteArray) → List Value
  | [] => []
  | (t, n, s) :: r => [.bool t, .int .i64 n, .string s] ++ kcells r
theorem kcells_len : ∀ ks : List (Bool × Int × ByteArray), (kcells ks).length = ks.length * 3
  | [] => rfl
  | (t, n, s) :: r => by simp only [kcells, List.length_append, List.length_cons, List.length_nil, kcells_len r]; omega
theorem kcells_app : ∀ a b : List (Bool × Int × ByteArray), kcells (a ++ b) = kcells a ++ kcells b
  | [], b => rfl
  | (t, n, s) :: r, b => by simp only [List.cons_append, kcells, kcells_app r b]; rfl
def Forest.keys : Forest → List (Bool × Int × ByteArray)
  | .nil => []
  | .cons t n s _ _ _ _ _ r => (t, n, s) :: r.keys
theorem Forest.keys_len : ∀ f : Forest, f.keys.length = f.len
  | .nil => rfl
  | .cons _ _ _ _ _ _ _ _ r => by simp only [Forest.keys, List.length_cons, Forest.len, Forest.keys_len r]
def valKeys (k : Int) (f : Forest) : List (Bool × Int × ByteArray) := if k = 4 then f.keys else []
def entryK : Value := .agg #[.bool false, .int .i64 0, .string ByteArray.empty]
theorem Try.infoK3 : (Try.prog.info? 26).map (fun i => (i.zero, i.size, i.bytes)) = some (some entryK, 3, 32) := by kernel_rfl
theorem own_someK {w : World} {lo : Nat} {e : TypeId} {size : Nat} {A : Option Addr} {n c : Nat} {xs : List Value} (h : w.ownsRow lo e size (.slice A n c) n xs) (hn : 0 < n) : ∃ g, A = some ⟨g, 0, none⟩ ∧ n ≤ c ∧ lo ≤ g ∧ g < w.heap.size := by
  rcases h.2 with ⟨_, h0⟩ | ⟨g, cap, cur, hv, h1, h2, h3, h4, _⟩
  · omega
  · injection hv with e1 e2 e3
    subst e3
    exact ⟨g, e1, h3, h1, (Array.getElem?_eq_some_iff.1 h2).1⟩
theorem own_range {w : World} {lo : Nat} {e : TypeId} {size g n c : Nat} {xs ys zs : List Value} (h : w.ownsRow lo e size (.slice (some ⟨g, 0, none⟩) n c) n (xs ++ (ys ++ zs))) (o : Nat) (ho : xs.length = o) : w.rangeAt g o ys := fun j v hj => by
  have hl : j < ys.length := (List.getElem?_eq_some_iff.1 hj).1
  have hn := h.1
  simp only [List.length_append] at hn
  subst ho
  rw [h.cellAt (xs.length + j) (by omega), List.getElem?_append_right (by omega), Nat.add_sub_cancel_left, List.getElem?_append_left hl]
  exact hj
theorem range3 {w : World} {b o : Nat} {c0 c1 c2 : Value} (h : w.rangeAt b o [c0, c1, c2]) : w.cell? ⟨b, o, none⟩ = some c0 ∧ w.cell? ⟨b, o + 1, none⟩ = some c1 ∧ w.cell? ⟨b, o + 2, none⟩ = some c2 := ⟨h 0 _ rfl, h 1 _ rfl, h 2 _ rfl⟩
/-- A row of keys of the call's own, in a block from lo to hi. -/
def KR (w : World) (lo hi : Nat) (ks : List (Bool × Int × ByteArray)) (A : Option Addr) (c : Nat) : Prop := w.ownsRow lo 26 3 (.slice A ks.length c) ks.length (kcells ks) ∧ ∀ g, (Value.slice A ks.length c).ownBlock = some g → g < hi
def KeysPost (w : World) (ks : List (Bool × Int × ByteArray)) (e : Ending) (w' : World) : Prop := ∃ A' c', e = .returned (.slice A' ks.length c') ∧ w'.ownsRow w.heap.size 26 3 (.slice A' ks.length c') ks.length (kcells ks) ∧ w.grownBy w' none
theorem own_monoK {w : World} {lo lo' : Nat} {e : TypeId} {n : Nat} {v : Value} {k : Nat} {xs : List Value} (h : w.ownsRow lo e k v n xs) (hl : lo' ≤ lo) : w.ownsRow lo' e k v n xs := by
  refine ⟨h.1, ?_⟩
  rcases h.2 with h2 | ⟨g, cap, cur, h1, h2, h3⟩
  · exact .inl h2
  · exact .inr ⟨g, cap, cur, h1, Nat.le_trans hl h2, h3⟩
theorem news_at (w : World) (cs : List Value) (t : TypeId) (b : Nat) (hb : b = w.heap.size) : ∀ j u, cs[j]? = some u → (w.alloc (.cells cs.toArray t)).cell? ((⟨b, 0, none⟩ : Addr).add j) = some u := by
  intro j u hj
  subst hb
  rw [Addr.add_mid, Nat.zero_add]
  have := HoldsT.cell (HoldsT.new w cs.toArray t) j
  rw [this]
  simpa using hj
set_option maxHeartbeats 2000000 in
theorem implKeys_any (f : Forest) (w : World) (k m : Int) (u : ByteArray) (x : Int) (A : Option Addr) (c : Nat) (L : List Nat) (hr : RowF w f A 0 f.len L) (hfs : f.size ≤ 1048576) :
    Calls Try.prog 45 #[.agg #[.int .i64 k, .int .i64 m, .string u, .int .i64 x, .slice A f.len c]] w (KeysPost w (valKeys k f)) := by
  obtain ⟨i0, hi, hz0, hz1, hz2⟩ := info_parts Try.infoK3
  obtain ⟨N, hN⟩ : ∃ N, f.len = N := ⟨_, rfl⟩
  have hNs : N ≤ 1048576 := by have := f.len_le; omega
  rw [hN] at hr ⊢
  have HR := hid hr
  have HN := hid hN
  have HI := hid (And.intro hi (And.intro hz0 (And.intro hz1 hz2)))
  have HV := hid (HoldsT.new w #[.int .i64 k, .int .i64 m, .string u, .int .i64 x, .slice A N c] 31)
  obtain ⟨ks, hks⟩ : ∃ ks, valKeys k f = ks := ⟨_, rfl⟩
  rw [hks]
  have HK := hid hks
  clear hr hN hks hi hz0 hz1 hz2
  by_cases hk : k = 4
  · subst hk
    have HF : Hid (f.keys = ks) := by show _ = _; rw [← HK.out]; rfl
    go_enter Try.func45, Try.ntmps45
    go_wp2_with fail
    go_loopw [3, 13] (fun sv iv wr => ∃ (i : Nat) (ds : List (Bool × Int × ByteArray)) (r : Forest) (M : List Nat) (OA : Option Addr) (oc : Nat), Hid (ks = ds ++ r.keys) ∧ Hid (ds.length = i) ∧ i + r.len = N ∧ sv = .slice OA i oc ∧ iv = .int .i64 i ∧ Hid (RowF w r A i N M) ∧
      Hid (wr.ownsRow (w.heap.size + 1) 26 3 (.slice OA i oc) i (kcells ds)) ∧ Hid (HoldsT wr w.heap.size #[.int .i64 4, .int .i64 m, .string u, .int .i64 x, .slice A N c] 31) ∧ Hid (w.grownBy wr none)) (fun _ i _ => N - (intOf i).toNat)
    case atStart =>
      refine ⟨0, [], f, L, _, _, hid HF.out.symm, hid rfl, by have := HN.out; omega, rfl, rfl, HR, ?_, hid ((HoldsT.new w _ _).alloc _), hid (gb_alloc (gb_alloc (gb_refl _ _) _) _)⟩
      have h0 := World.ownsRow_made (base := w.heap.size + 1) (e := 26) (size := 3) (w.alloc (.cells #[.int .i64 4, .int .i64 m, .string u, .int .i64 x, .slice A N c] 31)) #[] 0 (by simp) (by unfold maxLen; omega) (by simp)
      exact hid (by simpa [kcells] using h0)
    case round =>
      obtain ⟨i, ds, r, M, OA, oc, HE, HD, hir, rfl, rfl, HRr, HO, HX, HG⟩ := hrel
      obtain ⟨a0, a1, a2, a3, a4⟩ := HX.out.cells5
      have la := HX.out.lt
      cases r with
      | nil =>
        have hi : i = N := by simpa [Forest.len] using hir
        subst hi
        go_wp2_with fail
        go_ret
        have e : ks = ds := by have := HE.out; simpa [Forest.keys] using this
        subst e
        have hl := HD.out
        exact ⟨OA, oc, by rw [hl]; rfl, by rw [hl]; exact own_monoK HO.out (Nat.le_succ _), HG.out⟩
      | cons t n s kd nm v y sub r =>
        have hiN : i < N := by simp only [Forest.len] at hir; omega
        have hiN' : i + 1 + r.len = N := by simp only [Forest.len] at hir; omega
        obtain ⟨b, o, SA, sc, Ls, Lr, rfl, hb, R1, _, hs1, hs2, _⟩ := HRr.out.range
        have HS2 := hid hs2
        obtain ⟨c0, c1, c2, c3, c4, c5, c6, c7⟩ := range8 (rangeAt_grow R1 HG.out hb)
        have HBW := hid HX.out.lt
        have HO2 := hid ((HO.out.alloc (.cells #[.bool t, .int .i64 n, .string s, .int .i64 kd, .int .i64 nm, .string v, .int .i64 y, .slice SA sub.len sc] 64)).alloc (.cells #[.bool t, .int .i64 n, .string s] 26))
        have HX2 := hid ((HX.out.alloc (.cells #[.bool t, .int .i64 n, .string s, .int .i64 kd, .int .i64 nm, .string v, .int .i64 y, .slice SA sub.len sc] 64)).alloc (.cells #[.bool t, .int .i64 n, .string s] 26))
        have HG2 := hid (gb_alloc (gb_alloc HG.out (.cells #[.bool t, .int .i64 n, .string s, .int .i64 kd, .int .i64 nm, .string v, .int .i64 y, .slice SA sub.len sc] 64)) (.cells #[.bool t, .int .i64 n, .string s] 26))
        have HNW := hid (news_at (wr.alloc (.cells #[.bool t, .int .i64 n, .string s, .int .i64 kd, .int .i64 nm, .string v, .int .i64 y, .slice SA sub.len sc] 64)) [.bool t, .int .i64 n, .string s] 26 (wr.heap.size + 1) (by simp))
        clear hir hs1 hs2 R1 hb
        go_wp2_with (at_builtin; refine wpList_append_own_at _ rfl _ _ 54 rfl (w.heap.size + 1) 26 i0 entryK 3 32 Try.underlying54 HI.out.1 HI.out.2.1 HI.out.2.2.1 HI.out.2.2.2 rfl (by omega) _ i (kcells ds) rfl HO2.out ⟨wr.heap.size + 1, 0, none⟩ 1 1 [.bool t, .int .i64 n, .string s] rfl rfl HNW.out (by simp [Value.oneCell']) (by unfold maxLen; omega) (by omega) (by have h9 := HBW.out; simp only [World.size_alloc]; omega) ?_; intro v3 w3 hown3 hg3 _ hat3)
        obtain ⟨A3, oc3, rfl, hA3⟩ := own_form hown3
        have HO3 := hid (show w3.ownsRow (w.heap.size + 1) 26 3 (.slice A3 (i + 1) oc3) (i + 1) (kcells (ds ++ [(t, n, s)])) by rw [kcells_app]; exact hown3)
        have hne : ∀ g, (Value.slice OA i oc).ownBlock = some g → w.heap.size + 1 ≤ g := fun g hg => (HO.out.lt g hg).1
        have HX3 := hid (HX2.out.kept hg3 (fun e => by have := hne _ e; omega))
        have HG3 : Hid (w.grownBy w3 none) := hid (gb_fresh HG2.out hg3 (fun g hg => by have := hne _ hg; omega))
        clear a0 a1 a2 a3 a4 la c0 c1 c2 c3 c4 c5 c6 c7 hown3 hg3 hat3 hA3 hne HO2 HX2 HG2 HNW
        go_wp2_with fail
        go_roundw
        case rel => exact ⟨i + 1, ds ++ [(t, n, s)], r, _, A3, _, hid (by rw [List.append_assoc]; exact HE.out), hid (by rw [List.length_append, HD.out]; rfl), hiN', rfl, by go_num, HS2, HO3, HX3, HG3⟩
        case measure => simp [intOf]; omega
  · have hkb : ((k : Int) == 4) = false := by simpa using hk
    have HF : Hid (ks = []) := by show _ = _; rw [← HK.out]; unfold valKeys; rw [if_neg hk]
    clear hk
    go_enter Try.func45, Try.ntmps45
    go_wp2_with fail
    go_ret
    have h0 := World.ownsRow_made (base := w.heap.size) (e := 26) (size := 3) (w.alloc (.cells #[.int .i64 k, .int .i64 m, .string u, .int .i64 x, .slice A N c] 31)) #[] 0 (by simp) (by unfold maxLen; omega) (by simp)
    have e := HF.out
    subst e
    exact ⟨_, _, rfl, by simpa [kcells] using h0, gb_alloc (gb_alloc (gb_refl _ _) _) _⟩
set_option maxHeartbeats 2000000 in
theorem specKeys_any (f : Forest) (w : World) (k m : Int) (u : ByteArray) (x : Int) (A : Option Addr) (c : Nat) (L : List Nat) (hr : RowF w f A 0 f.len L) (hfs : f.size ≤ 1048576) :
    Calls Try.prog 44 #[.agg #[.int .i64 k, .int .i64 m, .string u, .int .i64 x, .slice A f.len c]] w (KeysPost w (valKeys k f)) := by
  obtain ⟨i0, hi, hz0, hz1, hz2⟩ := info_parts Try.infoK3
  obtain ⟨N, hN⟩ : ∃ N, f.len = N := ⟨_, rfl⟩
  have hNs : N ≤ 1048576 := by have := f.len_le; omega
  rw [hN] at hr ⊢
  have HR := hid hr
  have HN := hid hN
  have HI := hid (And.intro hi (And.intro hz0 (And.intro hz1 hz2)))
  have HV := hid (HoldsT.new w #[.int .i64 k, .int .i64 m, .string u, .int .i64 x, .slice A N c] 31)
  obtain ⟨ks, hks⟩ : ∃ ks, valKeys k f = ks := ⟨_, rfl⟩
  rw [hks]
  have HK := hid hks
  clear hr hN hks hi hz0 hz1 hz2
  by_cases hk : k = 4
  · subst hk
    have HF : Hid (f.keys = ks) := by show _ = _; rw [← HK.out]; rfl
    go_enter Try.func44, Try.ntmps44
    go_wp2_with fail
    go_loopw [3, 4] (fun sv iv wr => ∃ (i : Nat) (ds : List (Bool × Int × ByteArray)) (r : Forest) (M : List Nat) (OA : Option Addr) (oc : Nat), Hid (ks = ds ++ r.keys) ∧ Hid (ds.length = i) ∧ i + r.len = N ∧ sv = .slice OA i oc ∧ iv = .int .i64 i ∧ Hid (RowF w r A i N M) ∧
      Hid (wr.ownsRow (w.heap.size + 1) 26 3 (.slice OA i oc) i (kcells ds)) ∧ Hid (HoldsT wr w.heap.size #[.int .i64 4, .int .i64 m, .string u, .int .i64 x, .slice A N c] 31) ∧ Hid (w.grownBy wr none)) (fun _ i _ => N - (intOf i).toNat)
    case atStart =>
      refine ⟨0, [], f, L, _, _, hid HF.out.symm, hid rfl, by have := HN.out; omega, rfl, rfl, HR, ?_, hid ((HoldsT.new w _ _).alloc _), hid (gb_alloc (gb_alloc (gb_refl _ _) _) _)⟩
      have h0 := World.ownsRow_made (base := w.heap.size + 1) (e := 26) (size := 3) (w.alloc (.cells #[.int .i64 4, .int .i64 m, .string u, .int .i64 x, .slice A N c] 31)) #[] 0 (by simp) (by unfold maxLen; omega) (by simp)
      exact hid (by simpa [kcells] using h0)
    case round =>
      obtain ⟨i, ds, r, M, OA, oc, HE, HD, hir, rfl, rfl, HRr, HO, HX, HG⟩ := hrel
      obtain ⟨a0, a1, a2, a3, a4⟩ := HX.out.cells5
      have la := HX.out.lt
      cases r with
      | nil =>
        have hi : i = N := by simpa [Forest.len] using hir
        subst hi
        go_wp2_with fail
        go_ret
        have e : ks = ds := by have := HE.out; simpa [Forest.keys] using this
        subst e
        have hl := HD.out
        exact ⟨OA, oc, by rw [hl]; rfl, by rw [hl]; exact own_monoK HO.out (Nat.le_succ _), HG.out⟩
      | cons t n s kd nm v y sub r =>
        have hiN : i < N := by simp only [Forest.len] at hir; omega
        have hiN' : i + 1 + r.len = N := by simp only [Forest.len] at hir; omega
        obtain ⟨b, o, SA, sc, Ls, Lr, rfl, hb, R1, _, hs1, hs2, _⟩ := HRr.out.range
        have HS2 := hid hs2
        obtain ⟨c0, c1, c2, c3, c4, c5, c6, c7⟩ := range8 (rangeAt_grow R1 HG.out hb)
        have HBW := hid HX.out.lt
        have HO2 := hid (HO.out.alloc (.cells #[.bool t, .int .i64 n, .string s] 26))
        have HX2 := hid (HX.out.alloc (.cells #[.bool t, .int .i64 n, .string s] 26))
        have HG2 := hid (gb_alloc HG.out (.cells #[.bool t, .int .i64 n, .string s] 26))
        have HNW := hid (news_at wr [.bool t, .int .i64 n, .string s] 26 wr.heap.size rfl)
        clear hir hs1 hs2 R1 hb
        go_wp2_with (at_builtin; refine wpList_append_own_at _ rfl _ _ 54 rfl (w.heap.size + 1) 26 i0 entryK 3 32 Try.underlying54 HI.out.1 HI.out.2.1 HI.out.2.2.1 HI.out.2.2.2 rfl (by omega) _ i (kcells ds) rfl HO2.out ⟨wr.heap.size, 0, none⟩ 1 1 [.bool t, .int .i64 n, .string s] rfl rfl HNW.out (by simp [Value.oneCell']) (by unfold maxLen; omega) (by omega) (by have h9 := HBW.out; simp only [World.size_alloc]; omega) ?_; intro v3 w3 hown3 hg3 _ hat3)
        obtain ⟨A3, oc3, rfl, hA3⟩ := own_form hown3
        have HO3 := hid (show w3.ownsRow (w.heap.size + 1) 26 3 (.slice A3 (i + 1) oc3) (i + 1) (kcells (ds ++ [(t, n, s)])) by rw [kcells_app]; exact hown3)
        have hne : ∀ g, (Value.slice OA i oc).ownBlock = some g → w.heap.size + 1 ≤ g := fun g hg => (HO.out.lt g hg).1
        have HX3 := hid (HX2.out.kept hg3 (fun e => by have := hne _ e; omega))
        have HG3 : Hid (w.grownBy w3 none) := hid (gb_fresh HG2.out hg3 (fun g hg => by have := hne _ hg; omega))
        clear a0 a1 a2 a3 a4 la c0 c1 c2 c3 c4 c5 c6 c7 hown3 hg3 hat3 hA3 hne HO2 HX2 HG2 HNW
        go_wp2_with fail
        go_roundw
        case rel => exact ⟨i + 1, ds ++ [(t, n, s)], r, _, A3, _, hid (by rw [List.append_assoc]; exact HE.out), hid (by rw [List.length_append, HD.out]; rfl), hiN', rfl, by go_num, HS2, HO3, HX3, HG3⟩
        case measure => simp [intOf]; omega
  · have hkb : ((k : Int) == 4) = false := by simpa using hk
    have HF : Hid (ks = []) := by show _ = _; rw [← HK.out]; unfold valKeys; rw [if_neg hk]
    clear hk
    go_enter Try.func44, Try.ntmps44
    go_wp2_with fail
    go_loopw [3, 4] (fun sv iv wr => sv = .slice (some ⟨w.heap.size + 1, 0, none⟩) 0 0 ∧ iv = .int .i64 0 ∧ Hid (wr.ownsRow w.heap.size 26 3 (.slice (some ⟨w.heap.size + 1, 0, none⟩) 0 0) 0 []) ∧ Hid (HoldsT wr w.heap.size #[.int .i64 k, .int .i64 m, .string u, .int .i64 x, .slice A N c] 31) ∧ Hid (w.grownBy wr none)) (fun _ _ _ => 0)
    case atStart =>
      have h0 := World.ownsRow_made (base := w.heap.size) (e := 26) (size := 3) (w.alloc (.cells #[.int .i64 k, .int .i64 m, .string u, .int .i64 x, .slice A N c] 31)) #[] 0 (by simp) (by unfold maxLen; omega) (by simp)
      exact ⟨rfl, rfl, hid (by simpa [kcells] using h0), hid ((HoldsT.new w _ _).alloc _), hid (gb_alloc (gb_alloc (gb_refl _ _) _) _)⟩
    case round =>
      obtain ⟨rfl, rfl, HO, HX, HG⟩ := hrel
      obtain ⟨a0, a1, a2, a3, a4⟩ := HX.out.cells5
      have la := HX.out.lt
      go_wp2_with fail
      go_ret
      have e := HF.out
      subst e
      exact ⟨_, _, rfl, HO.out, HG.out⟩
end Go.Proofs.Ytcgnepgfdipiiaa
