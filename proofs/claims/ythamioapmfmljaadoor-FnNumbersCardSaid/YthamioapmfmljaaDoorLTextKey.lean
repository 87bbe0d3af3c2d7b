/- The law TextKey. -/
import Derived.Test.YthamioapmfmljaaDoorTextKey
namespace Go.Proofs.YthamioapmfmljaaDoor
open Go.RowKit
set_option linter.unusedVariables false

theorem eqKey_sameT (t : Bool) (n : Int) (s : ByteArray) (w : World) :
    Calls Tryd.prog 17 #[.agg #[.bool t, .int .i64 n, .string s], .agg #[.bool t, .int .i64 n, .string s]] w fun e w' => e = .returned (.bool true) ∧ w.grownBy w' none := by
  go_enter Tryd.func17, Tryd.ntmps17
  go_wp2_with fail
  go_ret
  exact ⟨rfl, gb_alloc (gb_alloc (gb_refl _ _) _) _⟩
theorem keyT_agg (s : ByteArray) (r : Int) (b : Bool) : ∃ t n u, keyT s r b = .agg #[.bool t, .int .i64 n, .string u] := by
  cases b
  · exact ⟨_, _, _, rfl⟩
  · exact ⟨_, _, _, rfl⟩
theorem lawTextKey (s : ByteArray) (w : World) (hs0 : s.size ≤ maxLen) (hL : LaidW w) :
    Calls Tryd.prog 6 #[.string s] w fun e w' => e = .returned (.bool true) ∧ Below w.heap.size w w' := by
  have HL := hid hL
  clear hL
  rcases Nat.lt_or_ge 1048576 s.size with hb | hb
  · go_enter Tryd.func6, Tryd.ntmps6
    go_wp2_with fail
    go_ret
    exact ⟨rfl, gb_below (gb_refl _ _)⟩
  go_enter Tryd.func6, Tryd.ntmps6
  go_wp2_with fail
  refine (specTextKey s _ hb).mono ?_
  rintro e w1 ⟨r, b, rfl, hS, hg⟩
  have HS := hid hS
  have HG := hid hg
  clear hS hg
  obtain ⟨t, n, u, hK⟩ := keyT_agg s r b
  have HK := hid hK
  rw [hK]
  clear hK
  go_wp2_with fail
  refine (implTextKey s _ hb (HL.out.grow (gb_alloc HG.out _))).mono ?_
  rintro e w2 ⟨r', b', rfl, hS, hg⟩
  have HG2 := hid hg
  have H1 := hid ((HoldsT.new w1 #[.bool t, .int .i64 n, .string u] 28).grow hg)
  obtain ⟨rfl, rfl⟩ := Says.unique (by omega) (by omega) HS.out hS
  rw [HK.out]
  clear hg hS HS HK
  obtain ⟨c0, c1, c2⟩ := H1.out.cells3
  have lt := H1.out.lt
  go_wp2_with fail
  refine (eqKey_sameT _ _ _ _).mono ?_
  rintro e w3 ⟨rfl, hg3⟩
  go_wp2_with fail
  go_ret
  exact ⟨rfl, gb_below (gb_trans (gb_alloc (gb_trans (gb_alloc HG.out _) HG2.out) _) hg3)⟩
theorem textKeyLaid {w : World} (h : laidMetH Tryd.prog Rows.fnExactTextKeyRow.laid w) : LaidW w := by
  rw [MakeChecks.laidMetH_plain _ _ _ (by kernel_rfl)] at h
  exact allOf h
end Go.Proofs.YthamioapmfmljaaDoor
