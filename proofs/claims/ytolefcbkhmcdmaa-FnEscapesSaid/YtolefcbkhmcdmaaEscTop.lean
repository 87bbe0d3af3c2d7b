/- The law FnEscapes. -/
import Derived.Test.YtolefcbkhmcdmaaEscDraw
import Derived.Test.YtolefcbkhmcdmaaEscLaws
namespace Go.Proofs.Ytolefcbkhmcdmaa
open Go.RowKit
set_option linter.unusedVariables false

set_option maxRecDepth 100000 in
set_option maxHeartbeats 4000000 in
theorem escapes_walk (a0 : Option Addr) (len0 cap0 : Nat) (z0 : List Int) (w : World) (w0 : IsRow .u8 w a0 len0 cap0 z0) :
    Calls Try.prog 10 #[.slice a0 len0 cap0] w fun e w' => e = .returned (.bool true) ∧ Below w.heap.size w w' := by
  have hlen : len0 ≤ 9223372036854775807 := by
    rcases w0 with ⟨_, rfl, _⟩ | ⟨_, _, h1, h2, _⟩
    · omega
    · unfold maxLen at h2; omega
  obtain ⟨hr, hl⟩ := Rd.isRow w0
  clear w0
  by_cases h : len0 ≤ 1048576
  · have HR := hid hr
    have HL0 := hid hl
    clear hr hl
    go_enter Try.func10, Try.ntmps10
    go_wp2_with (go_at_call 26; go_in)
    go_wp2_with fail
    refine (drawEscapeIn_any _ _ _ _ _ HR.out HL0.out (by omega)).mono ?_
    rintro e w1 ⟨k, s, rfl, hs, hg1⟩
    go_wp2_with fail
    refine (drawEscapeURL_any _ _ _ _ _ (HR.out.grow hg1) HL0.out (by omega)).mono ?_
    rintro e w2 ⟨t, rfl, ht, hg2⟩
    have hes := escIn_size k s
    have het := escIn_size k t
    have cE := fun w => implEscIn_any k s w (by omega)
    have cY := fun w => implEscIn_any k t w (by omega)
    have cX := fun w => implEscIn_any k (s ++ t) w (by rw [ByteArray.size_append]; omega)
    have cS := fun w => implSafe_any k (escIn k s) w (by omega)
    unfold InPost at cE cY cX
    unfold SafePost at cS
    rw [safe_esc] at cS
    rw [escIn_app] at cX
    obtain ⟨E, hE⟩ : ∃ E, escIn k s = E := ⟨_, rfl⟩
    obtain ⟨Y, hY⟩ : ∃ Y, escIn k t = Y := ⟨_, rfl⟩
    rw [hE] at cE cX cS hes
    rw [hY] at cX cY het
    have k1 := escAll_length ent ent_length (bytesI s)
    have k2 := escAll_length encU encU_length (bytesI s)
    have k3 := escAll_length encS encS_length (bytesI s)
    rw [← strOf_size, bytesI_length] at k1 k2 k3
    have c1 := fun w => implEscHtml_any s w (by omega)
    have c2 := fun w => implEscUrl_any s w (by omega)
    have c3 := fun w => implEscScript_any s w (by omega)
    have u1 := fun w => implUnHTML_any (strOf (escAll ent (bytesI s))) w (by omega)
    have u2 := fun w => implUnURL_any (strOf (escAll encU (bytesI s))) w (by omega)
    have u3 := fun w => implUnScript_any (strOf (escAll encS (bytesI s))) w (by omega)
    rw [back_html] at u1
    rw [back_url] at u2
    rw [back_script] at u3
    unfold OptPost at u1 u2 u3
    unfold GivesStr at c1 c2 c3
    simp only [optStr, Option.isSome, strOf_bytesI] at u1 u2 u3
    obtain ⟨H, hH⟩ : ∃ H, strOf (escAll ent (bytesI s)) = H := ⟨_, rfl⟩
    obtain ⟨U, hU⟩ : ∃ U, strOf (escAll encU (bytesI s)) = U := ⟨_, rfl⟩
    obtain ⟨S, hS⟩ : ∃ S, strOf (escAll encS (bytesI s)) = S := ⟨_, rfl⟩
    rw [hH] at c1 u1
    rw [hU] at c2 u2
    rw [hS] at c3 u3
    clear k1 k2 k3 hH hU hS hE hY
    have CE := hid cE
    have CX := hid cX
    have CY := hid cY
    have CS := hid cS
    have C1 := hid c1
    have C2 := hid c2
    have C3 := hid c3
    have U1 := hid u1
    have U2 := hid u2
    have U3 := hid u3
    clear cE cX cY cS c1 c2 c3 u1 u2 u3
    go_wp2_with fail
    refine (CE.out _).mono ?_
    rintro e w3 ⟨rfl, hg3⟩
    go_wp2_with fail
    refine (C1.out _).mono ?_
    rintro e w4 ⟨rfl, hg4⟩
    go_wp2_with fail
    refine (U1.out _).mono ?_
    rintro e w5 ⟨rfl, hg5⟩
    go_wp2_with fail
    refine (C2.out _).mono ?_
    rintro e w6 ⟨rfl, hg6⟩
    go_wp2_with fail
    refine (U2.out _).mono ?_
    rintro e w7 ⟨rfl, hg7⟩
    go_wp2_with fail
    refine (C3.out _).mono ?_
    rintro e w8 ⟨rfl, hg8⟩
    go_wp2_with fail
    refine (U3.out _).mono ?_
    rintro e w9 ⟨rfl, hg9⟩
    have G := hid (gb_trans (gb_trans (gb_trans (gb_trans (gb_trans (gb_trans (gb_trans (gb_trans hg1 hg2) hg3) hg4) hg5) hg6) hg7) hg8) hg9)
    clear hg1 hg2 hg3 hg4 hg5 hg6 hg7 hg8 hg9
    go_wp2_with fail
    refine (CS.out _).mono ?_
    rintro e w10 ⟨rfl, hg10⟩
    go_wp2_with fail
    refine (CX.out _).mono ?_
    rintro e w11 ⟨rfl, hg11⟩
    go_wp2_with fail
    refine (CY.out _).mono ?_
    rintro e w12 ⟨rfl, hg12⟩
    go_wp2
    go_ret
    exact ⟨ret_bool (by simp), gb_below (gb_trans (gb_trans (gb_trans G.out hg10) hg11) hg12)⟩
  · go_enter Try.func10, Try.ntmps10
    go_wp2_with (go_at_call 26; go_in)
    go_wp2
    go_ret
    exact ⟨rfl, Below.refl _ _⟩
end Go.Proofs.Ytolefcbkhmcdmaa
