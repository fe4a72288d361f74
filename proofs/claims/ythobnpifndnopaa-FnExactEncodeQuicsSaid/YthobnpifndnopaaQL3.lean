/- Walk of the law on EncodeQuics. -/
import Derived.Test.YthobnpifndnopaaQ6
namespace Go.Proofs.Ythobnpifndnopaa
open Go.ChangeShapes Go.WideShapes Go.ChangeAt Go.RowKit Go.Sort QM
set_option linter.unusedVariables false
theorem walk_FnExactEncodeQuics {A : Option Addr} {c n : Nat} {l : List Int} (W : World) (hr : Rd W W.heap.size A (ints l)) (hn : n ≤ maxLen) (HL : Hid (l.length = n)) :
    Calls Try.prog 6 #[.slice A n c] W fun e w' => e = .returned (.bool true) ∧ Below W.heap.size W w' := by
  by_cases hs : n ≤ 1048576
  · have hd : decide ((1048576 : Int) < (n : Int)) = false := by simp; omega
    go_enter Try.func6, Try.ntmps6
    go_wp2_with fail
    refine (toIntS_any (Nat.le_refl _) hr (by omega) HL).mono ?_
    rintro e w1 ⟨rfl, hb1, ho1⟩
    go_wp2_with fail
    refine (sEncs (B := w1.heap.size) (Nat.le_refl _) (own_rd ho1) hs HL).mono ?_
    rintro e w2 ⟨rfl, hb2⟩
    have h02 := below_next hb1 hb1.size hb2
    go_wp2_with fail
    refine (toIntS_any h02.size (hr.below h02 (Nat.le_refl _)) (by omega) HL).mono ?_
    rintro e w3 ⟨rfl, hb3, ho3⟩
    have h03 := below_next h02 h02.size hb3
    go_wp2_with fail
    refine (iEncs (B := w3.heap.size) (Nat.le_refl _) (own_rd ho3) hs HL).mono ?_
    rintro e w4 ⟨rfl, hb4⟩
    have h04 := below_next h03 h03.size hb4
    have ho34 := own_step ho3 hb4
    go_wp2_with fail
    refine (toIntS_any h04.size (hr.below h04 (Nat.le_refl _)) (by omega) HL).mono ?_
    rintro e w5 ⟨rfl, hb5, ho5⟩
    have h05 := below_next h04 h04.size hb5
    have ho35 := own_step ho34 hb5
    go_wp2_with fail
    refine (eqIntS_any (B := w5.heap.size) (Nat.le_refl _) (own_rd ho35) (own_rd ho5) (by omega) HL).mono ?_
    rintro e w6 ⟨rfl, hb6⟩
    have h06 := below_next h05 h05.size hb6
    go_wp2
    go_ret
    exact ⟨rfl, h06⟩
  · have hd : decide ((1048576 : Int) < (n : Int)) = true := by simp; omega
    go_enter Try.func6, Try.ntmps6
    go_wp2
    go_ret
    exact ⟨rfl, Below.refl _ _⟩
end Go.Proofs.Ythobnpifndnopaa
