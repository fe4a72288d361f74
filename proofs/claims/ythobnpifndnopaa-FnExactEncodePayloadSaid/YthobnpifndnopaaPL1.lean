/- Walk of the law on EncodePayload. -/
import Derived.Test.YthobnpifndnopaaP4
namespace Go.Proofs.Ythobnpifndnopaa
open Go.ChangeShapes Go.WideShapes Go.ChangeAt Go.RowKit Go.Sort QM
set_option linter.unusedVariables false
theorem walk_FnExactEncodePayload {A : Option Addr} {c n : Nat} {l : List Fr} (W : World) (hr : Rd W W.heap.size A (encF9 l)) (hn : n ≤ 9223372036854775807) (hl : l.length = n) (hd : ∀ k, k < n → (l.getD k fr0).d.size ≤ maxLen) :
    Calls Try.prog 13 #[.slice A n c] W fun e w' => e = .returned (.bool true) ∧ Below W.heap.size W w' := by
  go_enter Try.func13, Try.ntmps13
  go_wp2_with fail
  refine (szFrameS_any l n A c W W.heap.size (Nat.le_refl _) hr hn hl hd).mono ?_
  rintro e w0 ⟨r, rfl, h00, hrr⟩
  rcases hrr with rfl | hS
  · go_wp2
    go_ret
    exact ⟨rfl, h00⟩
  have HL := Lib.hid hl; clear hl
  have HD : Hid (∀ j, j < n → (l.getD j fr0).d.size ≤ 1048576) := Lib.hid fun j hj => hS.data j (by rw [HL.out]; exact hj)
  have hs : n ≤ 1048576 := by have := hS.1; have := hS.2; rw [HL.out] at this; omega
  have hd1 : decide (r < 0) = false := by simp; exact hS.1
  clear hS hd
  go_wp2_with fail
  refine (toFrameS_any h00.size (hr.below h00 (Nat.le_refl _)) hs HL).mono ?_
  rintro e w1 ⟨rfl, hb1, ho1⟩
  have h01 := below_next h00 h00.size hb1
  go_wp2_with fail
  refine (sEP (B := w1.heap.size) (Nat.le_refl _) (own_rd ho1) hs HL HD).mono ?_
  rintro e w2 ⟨rfl, hb2⟩
  have h02 := below_next h01 h01.size hb2
  go_wp2_with fail
  refine (toFrameS_any h02.size (hr.below h02 (Nat.le_refl _)) hs HL).mono ?_
  rintro e w3 ⟨rfl, hb3, ho3⟩
  have h03 := below_next h02 h02.size hb3
  go_wp2_with fail
  refine (iEP (B := w3.heap.size) (Nat.le_refl _) (own_rd ho3) hs HL HD).mono ?_
  rintro e w4 ⟨rfl, hb4⟩
  have h04 := below_next h03 h03.size hb4
  have ho34 := own_step ho3 hb4
  go_wp2_with fail
  refine (toFrameS_any h04.size (hr.below h04 (Nat.le_refl _)) hs HL).mono ?_
  rintro e w5 ⟨rfl, hb5, ho5⟩
  have h05 := below_next h04 h04.size hb5
  have ho35 := own_step ho34 hb5
  go_wp2_with fail
  refine (eqFrameS_self (B := w5.heap.size) (Nat.le_refl _) (own_rd ho35) (own_rd ho5) hn HL).mono ?_
  rintro e w6 ⟨rfl, hb6⟩
  have h06 := below_next h05 h05.size hb6
  go_wp2
  go_ret
  exact ⟨rfl, h06⟩
end Go.Proofs.Ythobnpifndnopaa
