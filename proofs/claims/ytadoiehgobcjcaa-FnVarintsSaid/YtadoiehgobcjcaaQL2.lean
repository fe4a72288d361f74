/- Walk of the law on EncodeQuic. -/
import Derived.Test.YtadoiehgobcjcaaQ4
namespace Go.Proofs.Ytadoiehgobcjcaa
open Go.ChangeShapes Go.WideShapes Go.ChangeAt Go.RowKit QM
set_option linter.unusedVariables false
set_option linter.unusedSimpArgs false
theorem sEnc0 (n : Int) (h : qB n = false) (w : World) : Calls Try.prog 10 #[.int .i64 n] w fun e w' => e = .returned (.string ⟨#[]⟩) ∧ Below w.heap.size w w' := by
  have hk : sizeI n = 0 := by unfold sizeI; rw [h]; rfl
  go_enter Try.func10, Try.ntmps10
  go_wp2_with (first | (go_at_call 48; refine (sSize _ _).mono ?_; rintro e w' ⟨rfl, rfl⟩))
  go_loop [4, 5] (fun s v => s = .string ⟨#[]⟩ ∧ v = .int .i64 (-1)) (fun _ _ => 0)
  case atStart => exact ⟨rfl, rfl⟩
  case round =>
    obtain ⟨rfl, rfl⟩ := hrel
    go_wp2
    go_ret
    exact ⟨rfl, Below.refl _ _⟩
theorem iEnc0 (n : Int) (h : qB n = false) (w : World) : Calls Try.prog 8 #[.int .i64 n] w fun e w' => e = .returned (.string ⟨#[]⟩) ∧ Below w.heap.size w w' := by
  have hk : sizeI n = 0 := by unfold sizeI; rw [h]; rfl
  go_enter Try.func8, Try.ntmps8
  go_wp2_with (first | (go_at_call 11; refine (iSize _ _).mono ?_; rintro e w' ⟨rfl, rfl⟩))
  go_ret
  exact ⟨rfl, Below.refl _ _⟩
/-- The form of any number: none outside the range. -/
def encI (n : Int) : ByteArray := if qB n then encB n.toNat else ⟨#[]⟩
theorem sEncI (n : Int) (w : World) : Calls Try.prog 10 #[.int .i64 n] w fun e w' => e = .returned (.string (encI n)) ∧ Below w.heap.size w w' := by
  cases h : qB n
  · have e : encI n = ⟨#[]⟩ := by simp [encI, h]
    rw [e]; exact sEnc0 n h w
  · obtain ⟨h0, h1⟩ := qB_true h
    obtain ⟨m, rfl⟩ := Int.eq_ofNat_of_zero_le h0
    have e : encI (m : Int) = encB m := by simp [encI, h]
    rw [e]; exact sEnc m (by omega) w
theorem iEncI (n : Int) (w : World) : Calls Try.prog 8 #[.int .i64 n] w fun e w' => e = .returned (.string (encI n)) ∧ Below w.heap.size w w' := by
  cases h : qB n
  · have e : encI n = ⟨#[]⟩ := by simp [encI, h]
    rw [e]; exact iEnc0 n h w
  · obtain ⟨h0, h1⟩ := qB_true h
    obtain ⟨m, rfl⟩ := Int.eq_ofNat_of_zero_le h0
    have e : encI (m : Int) = encB m := by simp [encI, h]
    rw [e]; exact iEnc m (by omega) w
end Go.Proofs.Ytadoiehgobcjcaa
