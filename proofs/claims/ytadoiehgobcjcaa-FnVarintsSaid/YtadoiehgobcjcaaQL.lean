/- Walks of the laws on DecodeQuic and IsShortest. -/
import Derived.Test.YtadoiehgobcjcaaQ1
namespace Go.Proofs.Ytadoiehgobcjcaa
open Go.ChangeShapes Go.WideShapes Go.ChangeAt Go.RowKit QM
set_option linter.unusedVariables false
def shB (s : ByteArray) (p : Int) : Bool := match dq s p with
  | none => false
  | some (n, k) => (p + (k : Int) - p == sizeI (n : Int))
theorem dq_cases (s : ByteArray) (p : Int) : dqV (dq s p) p = .tuple #[.int .i64 0, .int .i64 0, .bool false] ∧ shB s p = false ∨ ∃ n k : Nat, (dqV (dq s p) p = .tuple #[.int .i64 n, .int .i64 (p + k), .bool true] ∧ (p + (k : Int) - p == sizeI (n : Int)) = shB s p) ∧ n ≤ 4611686018427387903 ∧ 1 ≤ k ∧ k ≤ 8 ∧ 0 ≤ p ∧ p + k ≤ s.size := by
  cases h : dq s p with
  | none => exact .inl ⟨rfl, by simp [shB, h]⟩
  | some x =>
    obtain ⟨n, k⟩ := x
    refine .inr ⟨n, k, ⟨rfl, by simp [shB, h]⟩, ?_⟩
    unfold dq at h
    split at h
    · cases h
    · have hd := deq_some h
      rw [List.length_drop, bl_len] at hd
      have hk := hd.1
      have := hd.2.2.1
      unfold maxQ at this
      omega
theorem sShort (s : ByteArray) (at' : Int) (_w : (Lit.int .i64 at').wf = true) (w : World) (hs : s.size ≤ 1048576) : Calls Try.prog 23 #[.string s, .int .i64 at'] w fun e w' => e = .returned (.bool (shB s at')) ∧ w = w' := by
  rcases dq_cases s at' with ⟨hv, hb⟩ | ⟨n, k, ⟨hv, hb⟩, hn, hk, hk1, hp, hpk⟩
  all_goals go_enter Try.func23, Try.ntmps23
  all_goals go_wp2_with (first | (go_at_call 14; refine (sDQ _ _ _ hs).mono ?_; rintro e w' ⟨rfl, rfl⟩; rw [hv]) | (go_at_call 48; refine (sSize _ _).mono ?_; rintro e w' ⟨rfl, rfl⟩))
  all_goals go_ret
  · exact ⟨ret_bool hb.symm, rfl⟩
  · exact ⟨rfl, rfl⟩
theorem iShort (s : ByteArray) (at' : Int) (_w : (Lit.int .i64 at').wf = true) (w : World) (hs : s.size ≤ 1048576) : Calls Try.prog 12 #[.string s, .int .i64 at'] w fun e w' => e = .returned (.bool (shB s at')) ∧ w = w' := by
  rcases dq_cases s at' with ⟨hv, hb⟩ | ⟨n, k, ⟨hv, hb⟩, hn, hk, hk1, hp, hpk⟩
  all_goals go_enter Try.func12, Try.ntmps12
  all_goals go_wp2_with (first | (go_at_call 9; refine (iDQ _ _ _ hs).mono ?_; rintro e w' ⟨rfl, rfl⟩; rw [hv]) | (go_at_call 11; refine (iSize _ _).mono ?_; rintro e w' ⟨rfl, rfl⟩))
  all_goals go_ret
  · exact ⟨ret_bool hb.symm, rfl⟩
  · exact ⟨rfl, rfl⟩
end Go.Proofs.Ytadoiehgobcjcaa
