/- Walks of the laws on DecodeQuic and IsShortest. -/
import Derived.Test.YtgeicojnjagboaaQ1
namespace Go.Proofs.Ytgeicojnjagboaa
open Go.ChangeShapes Go.WideShapes Go.ChangeAt Go.RowKit QM
set_option linter.unusedVariables false
def shB (s : ByteArray) (p : Int) : Bool := match dq s p with
  | none => false
  | some (n, k) => (p + (k : Int) - p == sizeI (n : Int))
theorem dq_cases (s : ByteArray) (p : Int) : dqV (dq s p) p = .tuple #[.int .i64 0, .int .i64 0, .bool false] ∧ shB s p = false ∨ ∃ n k : Nat, (dqV (dq s p) p = .tuple #[.int .i64 n, .int .i64 (p + k), .bool true] ∧ (p + (k : Int) - p == sizeI (n : Int)) = shB s p) ∧ n ≤ 4611686018427387903 ∧ 1 ≤ k ∧ k ≤ 8 ∧ 0 ≤ p ∧ p + k ≤ s.size := by
  cases h : dq s p with
  | none => exact .inl ⟨rfl, by simp [shB, h]⟩
  | some x =>
    obtain ⟨n, k⟩ := x
    refine .inr ⟨n, k, ⟨rfl, by simp [shB, h]⟩, ?_⟩
    unfold dq at h
    split at h
    · cases h
    · have hd := deq_some h
      rw [List.length_drop, bl_len] at hd
      have hk := hd.1
      have := hd.2.2.1
      unfold maxQ at this
      omega
end Go.Proofs.Ytgeicojnjagboaa
