/- Walks of the laws on DecodeQuic and IsShortest. -/
import Derived.Test.YthobnpifndnopaaQ1
namespace Go.Proofs.Ythobnpifndnopaa
open Go.ChangeShapes Go.WideShapes Go.ChangeAt Go.RowKit QM
set_option linter.unusedVariables false
def shB (s : ByteArray) (p : Int) : Bool := match dq s p with
  | none => false
  | some (n, k) => (p + (k : Int) - p == sizeI (n : Int))
theorem dq_cases (s : ByteArray) (p : Int) : dqV (dq s p) p = .tuple #[.int .i64 0, .int .i64 0, .bool false] ∧ shB s p = false ∨ ∃ n k : Nat, (dqV (dq s p) p = .tuple #[.int .i64 n, .int .i64 (p + k), .bool true] ∧ (p + (k : Int) - p == sizeI (n : Int)) = shB s p) ∧ n ≤ 4611686018427387903 ∧ 1 ≤ k ∧ k ≤ 8 ∧ 0 ≤ p ∧ p + k ≤ s.size := by
  cases h : dq s p with
  | none => exact .inl ⟨rfl, by simp [shB, h]⟩
  | some x =>
    obtain ⟨n, k⟩ := x
    refine .inr ⟨n, k, ⟨rfl, by simp [shB, h]⟩, ?_⟩
    unfold dq at h
    split at h
    · cases h
    · have hd := deq_some h
      rw [List.length_drop, bl_len] at hd
      have hk := hd.1
      have := hd.2.2.1
      unfold maxQ at this
      omega
theorem walk_FnExactDecodeQuic (s : ByteArray) (_w0 : s.size ≤ maxLen) (at' : Int) (_w : (Lit.int .i64 at').wf = true) (w : World) : Calls Try.prog 3 #[.string s, .int .i64 at'] w fun e w' => e = .returned (.bool true) ∧ Below w.heap.size w w' := by
  by_cases hs : s.size ≤ 1048576
  · have hd : decide ((1048576 : Int) < (s.size : Int)) = false := by simp; omega
    rcases dq_cases s at' with ⟨hv, hb⟩ | ⟨n, k, ⟨hv, hb⟩, hn, hk, hk1, hp, hpk⟩
    all_goals go_enter Try.func3, Try.ntmps3
    all_goals go_wp2_with (first | (go_at_call 15; refine (sDQ _ _ _ hs).mono ?_; rintro e w' ⟨rfl, rfl⟩; rw [hv]) | (go_at_call 16; refine (iDQ _ _ _ hs).mono ?_; rintro e w' ⟨rfl, rfl⟩; rw [hv]))
    all_goals go_ret
    all_goals exact ⟨rfl, Below.refl _ _⟩
  · have hd : decide ((1048576 : Int) < (s.size : Int)) = true := by simp; omega
    go_enter Try.func3, Try.ntmps3
    go_wp2
    go_ret
    exact ⟨rfl, Below.refl _ _⟩
theorem sShort (s : ByteArray) (at' : Int) (_w : (Lit.int .i64 at').wf = true) (w : World) (hs : s.size ≤ 1048576) : Calls Try.prog 17 #[.string s, .int .i64 at'] w fun e w' => e = .returned (.bool (shB s at')) ∧ w = w' := by
  rcases dq_cases s at' with ⟨hv, hb⟩ | ⟨n, k, ⟨hv, hb⟩, hn, hk, hk1, hp, hpk⟩
  all_goals go_enter Try.func17, Try.ntmps17
  all_goals go_wp2_with (first | (go_at_call 15; refine (sDQ _ _ _ hs).mono ?_; rintro e w' ⟨rfl, rfl⟩; rw [hv]) | (go_at_call 52; refine (sSize _ _).mono ?_; rintro e w' ⟨rfl, rfl⟩))
  all_goals go_ret
  · exact ⟨ret_bool hb.symm, rfl⟩
  · exact ⟨rfl, rfl⟩
theorem iShort (s : ByteArray) (at' : Int) (_w : (Lit.int .i64 at').wf = true) (w : World) (hs : s.size ≤ 1048576) : Calls Try.prog 18 #[.string s, .int .i64 at'] w fun e w' => e = .returned (.bool (shB s at')) ∧ w = w' := by
  rcases dq_cases s at' with ⟨hv, hb⟩ | ⟨n, k, ⟨hv, hb⟩, hn, hk, hk1, hp, hpk⟩
  all_goals go_enter Try.func18, Try.ntmps18
  all_goals go_wp2_with (first | (go_at_call 16; refine (iDQ _ _ _ hs).mono ?_; rintro e w' ⟨rfl, rfl⟩; rw [hv]) | (go_at_call 53; refine (iSize _ _).mono ?_; rintro e w' ⟨rfl, rfl⟩))
  all_goals go_ret
  · exact ⟨ret_bool hb.symm, rfl⟩
  · exact ⟨rfl, rfl⟩
theorem walk_FnExactIsShortest (s : ByteArray) (_w0 : s.size ≤ maxLen) (at' : Int) (_w : (Lit.int .i64 at').wf = true) (w : World) : Calls Try.prog 4 #[.string s, .int .i64 at'] w fun e w' => e = .returned (.bool true) ∧ Below w.heap.size w w' := by
  by_cases hs : s.size ≤ 1048576
  · have hd : decide ((1048576 : Int) < (s.size : Int)) = false := by simp; omega
    go_enter Try.func4, Try.ntmps4
    go_wp2_with (first | (go_at_call 17; refine (sShort _ _ _w _ hs).mono ?_; rintro e w' ⟨rfl, rfl⟩) | (go_at_call 18; refine (iShort _ _ _w _ hs).mono ?_; rintro e w' ⟨rfl, rfl⟩))
    all_goals go_ret
    all_goals exact ⟨rfl, Below.refl _ _⟩
  · have hd : decide ((1048576 : Int) < (s.size : Int)) = true := by simp; omega
    go_enter Try.func4, Try.ntmps4
    go_wp2
    go_ret
    exact ⟨rfl, Below.refl _ _⟩
end Go.Proofs.Ythobnpifndnopaa
