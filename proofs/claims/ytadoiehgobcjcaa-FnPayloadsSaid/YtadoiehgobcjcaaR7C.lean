/- impl.DecodeFrame. No conditions. -/
import Derived.Test.YtadoiehgobcjcaaR6I
import Derived.Test.YtadoiehgobcjcaaR6J
import Derived.Test.YtadoiehgobcjcaaR7A
namespace Go.Proofs.Ytadoiehgobcjcaa
open Go.ChangeShapes Go.WideShapes Go.ChangeAt Go.RowKit Go.Sort QM
set_option linter.unusedVariables false
set_option linter.unusedSimpArgs false
theorem known_cases {k : Nat} (h : knownT k = true) : k = 4 ∨ k = 5 ∨ k = 8 ∨ k = 9 ∨ k = 10 ∨ k = 11 ∨ k = 12 ∨ k = 13 ∨ k = 14 ∨ k = 15 ∨ k = 16 ∨ k = 17 ∨ k = 18 ∨ k = 19 ∨ k = 20 ∨ k = 21 ∨ k = 22 ∨ k = 23 := by
  simp [knownT] at h; omega
theorem unknown_cases {k : Nat} (h : knownT k = false) : (k ≠ 4 ∧ k ≠ 5 ∧ k < 8) ∨ 23 < k := by
  simp [knownT] at h; omega
set_option maxRecDepth 20000 in
set_option maxHeartbeats 1000000 in
theorem iRF_out (s : ByteArray) (p : Int) (h : p < 0 ∨ (s.size : Int) ≤ p) (hs : s.size ≤ 1048576) (w : World) :
    Calls Try.prog 58 #[.string s, .int .i64 p] w fun e w' => Below w.heap.size w w' ∧ RfV none e := by
  rcases h with h | h
  · have hd : decide (0 ≤ p) = false := by simp; omega
    go_enter Try.func58, Try.ntmps58
    go_wp2_with (first | (go_at_call 47; go_in))
    refine bodyPost_ret (results_frame3 rfl _ _ w.heap.size #[.int .i64 0, .int .i64 0, .int .i64 0, .string ⟨#[]⟩, .bool false, .int .i64 0, .int .i64 0, .int .i64 0, .bool false] rfl (heap_alloc_new w _) rfl) rfl ⟨(Below.refl _ _).alloc (Nat.le_refl _) _, by exact RfV.none fr0 _⟩
  · have hd : decide (0 ≤ p) = true := by simp; omega
    have hd2 : decide (p ≤ (s.size : Int) - 1) = false := by simp; omega
    go_enter Try.func58, Try.ntmps58
    go_wp2_with (first | (go_at_call 47; go_in))
    refine bodyPost_ret (results_frame3 rfl _ _ w.heap.size #[.int .i64 0, .int .i64 0, .int .i64 0, .string ⟨#[]⟩, .bool false, .int .i64 0, .int .i64 0, .int .i64 0, .bool false] rfl (heap_alloc_new w _) rfl) rfl ⟨(Below.refl _ _).alloc (Nat.le_refl _) _, by exact RfV.none fr0 _⟩
theorem iRF (s : ByteArray) (hs : s.size ≤ 1048576) (p : Int) (w : World) :
    Calls Try.prog 58 #[.string s, .int .i64 p] w fun e w' => Below w.heap.size w w' ∧ RfV (frO s p) e := by
  by_cases h : 0 ≤ p ∧ p < s.size
  · obtain ⟨p, rfl⟩ := Int.eq_ofNat_of_zero_le h.1
    have hp : p < s.size := by omega
    rw [frO_in hp]
    obtain ⟨k, hk⟩ : ∃ k, (s[p]'hp).toNat = k := ⟨_, rfl⟩
    rw [hk]
    cases hn : knownT k
    · rw [rfK_none s k _ hn]
      rcases unknown_cases hn with ⟨h4, h5, h8⟩ | h8
      · exact iRF_lo s hs p hp k hk h4 h5 h8 w
      · exact iRF_hi s hs p hp k hk h8 w
    · rcases known_cases hn with rfl | rfl | rfl | rfl | rfl | rfl | rfl | rfl | rfl | rfl | rfl | rfl | rfl | rfl | rfl | rfl | rfl | rfl
      · exact iRF_4 s hs p hp hk w
      · exact iRF_5 s hs p hp hk w
      · exact iRF_str s hs p hp 8 hk (by decide) (by decide) w
      · exact iRF_str s hs p hp 9 hk (by decide) (by decide) w
      · exact iRF_str s hs p hp 10 hk (by decide) (by decide) w
      · exact iRF_str s hs p hp 11 hk (by decide) (by decide) w
      · exact iRF_str s hs p hp 12 hk (by decide) (by decide) w
      · exact iRF_str s hs p hp 13 hk (by decide) (by decide) w
      · exact iRF_str s hs p hp 14 hk (by decide) (by decide) w
      · exact iRF_str s hs p hp 15 hk (by decide) (by decide) w
      · exact iRF_16 s hs p hp hk w
      · exact iRF_17 s hs p hp hk w
      · exact iRF_18 s hs p hp hk w
      · exact iRF_19 s hs p hp hk w
      · exact iRF_20 s hs p hp hk w
      · exact iRF_21 s hs p hp hk w
      · exact iRF_22 s hs p hp hk w
      · exact iRF_23 s hs p hp hk w
  · rw [frO_out h]
    exact iRF_out s p (by omega) hs w
end Go.Proofs.Ytadoiehgobcjcaa
