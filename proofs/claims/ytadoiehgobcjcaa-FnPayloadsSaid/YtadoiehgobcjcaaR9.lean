/- spec.DecodeFrame. No conditions. -/
import Derived.Test.YtadoiehgobcjcaaR7D
import Derived.Test.YtadoiehgobcjcaaR8a
import Derived.Test.YtadoiehgobcjcaaR8b
import Derived.Test.YtadoiehgobcjcaaR8c
import Derived.Test.YtadoiehgobcjcaaR8d
namespace Go.Proofs.Ytadoiehgobcjcaa
open Go.ChangeShapes Go.WideShapes Go.ChangeAt Go.RowKit Go.Sort QM
set_option linter.unusedVariables false
set_option linter.unusedSimpArgs false
/-- What DecodeFrame reads at place p. -/
def dfO (s : ByteArray) (p : Int) : Option (Fr × Int) := (frO s p).filter fun x => okF x.1
theorem dfO_none {s : ByteArray} {p : Int} (h : frO s p = none) : dfO s p = none := by unfold dfO; rw [h]; rfl
set_option maxRecDepth 20000 in
set_option maxHeartbeats 1000000 in
theorem sDF_lo (s : ByteArray) (hs : s.size ≤ 1048576) (p : Int) (h : p < 0) (w : World) :
    Calls Try.prog 32 #[.string s, .int .i64 p] w fun e w' => Below w.heap.size w w' ∧ e = .returned (dfVal none) := by
  have hd1 : decide (p < 0) = true := by simp; omega
  have k0 : Bk (w.alloc (.cells #[.int .i64 0, .int .i64 0, .int .i64 0, .string ⟨#[]⟩, .bool false, .int .i64 0, .int .i64 0, .int .i64 0, .bool false] 40)) w.heap.size 40 #[.int .i64 0, .int .i64 0, .int .i64 0, .string ⟨#[]⟩, .bool false, .int .i64 0, .int .i64 0, .int .i64 0, .bool false] := heap_alloc_new w _
  have hb0 : Below w.heap.size w (w.alloc (.cells #[.int .i64 0, .int .i64 0, .int .i64 0, .string ⟨#[]⟩, .bool false, .int .i64 0, .int .i64 0, .int .i64 0, .bool false] 40)) := (Below.refl _ _).alloc (Nat.le_refl _) _
  go_enter Try.func32, Try.ntmps32
  go_wp2
  refine bodyPost_ret (results_frame3 rfl _ _ w.heap.size #[.int .i64 0, .int .i64 0, .int .i64 0, .string ⟨#[]⟩, .bool false, .int .i64 0, .int .i64 0, .int .i64 0, .bool false] rfl (heap_alloc_new w _) rfl) rfl ⟨(Below.refl _ _).alloc (Nat.le_refl _) _, rfl⟩
set_option maxRecDepth 20000 in
set_option maxHeartbeats 1000000 in
theorem sDF_end (s : ByteArray) (hs : s.size ≤ 1048576) (p : Int) (h0 : 0 ≤ p) (h : (s.size : Int) ≤ p) (w : World) :
    Calls Try.prog 32 #[.string s, .int .i64 p] w fun e w' => Below w.heap.size w w' ∧ e = .returned (dfVal none) := by
  have hd1 : decide (p < 0) = false := by simp; omega
  have hd2 : decide ((s.size : Int) ≤ p) = true := by simp; omega
  have k0 : Bk (w.alloc (.cells #[.int .i64 0, .int .i64 0, .int .i64 0, .string ⟨#[]⟩, .bool false, .int .i64 0, .int .i64 0, .int .i64 0, .bool false] 40)) w.heap.size 40 #[.int .i64 0, .int .i64 0, .int .i64 0, .string ⟨#[]⟩, .bool false, .int .i64 0, .int .i64 0, .int .i64 0, .bool false] := heap_alloc_new w _
  have hb0 : Below w.heap.size w (w.alloc (.cells #[.int .i64 0, .int .i64 0, .int .i64 0, .string ⟨#[]⟩, .bool false, .int .i64 0, .int .i64 0, .int .i64 0, .bool false] 40)) := (Below.refl _ _).alloc (Nat.le_refl _) _
  go_enter Try.func32, Try.ntmps32
  go_wp2
  refine bodyPost_ret (results_frame3 rfl _ _ w.heap.size #[.int .i64 0, .int .i64 0, .int .i64 0, .string ⟨#[]⟩, .bool false, .int .i64 0, .int .i64 0, .int .i64 0, .bool false] rfl (heap_alloc_new w _) rfl) rfl ⟨(Below.refl _ _).alloc (Nat.le_refl _) _, rfl⟩
set_option maxRecDepth 20000 in
set_option maxHeartbeats 1000000 in
theorem sDF_hi (s : ByteArray) (hs : s.size ≤ 1048576) (p : Nat) (hp : p < s.size) (k : Nat) (hk : (s[p]'hp).toNat = k) (h : 23 < k) (w : World) :
    Calls Try.prog 32 #[.string s, .int .i64 p] w fun e w' => Below w.heap.size w w' ∧ e = .returned (dfVal none) := by
  have hk3 : (((s[p]'hp).toNat : Nat) : Int) = (k : Int) := by omega
  have u23 : decide ((23 : Int) < (k : Int)) = true := by simp; omega
  have u23n : decide (23 < k) = true := by simp; omega
  clear hk h
  have hd3 : decide (s.size ≤ p) = false := by simp; omega
  have hpn : decide ((p : Int) < 0) = false := by simp
  have k0 : Bk (w.alloc (.cells #[.int .i64 0, .int .i64 0, .int .i64 0, .string ⟨#[]⟩, .bool false, .int .i64 0, .int .i64 0, .int .i64 0, .bool false] 40)) w.heap.size 40 #[.int .i64 0, .int .i64 0, .int .i64 0, .string ⟨#[]⟩, .bool false, .int .i64 0, .int .i64 0, .int .i64 0, .bool false] := heap_alloc_new w _
  have hb0 : Below w.heap.size w (w.alloc (.cells #[.int .i64 0, .int .i64 0, .int .i64 0, .string ⟨#[]⟩, .bool false, .int .i64 0, .int .i64 0, .int .i64 0, .bool false] 40)) := (Below.refl _ _).alloc (Nat.le_refl _) _
  go_enter Try.func32, Try.ntmps32
  go_wp2
  refine bodyPost_ret (results_frame3 rfl _ _ w.heap.size #[.int .i64 0, .int .i64 0, .int .i64 0, .string ⟨#[]⟩, .bool false, .int .i64 0, .int .i64 0, .int .i64 0, .bool false] rfl (heap_alloc_new w _) rfl) rfl ⟨(Below.refl _ _).alloc (Nat.le_refl _) _, rfl⟩
theorem sDF (s : ByteArray) (hs : s.size ≤ 1048576) (p : Int) (w : World) :
    Calls Try.prog 32 #[.string s, .int .i64 p] w fun e w' => Below w.heap.size w w' ∧ e = .returned (dfVal (dfO s p)) := by
  by_cases h : 0 ≤ p ∧ p < s.size
  · obtain ⟨p, rfl⟩ := Int.eq_ofNat_of_zero_le h.1
    have hp : p < s.size := by omega
    unfold dfO
    rw [frO_in hp]
    obtain ⟨k, hk⟩ : ∃ k, (s[p]'hp).toNat = k := ⟨_, rfl⟩
    rw [hk]
    by_cases h23 : 23 < k
    · rw [rfK_none s k _ (by simp [knownT]; omega)]
      exact sDF_hi s hs p hp k hk h23 w
    · rcases (show k = 0 ∨ k = 1 ∨ k = 2 ∨ k = 3 ∨ k = 4 ∨ k = 5 ∨ k = 6 ∨ k = 7 ∨ k = 8 ∨ k = 9 ∨ k = 10 ∨ k = 11 ∨ k = 12 ∨ k = 13 ∨ k = 14 ∨ k = 15 ∨ k = 16 ∨ k = 17 ∨ k = 18 ∨ k = 19 ∨ k = 20 ∨ k = 21 ∨ k = 22 ∨ k = 23 by omega) with rfl | rfl | rfl | rfl | rfl | rfl | rfl | rfl | rfl | rfl | rfl | rfl | rfl | rfl | rfl | rfl | rfl | rfl | rfl | rfl | rfl | rfl | rfl | rfl
      · exact sDF_0 s hs p hp hk w
      · exact sDF_1 s hs p hp hk w
      · exact sDF_2 s hs p hp hk w
      · exact sDF_3 s hs p hp hk w
      · exact sDF_4 s hs p hp hk w
      · exact sDF_5 s hs p hp hk w
      · exact sDF_6 s hs p hp hk w
      · exact sDF_7 s hs p hp hk w
      · exact sDF_str s hs p hp 8 hk (by decide) (by decide) w
      · exact sDF_str s hs p hp 9 hk (by decide) (by decide) w
      · exact sDF_str s hs p hp 10 hk (by decide) (by decide) w
      · exact sDF_str s hs p hp 11 hk (by decide) (by decide) w
      · exact sDF_str s hs p hp 12 hk (by decide) (by decide) w
      · exact sDF_str s hs p hp 13 hk (by decide) (by decide) w
      · exact sDF_str s hs p hp 14 hk (by decide) (by decide) w
      · exact sDF_str s hs p hp 15 hk (by decide) (by decide) w
      · exact sDF_16 s hs p hp hk w
      · exact sDF_17 s hs p hp hk w
      · exact sDF_18 s hs p hp hk w
      · exact sDF_19 s hs p hp hk w
      · exact sDF_20 s hs p hp hk w
      · exact sDF_21 s hs p hp hk w
      · exact sDF_22 s hs p hp hk w
      · exact sDF_23 s hs p hp hk w
  · rw [dfO_none (frO_out h)]
    by_cases h0 : 0 ≤ p
    · exact sDF_end s hs p h0 (by omega) w
    · exact sDF_lo s hs p (by omega) w
theorem iDF' (s : ByteArray) (hs : s.size ≤ 1048576) (p : Int) (w : World) :
    Calls Try.prog 26 #[.string s, .int .i64 p] w fun e w' => Below w.heap.size w w' ∧ e = .returned (dfVal (dfO s p)) := iDF s hs p w
end Go.Proofs.Ytadoiehgobcjcaa
