/- spec.DecodeFrame of each kind. No conditions. -/
import Derived.Test.YtadoiehgobcjcaaA7
import Derived.Deep.Cut
import Derived.Test.YtadoiehgobcjcaaR3a
import Derived.Test.YtadoiehgobcjcaaR3b
import Derived.Test.YtadoiehgobcjcaaR3c
import Derived.Test.YtadoiehgobcjcaaR3d
namespace Go.Proofs.Ytadoiehgobcjcaa
open Go.ChangeShapes Go.WideShapes Go.ChangeAt Go.RowKit Go.Sort QM
set_option linter.unusedVariables false
set_option linter.unusedSimpArgs false
theorem sStr_any (s : ByteArray) (hs : s.size ≤ 1048576) (p : Nat) (k : Nat) (h8 : 8 ≤ k) (h15 : k ≤ 15) (w : World) :
    Calls Try.prog 64 #[.string s, .int .i64 p, .int .i64 k] w fun e w' => Below w.heap.size w w' ∧ e = .returned (dfVal ((rfK s k p).filter fun x => okF x.1)) := by
  have h : k = 8 ∨ k = 9 ∨ k = 10 ∨ k = 11 ∨ k = 12 ∨ k = 13 ∨ k = 14 ∨ k = 15 := by omega
  rcases h with rfl | rfl | rfl | rfl | rfl | rfl | rfl | rfl
  · exact sStr_8 s hs p (by omega) w
  · exact sStr_9 s hs p (by omega) w
  · exact sStr_10 s hs p (by omega) w
  · exact sStr_11 s hs p (by omega) w
  · exact sStr_12 s hs p (by omega) w
  · exact sStr_13 s hs p (by omega) w
  · exact sStr_14 s hs p (by omega) w
  · exact sStr_15 s hs p (by omega) w
set_option maxRecDepth 20000 in
set_option maxHeartbeats 4000000 in
theorem sDF_str (s : ByteArray) (hs : s.size ≤ 1048576) (p : Nat) (hp : p < s.size) (k : Nat) (hk : (s[p]'hp).toNat = k) (h8 : 8 ≤ k) (h15 : k ≤ 15) (w : World) :
    Calls Try.prog 32 #[.string s, .int .i64 p] w fun e w' => Below w.heap.size w w' ∧ e = .returned (dfVal ((rfK s k ((p : Int) + 1)).filter fun x => okF x.1)) := by
  have hk3 : (((s[p]'hp).toNat : Nat) : Int) = (k : Int) := by omega
  have hkw : wrap64 (k : Int) = k := by unfold wrap64; omega
  have u23 : decide ((23 : Int) < (k : Int)) = false := by simp; omega
  have u8 : decide ((8 : Int) ≤ (k : Int)) = true := by simp; omega
  have u15 : decide ((k : Int) < 16) = true := by simp; omega
  have u8n : decide (8 ≤ k) = true := by simp; omega
  have u15n : decide (k < 16) = true := by simp; omega
  clear hk
  have hd3 : decide (s.size ≤ p) = false := by simp; omega
  obtain ⟨p1, hp1⟩ : ∃ p1, p + 1 = p1 := ⟨_, rfl⟩
  have hp2 : (p : Int) + 1 = p1 := by omega
  rw [hp2]
  have hcs := fun W => sStr_any s hs p1 k h8 h15 W
  clear h8 h15
  have k0 : Bk (w.alloc (.cells #[.int .i64 0, .int .i64 0, .int .i64 0, .string ⟨#[]⟩, .bool false, .int .i64 0, .int .i64 0, .int .i64 0, .bool false] 40)) w.heap.size 40 #[.int .i64 0, .int .i64 0, .int .i64 0, .string ⟨#[]⟩, .bool false, .int .i64 0, .int .i64 0, .int .i64 0, .bool false] := heap_alloc_new w _
  have hb0 : Below w.heap.size w (w.alloc (.cells #[.int .i64 0, .int .i64 0, .int .i64 0, .string ⟨#[]⟩, .bool false, .int .i64 0, .int .i64 0, .int .i64 0, .bool false] 40)) := (Below.refl _ _).alloc (Nat.le_refl _) _
  have hs0 : (w.alloc (.cells #[.int .i64 0, .int .i64 0, .int .i64 0, .string ⟨#[]⟩, .bool false, .int .i64 0, .int .i64 0, .int .i64 0, .bool false] 40)).heap.size = w.heap.size + 1 := by simp
  have hpn : decide ((p : Int) < 0) = false := by simp
  go_enter Try.func32, Try.ntmps32
  go_wp2_with fail
  generalize (w.alloc (.cells #[.int .i64 0, .int .i64 0, .int .i64 0, .string ⟨#[]⟩, .bool false, .int .i64 0, .int .i64 0, .int .i64 0, .bool false] 40)) = w0 at k0 hb0 hs0 ⊢
  clear hs0
  refine (hcs _).mono ?_
  rintro e w2 ⟨hb1, rfl⟩
  replace k0 := k0.below hb1 k0.lt
  replace hb0 := below_next hb0 hb0.size hb1
  clear hb1 hcs
  obtain ⟨q0, q1, q2, q3, q4, q5, q6, q7, q8⟩ := k0.nine
  have f0 := k0.frozen
  cases hso : (rfK s k p1).filter (fun x => okF x.1) with
  | none =>
    have HO := Lib.hid hso; clear hso
    simp only [dfVal]
    have hl0 := k0.lt
    go_upto_region 6 with (fail)
    replace k0 : Bk (w2.alloc (.cells #[.int .i64 0, .int .i64 0, .int .i64 0, .string ⟨#[]⟩, .bool false, .int .i64 0, .int .i64 0, .int .i64 0, .bool false] 40)) w.heap.size 40 #[.int .i64 0, .int .i64 0, .int .i64 0, .string ⟨#[]⟩, .bool false, .int .i64 0, .int .i64 0, .int .i64 0, .bool false] := k0.below ((Below.refl w2.heap.size w2).alloc (Nat.le_refl _) (.cells #[.int .i64 0, .int .i64 0, .int .i64 0, .string ⟨#[]⟩, .bool false, .int .i64 0, .int .i64 0, .int .i64 0, .bool false] 40)) k0.lt
    have k1 : Bk (w2.alloc (.cells #[.int .i64 0, .int .i64 0, .int .i64 0, .string ⟨#[]⟩, .bool false, .int .i64 0, .int .i64 0, .int .i64 0, .bool false] 40)) w2.heap.size 40 #[.int .i64 0, .int .i64 0, .int .i64 0, .string ⟨#[]⟩, .bool false, .int .i64 0, .int .i64 0, .int .i64 0, .bool false] := heap_alloc_new w2 _
    replace hb0 := hb0.alloc hb0.size (.cells #[.int .i64 0, .int .i64 0, .int .i64 0, .string ⟨#[]⟩, .bool false, .int .i64 0, .int .i64 0, .int .i64 0, .bool false] 40)
    clear q0 q1 q2 q3 q4 q5 q6 q7 q8 f0
    generalize (w2.alloc (.cells #[.int .i64 0, .int .i64 0, .int .i64 0, .string ⟨#[]⟩, .bool false, .int .i64 0, .int .i64 0, .int .i64 0, .bool false] 40)) = w3 at k0 k1 hb0 ⊢
    generalize w2.heap.size = g1 at k1 hl0 ⊢
    obtain ⟨q0, q1, q2, q3, q4, q5, q6, q7, q8⟩ := k0.nine
    obtain ⟨j0, j1, j2, j3, j4, j5, j6, j7, j8⟩ := k1.nine
    have f0 := k0.frozen
    have m1 : (w.heap.size = g1) = False := by simp; omega
    have m2 : (g1 = w.heap.size) = False := by simp; omega
    go_wp2
    refine bodyPost_ret (results_frame3 rfl _ _ w.heap.size #[.int .i64 0, .int .i64 0, .int .i64 0, .string ⟨#[]⟩, .bool false, .int .i64 0, .int .i64 0, .int .i64 0, .bool false] rfl (((((((((k0.set_ 0 (.int .i64 0)).set_ 1 (.int .i64 0)).set_ 2 (.int .i64 0)).set_ 3 (.string ⟨#[]⟩)).set_ 4 (.bool false)).set_ 5 (.int .i64 0)).set_ 6 (.int .i64 0)).set_ 7 (.int .i64 0)).set_ 8 (.bool false)) rfl) rfl ⟨(((((((((hb0.setCell (p := ⟨w.heap.size, 0, none⟩) (Nat.le_refl _) (.int .i64 0)).setCell (p := ⟨w.heap.size, 1, none⟩) (Nat.le_refl _) (.int .i64 0)).setCell (p := ⟨w.heap.size, 2, none⟩) (Nat.le_refl _) (.int .i64 0)).setCell (p := ⟨w.heap.size, 3, none⟩) (Nat.le_refl _) (.string ⟨#[]⟩)).setCell (p := ⟨w.heap.size, 4, none⟩) (Nat.le_refl _) (.bool false)).setCell (p := ⟨w.heap.size, 5, none⟩) (Nat.le_refl _) (.int .i64 0)).setCell (p := ⟨w.heap.size, 6, none⟩) (Nat.le_refl _) (.int .i64 0)).setCell (p := ⟨w.heap.size, 7, none⟩) (Nat.le_refl _) (.int .i64 0)).setCell (p := ⟨w.heap.size, 8, none⟩) (Nat.le_refl _) (.bool false)), by rw [HO.out]; rfl⟩
  | some x =>
    obtain ⟨⟨xa, xb, xc, xd, xe, xg, xl, xm, xu⟩, q⟩ := x
    have HO := Lib.hid hso; clear hso
    simp only [dfVal, frA]
    have hl0 := k0.lt
    go_upto_region 6 with (fail)
    replace k0 : Bk (w2.alloc (.cells #[.int .i64 xa, .int .i64 xb, .int .i64 xc, .string xd, .bool xe, .int .i64 xg, .int .i64 xl, .int .i64 xm, .bool xu] 40)) w.heap.size 40 #[.int .i64 0, .int .i64 0, .int .i64 0, .string ⟨#[]⟩, .bool false, .int .i64 0, .int .i64 0, .int .i64 0, .bool false] := k0.below ((Below.refl w2.heap.size w2).alloc (Nat.le_refl _) (.cells #[.int .i64 xa, .int .i64 xb, .int .i64 xc, .string xd, .bool xe, .int .i64 xg, .int .i64 xl, .int .i64 xm, .bool xu] 40)) k0.lt
    have k1 : Bk (w2.alloc (.cells #[.int .i64 xa, .int .i64 xb, .int .i64 xc, .string xd, .bool xe, .int .i64 xg, .int .i64 xl, .int .i64 xm, .bool xu] 40)) w2.heap.size 40 #[.int .i64 xa, .int .i64 xb, .int .i64 xc, .string xd, .bool xe, .int .i64 xg, .int .i64 xl, .int .i64 xm, .bool xu] := heap_alloc_new w2 _
    replace hb0 := hb0.alloc hb0.size (.cells #[.int .i64 xa, .int .i64 xb, .int .i64 xc, .string xd, .bool xe, .int .i64 xg, .int .i64 xl, .int .i64 xm, .bool xu] 40)
    clear q0 q1 q2 q3 q4 q5 q6 q7 q8 f0
    generalize (w2.alloc (.cells #[.int .i64 xa, .int .i64 xb, .int .i64 xc, .string xd, .bool xe, .int .i64 xg, .int .i64 xl, .int .i64 xm, .bool xu] 40)) = w3 at k0 k1 hb0 ⊢
    generalize w2.heap.size = g1 at k1 hl0 ⊢
    obtain ⟨q0, q1, q2, q3, q4, q5, q6, q7, q8⟩ := k0.nine
    obtain ⟨j0, j1, j2, j3, j4, j5, j6, j7, j8⟩ := k1.nine
    have f0 := k0.frozen
    have m1 : (w.heap.size = g1) = False := by simp; omega
    have m2 : (g1 = w.heap.size) = False := by simp; omega
    go_wp2
    refine bodyPost_ret (results_frame3 rfl _ _ w.heap.size #[.int .i64 xa, .int .i64 xb, .int .i64 xc, .string xd, .bool xe, .int .i64 xg, .int .i64 xl, .int .i64 xm, .bool xu] rfl (((((((((k0.set_ 0 (.int .i64 xa)).set_ 1 (.int .i64 xb)).set_ 2 (.int .i64 xc)).set_ 3 (.string xd)).set_ 4 (.bool xe)).set_ 5 (.int .i64 xg)).set_ 6 (.int .i64 xl)).set_ 7 (.int .i64 xm)).set_ 8 (.bool xu)) rfl) rfl ⟨(((((((((hb0.setCell (p := ⟨w.heap.size, 0, none⟩) (Nat.le_refl _) (.int .i64 xa)).setCell (p := ⟨w.heap.size, 1, none⟩) (Nat.le_refl _) (.int .i64 xb)).setCell (p := ⟨w.heap.size, 2, none⟩) (Nat.le_refl _) (.int .i64 xc)).setCell (p := ⟨w.heap.size, 3, none⟩) (Nat.le_refl _) (.string xd)).setCell (p := ⟨w.heap.size, 4, none⟩) (Nat.le_refl _) (.bool xe)).setCell (p := ⟨w.heap.size, 5, none⟩) (Nat.le_refl _) (.int .i64 xg)).setCell (p := ⟨w.heap.size, 6, none⟩) (Nat.le_refl _) (.int .i64 xl)).setCell (p := ⟨w.heap.size, 7, none⟩) (Nat.le_refl _) (.int .i64 xm)).setCell (p := ⟨w.heap.size, 8, none⟩) (Nat.le_refl _) (.bool xu)), by rw [HO.out]; rfl⟩
end Go.Proofs.Ytadoiehgobcjcaa
