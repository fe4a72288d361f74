/- impl.DecodeFrame. No conditions. -/
import Derived.Test.YtadoiehgobcjcaaR7C
import Derived.Deep.Cut
namespace Go.Proofs.Ytadoiehgobcjcaa
open Go.ChangeShapes Go.WideShapes Go.ChangeAt Go.RowKit Go.Sort QM
set_option linter.unusedVariables false
set_option linter.unusedSimpArgs false
set_option maxRecDepth 20000 in
set_option maxHeartbeats 4000000 in
theorem iDF (s : ByteArray) (hs : s.size ≤ 1048576) (p : Int) (w : World) :
    Calls Try.prog 26 #[.string s, .int .i64 p] w fun e w' => Below w.heap.size w w' ∧ e = .returned (dfVal ((frO s p).filter fun x => okF x.1)) := by
  have k0 : Bk (w.alloc (.cells #[.int .i64 0, .int .i64 0, .int .i64 0, .string ⟨#[]⟩, .bool false, .int .i64 0, .int .i64 0, .int .i64 0, .bool false] 40)) w.heap.size 40 #[.int .i64 0, .int .i64 0, .int .i64 0, .string ⟨#[]⟩, .bool false, .int .i64 0, .int .i64 0, .int .i64 0, .bool false] := heap_alloc_new w _
  have hb0 : Below w.heap.size w (w.alloc (.cells #[.int .i64 0, .int .i64 0, .int .i64 0, .string ⟨#[]⟩, .bool false, .int .i64 0, .int .i64 0, .int .i64 0, .bool false] 40)) := (Below.refl _ _).alloc (Nat.le_refl _) _
  have hs0 : (w.alloc (.cells #[.int .i64 0, .int .i64 0, .int .i64 0, .string ⟨#[]⟩, .bool false, .int .i64 0, .int .i64 0, .int .i64 0, .bool false] 40)).heap.size = w.heap.size + 1 := by simp
  go_enter Try.func26, Try.ntmps26
  go_wp2_with fail
  generalize (w.alloc (.cells #[.int .i64 0, .int .i64 0, .int .i64 0, .string ⟨#[]⟩, .bool false, .int .i64 0, .int .i64 0, .int .i64 0, .bool false] 40)) = w0 at k0 hb0 hs0 ⊢
  refine (iRF s hs p _).mono ?_
  rintro e w1 ⟨hb1, f, q, t, rfl, h⟩
  replace k0 := k0.below hb1 k0.lt
  replace hb0 := below_next hb0 hb0.size hb1
  clear hb1 hs0
  obtain ⟨q0, q1, q2, q3, q4, q5, q6, q7, q8⟩ := k0.nine
  have f0 := k0.frozen
  obtain ⟨xa, xb, xc, xd, xe, xg, xl, xm, xu⟩ := f
  rcases h with ⟨hn, rfl⟩ | ⟨hn, rfl⟩
  · have HO := Lib.hid (show (frO s p).filter (fun x => okF x.1) = none by rw [hn]; rfl)
    clear hn
    simp only [frA]
    have hl0 := k0.lt
    go_upto_region 2 with (fail)
    replace k0 : Bk (w1.alloc (.cells #[.int .i64 xa, .int .i64 xb, .int .i64 xc, .string xd, .bool xe, .int .i64 xg, .int .i64 xl, .int .i64 xm, .bool xu] 40)) w.heap.size 40 #[.int .i64 0, .int .i64 0, .int .i64 0, .string ⟨#[]⟩, .bool false, .int .i64 0, .int .i64 0, .int .i64 0, .bool false] := k0.below ((Below.refl w1.heap.size w1).alloc (Nat.le_refl _) (.cells #[.int .i64 xa, .int .i64 xb, .int .i64 xc, .string xd, .bool xe, .int .i64 xg, .int .i64 xl, .int .i64 xm, .bool xu] 40)) k0.lt
    have k1 : Bk (w1.alloc (.cells #[.int .i64 xa, .int .i64 xb, .int .i64 xc, .string xd, .bool xe, .int .i64 xg, .int .i64 xl, .int .i64 xm, .bool xu] 40)) w1.heap.size 40 #[.int .i64 xa, .int .i64 xb, .int .i64 xc, .string xd, .bool xe, .int .i64 xg, .int .i64 xl, .int .i64 xm, .bool xu] := heap_alloc_new w1 _
    replace hb0 := hb0.alloc hb0.size (.cells #[.int .i64 xa, .int .i64 xb, .int .i64 xc, .string xd, .bool xe, .int .i64 xg, .int .i64 xl, .int .i64 xm, .bool xu] 40)
    clear q0 q1 q2 q3 q4 q5 q6 q7 q8 f0
    generalize (w1.alloc (.cells #[.int .i64 xa, .int .i64 xb, .int .i64 xc, .string xd, .bool xe, .int .i64 xg, .int .i64 xl, .int .i64 xm, .bool xu] 40)) = w3 at k0 k1 hb0 ⊢
    generalize w1.heap.size = g1 at k1 hl0 ⊢
    obtain ⟨q0, q1, q2, q3, q4, q5, q6, q7, q8⟩ := k0.nine
    obtain ⟨j0, j1, j2, j3, j4, j5, j6, j7, j8⟩ := k1.nine
    have f0 := k0.frozen
    have m1 : (w.heap.size = g1) = False := by simp; omega
    have m2 : (g1 = w.heap.size) = False := by simp; omega
    go_wp2
    refine bodyPost_ret (results_frame3 rfl _ _ w.heap.size #[.int .i64 0, .int .i64 0, .int .i64 0, .string ⟨#[]⟩, .bool false, .int .i64 0, .int .i64 0, .int .i64 0, .bool false] rfl (((((((((k0.set_ 0 (.int .i64 0)).set_ 1 (.int .i64 0)).set_ 2 (.int .i64 0)).set_ 3 (.string ⟨#[]⟩)).set_ 4 (.bool false)).set_ 5 (.int .i64 0)).set_ 6 (.int .i64 0)).set_ 7 (.int .i64 0)).set_ 8 (.bool false)) rfl) rfl ⟨(((((((((hb0.setCell (p := ⟨w.heap.size, 0, none⟩) (Nat.le_refl _) (.int .i64 0)).setCell (p := ⟨w.heap.size, 1, none⟩) (Nat.le_refl _) (.int .i64 0)).setCell (p := ⟨w.heap.size, 2, none⟩) (Nat.le_refl _) (.int .i64 0)).setCell (p := ⟨w.heap.size, 3, none⟩) (Nat.le_refl _) (.string ⟨#[]⟩)).setCell (p := ⟨w.heap.size, 4, none⟩) (Nat.le_refl _) (.bool false)).setCell (p := ⟨w.heap.size, 5, none⟩) (Nat.le_refl _) (.int .i64 0)).setCell (p := ⟨w.heap.size, 6, none⟩) (Nat.le_refl _) (.int .i64 0)).setCell (p := ⟨w.heap.size, 7, none⟩) (Nat.le_refl _) (.int .i64 0)).setCell (p := ⟨w.heap.size, 8, none⟩) (Nat.le_refl _) (.bool false)), by rw [HO.out]; rfl⟩
  · have hfd : xd.size ≤ 1048576 := (frO_facts hs hn).1
    have hci := fun W => iIs xa xb xc xd xe xg xl xm xu hfd W
    cases hok : isFB xa xb xc xd xe xg xl xm xu
    · have HO := Lib.hid (show (frO s p).filter (fun x => okF x.1) = none by rw [hn]; exact filter_no hok)
      clear hn
      rw [hok] at hci
      simp only [frA]
      have hl0 := k0.lt
      go_upto_region 2 with (fail)
      replace k0 : Bk (w1.alloc (.cells #[.int .i64 xa, .int .i64 xb, .int .i64 xc, .string xd, .bool xe, .int .i64 xg, .int .i64 xl, .int .i64 xm, .bool xu] 40)) w.heap.size 40 #[.int .i64 0, .int .i64 0, .int .i64 0, .string ⟨#[]⟩, .bool false, .int .i64 0, .int .i64 0, .int .i64 0, .bool false] := k0.below ((Below.refl w1.heap.size w1).alloc (Nat.le_refl _) (.cells #[.int .i64 xa, .int .i64 xb, .int .i64 xc, .string xd, .bool xe, .int .i64 xg, .int .i64 xl, .int .i64 xm, .bool xu] 40)) k0.lt
      have k1 : Bk (w1.alloc (.cells #[.int .i64 xa, .int .i64 xb, .int .i64 xc, .string xd, .bool xe, .int .i64 xg, .int .i64 xl, .int .i64 xm, .bool xu] 40)) w1.heap.size 40 #[.int .i64 xa, .int .i64 xb, .int .i64 xc, .string xd, .bool xe, .int .i64 xg, .int .i64 xl, .int .i64 xm, .bool xu] := heap_alloc_new w1 _
      replace hb0 := hb0.alloc hb0.size (.cells #[.int .i64 xa, .int .i64 xb, .int .i64 xc, .string xd, .bool xe, .int .i64 xg, .int .i64 xl, .int .i64 xm, .bool xu] 40)
      clear q0 q1 q2 q3 q4 q5 q6 q7 q8 f0
      generalize (w1.alloc (.cells #[.int .i64 xa, .int .i64 xb, .int .i64 xc, .string xd, .bool xe, .int .i64 xg, .int .i64 xl, .int .i64 xm, .bool xu] 40)) = w3 at k0 k1 hb0 ⊢
      generalize w1.heap.size = g1 at k1 hl0 ⊢
      obtain ⟨q0, q1, q2, q3, q4, q5, q6, q7, q8⟩ := k0.nine
      obtain ⟨j0, j1, j2, j3, j4, j5, j6, j7, j8⟩ := k1.nine
      have f0 := k0.frozen
      have m1 : (w.heap.size = g1) = False := by simp; omega
      have m2 : (g1 = w.heap.size) = False := by simp; omega
      go_wp2_with fail
      refine (hci _).mono ?_
      rintro e w4 ⟨rfl, hb4⟩
      clear q0 q1 q2 q3 q4 q5 q6 q7 q8 j0 j1 j2 j3 j4 j5 j6 j7 j8 f0
      replace k0 := k0.below hb4 k0.lt
      replace k1 := k1.below hb4 k1.lt
      replace hb0 := below_next hb0 hb0.size hb4
      obtain ⟨q0, q1, q2, q3, q4, q5, q6, q7, q8⟩ := k0.nine
      obtain ⟨j0, j1, j2, j3, j4, j5, j6, j7, j8⟩ := k1.nine
      have f0 := k0.frozen
      clear hb4 hci
      go_wp2
      refine bodyPost_ret (results_frame3 rfl _ _ w.heap.size #[.int .i64 0, .int .i64 0, .int .i64 0, .string ⟨#[]⟩, .bool false, .int .i64 0, .int .i64 0, .int .i64 0, .bool false] rfl (((((((((k0.set_ 0 (.int .i64 0)).set_ 1 (.int .i64 0)).set_ 2 (.int .i64 0)).set_ 3 (.string ⟨#[]⟩)).set_ 4 (.bool false)).set_ 5 (.int .i64 0)).set_ 6 (.int .i64 0)).set_ 7 (.int .i64 0)).set_ 8 (.bool false)) rfl) rfl ⟨(((((((((hb0.setCell (p := ⟨w.heap.size, 0, none⟩) (Nat.le_refl _) (.int .i64 0)).setCell (p := ⟨w.heap.size, 1, none⟩) (Nat.le_refl _) (.int .i64 0)).setCell (p := ⟨w.heap.size, 2, none⟩) (Nat.le_refl _) (.int .i64 0)).setCell (p := ⟨w.heap.size, 3, none⟩) (Nat.le_refl _) (.string ⟨#[]⟩)).setCell (p := ⟨w.heap.size, 4, none⟩) (Nat.le_refl _) (.bool false)).setCell (p := ⟨w.heap.size, 5, none⟩) (Nat.le_refl _) (.int .i64 0)).setCell (p := ⟨w.heap.size, 6, none⟩) (Nat.le_refl _) (.int .i64 0)).setCell (p := ⟨w.heap.size, 7, none⟩) (Nat.le_refl _) (.int .i64 0)).setCell (p := ⟨w.heap.size, 8, none⟩) (Nat.le_refl _) (.bool false)), by rw [HO.out]; rfl⟩
    · have HO := Lib.hid (show (frO s p).filter (fun x => okF x.1) = some (⟨xa, xb, xc, xd, xe, xg, xl, xm, xu⟩, q) by rw [hn]; exact filter_yes hok)
      clear hn
      rw [hok] at hci
      simp only [frA]
      have hl0 := k0.lt
      go_upto_region 2 with (fail)
      replace k0 : Bk (w1.alloc (.cells #[.int .i64 xa, .int .i64 xb, .int .i64 xc, .string xd, .bool xe, .int .i64 xg, .int .i64 xl, .int .i64 xm, .bool xu] 40)) w.heap.size 40 #[.int .i64 0, .int .i64 0, .int .i64 0, .string ⟨#[]⟩, .bool false, .int .i64 0, .int .i64 0, .int .i64 0, .bool false] := k0.below ((Below.refl w1.heap.size w1).alloc (Nat.le_refl _) (.cells #[.int .i64 xa, .int .i64 xb, .int .i64 xc, .string xd, .bool xe, .int .i64 xg, .int .i64 xl, .int .i64 xm, .bool xu] 40)) k0.lt
      have k1 : Bk (w1.alloc (.cells #[.int .i64 xa, .int .i64 xb, .int .i64 xc, .string xd, .bool xe, .int .i64 xg, .int .i64 xl, .int .i64 xm, .bool xu] 40)) w1.heap.size 40 #[.int .i64 xa, .int .i64 xb, .int .i64 xc, .string xd, .bool xe, .int .i64 xg, .int .i64 xl, .int .i64 xm, .bool xu] := heap_alloc_new w1 _
      replace hb0 := hb0.alloc hb0.size (.cells #[.int .i64 xa, .int .i64 xb, .int .i64 xc, .string xd, .bool xe, .int .i64 xg, .int .i64 xl, .int .i64 xm, .bool xu] 40)
      clear q0 q1 q2 q3 q4 q5 q6 q7 q8 f0
      generalize (w1.alloc (.cells #[.int .i64 xa, .int .i64 xb, .int .i64 xc, .string xd, .bool xe, .int .i64 xg, .int .i64 xl, .int .i64 xm, .bool xu] 40)) = w3 at k0 k1 hb0 ⊢
      generalize w1.heap.size = g1 at k1 hl0 ⊢
      obtain ⟨q0, q1, q2, q3, q4, q5, q6, q7, q8⟩ := k0.nine
      obtain ⟨j0, j1, j2, j3, j4, j5, j6, j7, j8⟩ := k1.nine
      have f0 := k0.frozen
      have m1 : (w.heap.size = g1) = False := by simp; omega
      have m2 : (g1 = w.heap.size) = False := by simp; omega
      go_wp2_with fail
      refine (hci _).mono ?_
      rintro e w4 ⟨rfl, hb4⟩
      clear q0 q1 q2 q3 q4 q5 q6 q7 q8 j0 j1 j2 j3 j4 j5 j6 j7 j8 f0
      replace k0 := k0.below hb4 k0.lt
      replace k1 := k1.below hb4 k1.lt
      replace hb0 := below_next hb0 hb0.size hb4
      obtain ⟨q0, q1, q2, q3, q4, q5, q6, q7, q8⟩ := k0.nine
      obtain ⟨j0, j1, j2, j3, j4, j5, j6, j7, j8⟩ := k1.nine
      have f0 := k0.frozen
      clear hb4 hci
      go_wp2
      refine bodyPost_ret (results_frame3 rfl _ _ w.heap.size #[.int .i64 xa, .int .i64 xb, .int .i64 xc, .string xd, .bool xe, .int .i64 xg, .int .i64 xl, .int .i64 xm, .bool xu] rfl (((((((((k0.set_ 0 (.int .i64 xa)).set_ 1 (.int .i64 xb)).set_ 2 (.int .i64 xc)).set_ 3 (.string xd)).set_ 4 (.bool xe)).set_ 5 (.int .i64 xg)).set_ 6 (.int .i64 xl)).set_ 7 (.int .i64 xm)).set_ 8 (.bool xu)) rfl) rfl ⟨(((((((((hb0.setCell (p := ⟨w.heap.size, 0, none⟩) (Nat.le_refl _) (.int .i64 xa)).setCell (p := ⟨w.heap.size, 1, none⟩) (Nat.le_refl _) (.int .i64 xb)).setCell (p := ⟨w.heap.size, 2, none⟩) (Nat.le_refl _) (.int .i64 xc)).setCell (p := ⟨w.heap.size, 3, none⟩) (Nat.le_refl _) (.string xd)).setCell (p := ⟨w.heap.size, 4, none⟩) (Nat.le_refl _) (.bool xe)).setCell (p := ⟨w.heap.size, 5, none⟩) (Nat.le_refl _) (.int .i64 xg)).setCell (p := ⟨w.heap.size, 6, none⟩) (Nat.le_refl _) (.int .i64 xl)).setCell (p := ⟨w.heap.size, 7, none⟩) (Nat.le_refl _) (.int .i64 xm)).setCell (p := ⟨w.heap.size, 8, none⟩) (Nat.le_refl _) (.bool xu)), by rw [HO.out]; rfl⟩
end Go.Proofs.Ytadoiehgobcjcaa
