/- spec.DecodeFrame of each kind. No conditions. -/
import Derived.Test.YtadoiehgobcjcaaA7
namespace Go.Proofs.Ytadoiehgobcjcaa
open Go.ChangeShapes Go.WideShapes Go.ChangeAt Go.RowKit Go.Sort QM
set_option linter.unusedVariables false
set_option linter.unusedSimpArgs false
set_option maxRecDepth 20000 in
set_option maxHeartbeats 4000000 in
theorem sDF_19 (s : ByteArray) (hs : s.size ≤ 1048576) (p : Nat) (hp : p < s.size) (hk : (s[p]'hp).toNat = 19) (w : World) :
    Calls Try.prog 32 #[.string s, .int .i64 p] w fun e w' => Below w.heap.size w w' ∧ e = .returned (dfVal ((rfK s 19 ((p : Int) + 1)).filter fun x => okF x.1)) := by
  have hk3 : (((s[p]'hp).toNat : Nat) : Int) = 19 := by omega
  have hkw : wrap64 19 = 19 := by unfold wrap64; omega
  clear hk
  have hd3 : decide (s.size ≤ p) = false := by simp; omega
  obtain ⟨p1, hp1⟩ : ∃ p1, p + 1 = p1 := ⟨_, rfl⟩
  have hp2 : (p : Int) + 1 = p1 := by omega
  rw [hp2]
  have k0 : Bk (w.alloc (.cells #[.int .i64 0, .int .i64 0, .int .i64 0, .string ⟨#[]⟩, .bool false, .int .i64 0, .int .i64 0, .int .i64 0, .bool false] 40)) w.heap.size 40 #[.int .i64 0, .int .i64 0, .int .i64 0, .string ⟨#[]⟩, .bool false, .int .i64 0, .int .i64 0, .int .i64 0, .bool false] := heap_alloc_new w _
  have hb0 : Below w.heap.size w (w.alloc (.cells #[.int .i64 0, .int .i64 0, .int .i64 0, .string ⟨#[]⟩, .bool false, .int .i64 0, .int .i64 0, .int .i64 0, .bool false] 40)) := (Below.refl _ _).alloc (Nat.le_refl _) _
  have hs0 : (w.alloc (.cells #[.int .i64 0, .int .i64 0, .int .i64 0, .string ⟨#[]⟩, .bool false, .int .i64 0, .int .i64 0, .int .i64 0, .bool false] 40)).heap.size = w.heap.size + 1 := by simp
  go_enter Try.func32, Try.ntmps32
  go_wp2_with fail
  generalize (w.alloc (.cells #[.int .i64 0, .int .i64 0, .int .i64 0, .string ⟨#[]⟩, .bool false, .int .i64 0, .int .i64 0, .int .i64 0, .bool false] 40)) = w0 at k0 hb0 hs0 ⊢
  have k1 : Bk (w0.alloc (.cells #[.int .i64 18, .int .i64 0, .int .i64 0, .string ⟨#[]⟩, .bool false, .int .i64 0, .int .i64 0, .int .i64 0, .bool true] 40)) (w.heap.size + 1) 40 #[.int .i64 18, .int .i64 0, .int .i64 0, .string ⟨#[]⟩, .bool false, .int .i64 0, .int .i64 0, .int .i64 0, .bool true] := by rw [← hs0]; exact heap_alloc_new w0 _
  replace k0 := k0.below ((Below.refl w0.heap.size w0).alloc (Nat.le_refl _) (.cells #[.int .i64 18, .int .i64 0, .int .i64 0, .string ⟨#[]⟩, .bool false, .int .i64 0, .int .i64 0, .int .i64 0, .bool true] 40)) k0.lt
  replace hb0 := hb0.alloc hb0.size (.cells #[.int .i64 18, .int .i64 0, .int .i64 0, .string ⟨#[]⟩, .bool false, .int .i64 0, .int .i64 0, .int .i64 0, .bool true] 40)
  clear hs0
  generalize (w0.alloc (.cells #[.int .i64 18, .int .i64 0, .int .i64 0, .string ⟨#[]⟩, .bool false, .int .i64 0, .int .i64 0, .int .i64 0, .bool true] 40)) = w1 at k0 k1 hb0 ⊢
  refine (sRead s hs p1 1 (by omega) _).mono ?_
  rintro e w2 ⟨hb1, A, c, n, q, t, L, rfl, hr, hl, hfar, h⟩
  have hk1 := k1.lt
  replace k0 := k0.below hb1 k0.lt
  replace k1 := k1.below hb1 k1.lt
  replace hb0 := below_next hb0 hb0.size hb1
  clear hb1
  obtain ⟨q0, q1, q2, q3, q4, q5, q6, q7, q8⟩ := k0.nine
  obtain ⟨j0, j1, j2, j3, j4, j5, j6, j7, j8⟩ := k1.nine
  have f0 := k0.frozen
  have f1 := k1.frozen
  rcases h with ⟨hn, rfl, rfl⟩ | ⟨hn, rfl⟩
  · have HO := Lib.hid (show (rfK s 19 p1).filter (fun x => okF x.1) = none by simp [rfK, hn])
    simp at hl
    subst hl
    obtain ⟨b, o, x0, rfl, hb, HX0, c0⟩ := hr.int (k := 0) (by simp)
    obtain rfl : x0 = 0 := by simpa using HX0.out.symm
    simp only [Nat.add_zero] at c0
    have hfb := hfar _ _ rfl
    have n1 : (b = w.heap.size + 1) = False := by simp; omega
    have n2 : (w.heap.size + 1 = b) = False := by simp; omega
    have n3 : (b = w.heap.size) = False := by simp; omega
    have n4 : (w.heap.size = b) = False := by simp; omega
    have k0' : Bk (w2.setCell ⟨(w.heap.size + 1), 6, none⟩ (.int .i64 0)) w.heap.size 40 #[.int .i64 0, .int .i64 0, .int .i64 0, .string ⟨#[]⟩, .bool false, .int .i64 0, .int .i64 0, .int .i64 0, .bool false] := (k0.set_other (by omega))
    have hb0' : Below w.heap.size w (w2.setCell ⟨(w.heap.size + 1), 6, none⟩ (.int .i64 0)) := (hb0.setCell (p := ⟨(w.heap.size + 1), 6, none⟩) (Nat.le_succ _) (.int .i64 0))
    go_wp2
    refine bodyPost_ret (results_frame3 rfl _ _ w.heap.size #[.int .i64 0, .int .i64 0, .int .i64 0, .string ⟨#[]⟩, .bool false, .int .i64 0, .int .i64 0, .int .i64 0, .bool false] rfl (((((((((k0'.set_ 0 (.int .i64 0)).set_ 1 (.int .i64 0)).set_ 2 (.int .i64 0)).set_ 3 (.string ⟨#[]⟩)).set_ 4 (.bool false)).set_ 5 (.int .i64 0)).set_ 6 (.int .i64 0)).set_ 7 (.int .i64 0)).set_ 8 (.bool false)) rfl) rfl ⟨(((((((((hb0'.setCell (p := ⟨w.heap.size, 0, none⟩) (Nat.le_refl _) (.int .i64 0)).setCell (p := ⟨w.heap.size, 1, none⟩) (Nat.le_refl _) (.int .i64 0)).setCell (p := ⟨w.heap.size, 2, none⟩) (Nat.le_refl _) (.int .i64 0)).setCell (p := ⟨w.heap.size, 3, none⟩) (Nat.le_refl _) (.string ⟨#[]⟩)).setCell (p := ⟨w.heap.size, 4, none⟩) (Nat.le_refl _) (.bool false)).setCell (p := ⟨w.heap.size, 5, none⟩) (Nat.le_refl _) (.int .i64 0)).setCell (p := ⟨w.heap.size, 6, none⟩) (Nat.le_refl _) (.int .i64 0)).setCell (p := ⟨w.heap.size, 7, none⟩) (Nat.le_refl _) (.int .i64 0)).setCell (p := ⟨w.heap.size, 8, none⟩) (Nat.le_refl _) (.bool false)), by rw [HO.out]; rfl⟩
  · obtain ⟨hll, hrange, hq1, hq2⟩ := rdN_facts s 1 p1 L q hn
    obtain ⟨y0, rfl⟩ := one_of hll
    simp at hl
    subst hl
    clear hll hrange
    obtain ⟨b, o, x0, rfl, hb, HX0, c0⟩ := hr.int (k := 0) (by simp)
    obtain rfl : y0 = x0 := by simpa using HX0.out
    simp only [Nat.add_zero] at c0
    have hfb := hfar _ _ rfl
    have n1 : (b = w.heap.size + 1) = False := by simp; omega
    have n2 : (w.heap.size + 1 = b) = False := by simp; omega
    have n3 : (b = w.heap.size) = False := by simp; omega
    have n4 : (w.heap.size = b) = False := by simp; omega
    have hci := fun W => sIs 18 0 0 ⟨#[]⟩ false 0 y0 0 true (by show 0 ≤ 1048576; omega) W
    rw [show isFB 18 0 0 ⟨#[]⟩ false 0 y0 0 true = okF (⟨18, 0, 0, ⟨#[]⟩, false, 0, y0, 0, true⟩ : Fr) from rfl] at hci
    have k1' : Bk (w2.setCell ⟨(w.heap.size + 1), 6, none⟩ (.int .i64 y0)) (w.heap.size + 1) 40 #[.int .i64 18, .int .i64 0, .int .i64 0, .string ⟨#[]⟩, .bool false, .int .i64 0, .int .i64 y0, .int .i64 0, .bool true] := (k1.set_ 6 (.int .i64 y0))
    have k0' : Bk (w2.setCell ⟨(w.heap.size + 1), 6, none⟩ (.int .i64 y0)) w.heap.size 40 #[.int .i64 0, .int .i64 0, .int .i64 0, .string ⟨#[]⟩, .bool false, .int .i64 0, .int .i64 0, .int .i64 0, .bool false] := (k0.set_other (by omega))
    have hb0' : Below w.heap.size w (w2.setCell ⟨(w.heap.size + 1), 6, none⟩ (.int .i64 y0)) := (hb0.setCell (p := ⟨(w.heap.size + 1), 6, none⟩) (Nat.le_succ _) (.int .i64 y0))
    have HRF := Lib.hid (show rfK s 19 p1 = some ((⟨18, 0, 0, ⟨#[]⟩, false, 0, y0, 0, true⟩ : Fr), q) by simp [rfK, hn])
    clear hn
    go_wp2_with fail
    generalize (w2.setCell ⟨(w.heap.size + 1), 6, none⟩ (.int .i64 y0)) = w3 at k0' k1' hb0' ⊢
    refine (hci _).mono ?_
    rintro e w4 ⟨rfl, hb4⟩
    clear f0 f1 q0 q1 q2 q3 q4 q5 q6 q7 q8 j0 j1 j2 j3 j4 j5 j6 j7 j8 k0 k1 hb0
    replace hb0 := below_next hb0' hb0'.size hb4
    have k0 := k0'.below hb4 k0'.lt
    have k1 := k1'.below hb4 k1'.lt
    obtain ⟨q0, q1, q2, q3, q4, q5, q6, q7, q8⟩ := k0.nine
    obtain ⟨j0, j1, j2, j3, j4, j5, j6, j7, j8⟩ := k1.nine
    have f0 := k0.frozen
    have f1 := k1.frozen
    clear hci k0' k1' hb0' hb4
    cases hok : okF (⟨18, 0, 0, ⟨#[]⟩, false, 0, y0, 0, true⟩ : Fr)
    · have HO := Lib.hid (show (rfK s 19 p1).filter (fun x => okF x.1) = none by rw [HRF.out]; exact filter_no hok)
      go_wp2
      refine bodyPost_ret (results_frame3 rfl _ _ w.heap.size #[.int .i64 0, .int .i64 0, .int .i64 0, .string ⟨#[]⟩, .bool false, .int .i64 0, .int .i64 0, .int .i64 0, .bool false] rfl (((((((((k0.set_ 0 (.int .i64 0)).set_ 1 (.int .i64 0)).set_ 2 (.int .i64 0)).set_ 3 (.string ⟨#[]⟩)).set_ 4 (.bool false)).set_ 5 (.int .i64 0)).set_ 6 (.int .i64 0)).set_ 7 (.int .i64 0)).set_ 8 (.bool false)) rfl) rfl ⟨(((((((((hb0.setCell (p := ⟨w.heap.size, 0, none⟩) (Nat.le_refl _) (.int .i64 0)).setCell (p := ⟨w.heap.size, 1, none⟩) (Nat.le_refl _) (.int .i64 0)).setCell (p := ⟨w.heap.size, 2, none⟩) (Nat.le_refl _) (.int .i64 0)).setCell (p := ⟨w.heap.size, 3, none⟩) (Nat.le_refl _) (.string ⟨#[]⟩)).setCell (p := ⟨w.heap.size, 4, none⟩) (Nat.le_refl _) (.bool false)).setCell (p := ⟨w.heap.size, 5, none⟩) (Nat.le_refl _) (.int .i64 0)).setCell (p := ⟨w.heap.size, 6, none⟩) (Nat.le_refl _) (.int .i64 0)).setCell (p := ⟨w.heap.size, 7, none⟩) (Nat.le_refl _) (.int .i64 0)).setCell (p := ⟨w.heap.size, 8, none⟩) (Nat.le_refl _) (.bool false)), by rw [HO.out]; rfl⟩
    · have HO := Lib.hid (show (rfK s 19 p1).filter (fun x => okF x.1) = some ((⟨18, 0, 0, ⟨#[]⟩, false, 0, y0, 0, true⟩ : Fr), q) by rw [HRF.out]; exact filter_yes hok)
      go_wp2
      refine bodyPost_ret (results_frame3 rfl _ _ w.heap.size #[.int .i64 18, .int .i64 0, .int .i64 0, .string ⟨#[]⟩, .bool false, .int .i64 0, .int .i64 y0, .int .i64 0, .bool true] rfl (((((((((k0.set_ 0 (.int .i64 18)).set_ 1 (.int .i64 0)).set_ 2 (.int .i64 0)).set_ 3 (.string ⟨#[]⟩)).set_ 4 (.bool false)).set_ 5 (.int .i64 0)).set_ 6 (.int .i64 y0)).set_ 7 (.int .i64 0)).set_ 8 (.bool true)) rfl) rfl ⟨(((((((((hb0.setCell (p := ⟨w.heap.size, 0, none⟩) (Nat.le_refl _) (.int .i64 18)).setCell (p := ⟨w.heap.size, 1, none⟩) (Nat.le_refl _) (.int .i64 0)).setCell (p := ⟨w.heap.size, 2, none⟩) (Nat.le_refl _) (.int .i64 0)).setCell (p := ⟨w.heap.size, 3, none⟩) (Nat.le_refl _) (.string ⟨#[]⟩)).setCell (p := ⟨w.heap.size, 4, none⟩) (Nat.le_refl _) (.bool false)).setCell (p := ⟨w.heap.size, 5, none⟩) (Nat.le_refl _) (.int .i64 0)).setCell (p := ⟨w.heap.size, 6, none⟩) (Nat.le_refl _) (.int .i64 y0)).setCell (p := ⟨w.heap.size, 7, none⟩) (Nat.le_refl _) (.int .i64 0)).setCell (p := ⟨w.heap.size, 8, none⟩) (Nat.le_refl _) (.bool true)), by rw [HO.out]; exact ret_tup rfl⟩
set_option maxRecDepth 20000 in
set_option maxHeartbeats 4000000 in
theorem sDF_20 (s : ByteArray) (hs : s.size ≤ 1048576) (p : Nat) (hp : p < s.size) (hk : (s[p]'hp).toNat = 20) (w : World) :
    Calls Try.prog 32 #[.string s, .int .i64 p] w fun e w' => Below w.heap.size w w' ∧ e = .returned (dfVal ((rfK s 20 ((p : Int) + 1)).filter fun x => okF x.1)) := by
  have hk3 : (((s[p]'hp).toNat : Nat) : Int) = 20 := by omega
  have hkw : wrap64 20 = 20 := by unfold wrap64; omega
  clear hk
  have hd3 : decide (s.size ≤ p) = false := by simp; omega
  obtain ⟨p1, hp1⟩ : ∃ p1, p + 1 = p1 := ⟨_, rfl⟩
  have hp2 : (p : Int) + 1 = p1 := by omega
  rw [hp2]
  have k0 : Bk (w.alloc (.cells #[.int .i64 0, .int .i64 0, .int .i64 0, .string ⟨#[]⟩, .bool false, .int .i64 0, .int .i64 0, .int .i64 0, .bool false] 40)) w.heap.size 40 #[.int .i64 0, .int .i64 0, .int .i64 0, .string ⟨#[]⟩, .bool false, .int .i64 0, .int .i64 0, .int .i64 0, .bool false] := heap_alloc_new w _
  have hb0 : Below w.heap.size w (w.alloc (.cells #[.int .i64 0, .int .i64 0, .int .i64 0, .string ⟨#[]⟩, .bool false, .int .i64 0, .int .i64 0, .int .i64 0, .bool false] 40)) := (Below.refl _ _).alloc (Nat.le_refl _) _
  have hs0 : (w.alloc (.cells #[.int .i64 0, .int .i64 0, .int .i64 0, .string ⟨#[]⟩, .bool false, .int .i64 0, .int .i64 0, .int .i64 0, .bool false] 40)).heap.size = w.heap.size + 1 := by simp
  go_enter Try.func32, Try.ntmps32
  go_wp2_with fail
  generalize (w.alloc (.cells #[.int .i64 0, .int .i64 0, .int .i64 0, .string ⟨#[]⟩, .bool false, .int .i64 0, .int .i64 0, .int .i64 0, .bool false] 40)) = w0 at k0 hb0 hs0 ⊢
  have k1 : Bk (w0.alloc (.cells #[.int .i64 20, .int .i64 0, .int .i64 0, .string ⟨#[]⟩, .bool false, .int .i64 0, .int .i64 0, .int .i64 0, .bool false] 40)) (w.heap.size + 1) 40 #[.int .i64 20, .int .i64 0, .int .i64 0, .string ⟨#[]⟩, .bool false, .int .i64 0, .int .i64 0, .int .i64 0, .bool false] := by rw [← hs0]; exact heap_alloc_new w0 _
  replace k0 := k0.below ((Below.refl w0.heap.size w0).alloc (Nat.le_refl _) (.cells #[.int .i64 20, .int .i64 0, .int .i64 0, .string ⟨#[]⟩, .bool false, .int .i64 0, .int .i64 0, .int .i64 0, .bool false] 40)) k0.lt
  replace hb0 := hb0.alloc hb0.size (.cells #[.int .i64 20, .int .i64 0, .int .i64 0, .string ⟨#[]⟩, .bool false, .int .i64 0, .int .i64 0, .int .i64 0, .bool false] 40)
  clear hs0
  generalize (w0.alloc (.cells #[.int .i64 20, .int .i64 0, .int .i64 0, .string ⟨#[]⟩, .bool false, .int .i64 0, .int .i64 0, .int .i64 0, .bool false] 40)) = w1 at k0 k1 hb0 ⊢
  refine (sRead s hs p1 1 (by omega) _).mono ?_
  rintro e w2 ⟨hb1, A, c, n, q, t, L, rfl, hr, hl, hfar, h⟩
  have hk1 := k1.lt
  replace k0 := k0.below hb1 k0.lt
  replace k1 := k1.below hb1 k1.lt
  replace hb0 := below_next hb0 hb0.size hb1
  clear hb1
  obtain ⟨q0, q1, q2, q3, q4, q5, q6, q7, q8⟩ := k0.nine
  obtain ⟨j0, j1, j2, j3, j4, j5, j6, j7, j8⟩ := k1.nine
  have f0 := k0.frozen
  have f1 := k1.frozen
  rcases h with ⟨hn, rfl, rfl⟩ | ⟨hn, rfl⟩
  · have HO := Lib.hid (show (rfK s 20 p1).filter (fun x => okF x.1) = none by simp [rfK, hn])
    simp at hl
    subst hl
    obtain ⟨b, o, x0, rfl, hb, HX0, c0⟩ := hr.int (k := 0) (by simp)
    obtain rfl : x0 = 0 := by simpa using HX0.out.symm
    simp only [Nat.add_zero] at c0
    have hfb := hfar _ _ rfl
    have n1 : (b = w.heap.size + 1) = False := by simp; omega
    have n2 : (w.heap.size + 1 = b) = False := by simp; omega
    have n3 : (b = w.heap.size) = False := by simp; omega
    have n4 : (w.heap.size = b) = False := by simp; omega
    have k0' : Bk (w2.setCell ⟨(w.heap.size + 1), 6, none⟩ (.int .i64 0)) w.heap.size 40 #[.int .i64 0, .int .i64 0, .int .i64 0, .string ⟨#[]⟩, .bool false, .int .i64 0, .int .i64 0, .int .i64 0, .bool false] := (k0.set_other (by omega))
    have hb0' : Below w.heap.size w (w2.setCell ⟨(w.heap.size + 1), 6, none⟩ (.int .i64 0)) := (hb0.setCell (p := ⟨(w.heap.size + 1), 6, none⟩) (Nat.le_succ _) (.int .i64 0))
    go_wp2
    refine bodyPost_ret (results_frame3 rfl _ _ w.heap.size #[.int .i64 0, .int .i64 0, .int .i64 0, .string ⟨#[]⟩, .bool false, .int .i64 0, .int .i64 0, .int .i64 0, .bool false] rfl (((((((((k0'.set_ 0 (.int .i64 0)).set_ 1 (.int .i64 0)).set_ 2 (.int .i64 0)).set_ 3 (.string ⟨#[]⟩)).set_ 4 (.bool false)).set_ 5 (.int .i64 0)).set_ 6 (.int .i64 0)).set_ 7 (.int .i64 0)).set_ 8 (.bool false)) rfl) rfl ⟨(((((((((hb0'.setCell (p := ⟨w.heap.size, 0, none⟩) (Nat.le_refl _) (.int .i64 0)).setCell (p := ⟨w.heap.size, 1, none⟩) (Nat.le_refl _) (.int .i64 0)).setCell (p := ⟨w.heap.size, 2, none⟩) (Nat.le_refl _) (.int .i64 0)).setCell (p := ⟨w.heap.size, 3, none⟩) (Nat.le_refl _) (.string ⟨#[]⟩)).setCell (p := ⟨w.heap.size, 4, none⟩) (Nat.le_refl _) (.bool false)).setCell (p := ⟨w.heap.size, 5, none⟩) (Nat.le_refl _) (.int .i64 0)).setCell (p := ⟨w.heap.size, 6, none⟩) (Nat.le_refl _) (.int .i64 0)).setCell (p := ⟨w.heap.size, 7, none⟩) (Nat.le_refl _) (.int .i64 0)).setCell (p := ⟨w.heap.size, 8, none⟩) (Nat.le_refl _) (.bool false)), by rw [HO.out]; rfl⟩
  · obtain ⟨hll, hrange, hq1, hq2⟩ := rdN_facts s 1 p1 L q hn
    obtain ⟨y0, rfl⟩ := one_of hll
    simp at hl
    subst hl
    clear hll hrange
    obtain ⟨b, o, x0, rfl, hb, HX0, c0⟩ := hr.int (k := 0) (by simp)
    obtain rfl : y0 = x0 := by simpa using HX0.out
    simp only [Nat.add_zero] at c0
    have hfb := hfar _ _ rfl
    have n1 : (b = w.heap.size + 1) = False := by simp; omega
    have n2 : (w.heap.size + 1 = b) = False := by simp; omega
    have n3 : (b = w.heap.size) = False := by simp; omega
    have n4 : (w.heap.size = b) = False := by simp; omega
    have hci := fun W => sIs 20 0 0 ⟨#[]⟩ false 0 y0 0 false (by show 0 ≤ 1048576; omega) W
    rw [show isFB 20 0 0 ⟨#[]⟩ false 0 y0 0 false = okF (⟨20, 0, 0, ⟨#[]⟩, false, 0, y0, 0, false⟩ : Fr) from rfl] at hci
    have k1' : Bk (w2.setCell ⟨(w.heap.size + 1), 6, none⟩ (.int .i64 y0)) (w.heap.size + 1) 40 #[.int .i64 20, .int .i64 0, .int .i64 0, .string ⟨#[]⟩, .bool false, .int .i64 0, .int .i64 y0, .int .i64 0, .bool false] := (k1.set_ 6 (.int .i64 y0))
    have k0' : Bk (w2.setCell ⟨(w.heap.size + 1), 6, none⟩ (.int .i64 y0)) w.heap.size 40 #[.int .i64 0, .int .i64 0, .int .i64 0, .string ⟨#[]⟩, .bool false, .int .i64 0, .int .i64 0, .int .i64 0, .bool false] := (k0.set_other (by omega))
    have hb0' : Below w.heap.size w (w2.setCell ⟨(w.heap.size + 1), 6, none⟩ (.int .i64 y0)) := (hb0.setCell (p := ⟨(w.heap.size + 1), 6, none⟩) (Nat.le_succ _) (.int .i64 y0))
    have HRF := Lib.hid (show rfK s 20 p1 = some ((⟨20, 0, 0, ⟨#[]⟩, false, 0, y0, 0, false⟩ : Fr), q) by simp [rfK, hn])
    clear hn
    go_wp2_with fail
    generalize (w2.setCell ⟨(w.heap.size + 1), 6, none⟩ (.int .i64 y0)) = w3 at k0' k1' hb0' ⊢
    refine (hci _).mono ?_
    rintro e w4 ⟨rfl, hb4⟩
    clear f0 f1 q0 q1 q2 q3 q4 q5 q6 q7 q8 j0 j1 j2 j3 j4 j5 j6 j7 j8 k0 k1 hb0
    replace hb0 := below_next hb0' hb0'.size hb4
    have k0 := k0'.below hb4 k0'.lt
    have k1 := k1'.below hb4 k1'.lt
    obtain ⟨q0, q1, q2, q3, q4, q5, q6, q7, q8⟩ := k0.nine
    obtain ⟨j0, j1, j2, j3, j4, j5, j6, j7, j8⟩ := k1.nine
    have f0 := k0.frozen
    have f1 := k1.frozen
    clear hci k0' k1' hb0' hb4
    cases hok : okF (⟨20, 0, 0, ⟨#[]⟩, false, 0, y0, 0, false⟩ : Fr)
    · have HO := Lib.hid (show (rfK s 20 p1).filter (fun x => okF x.1) = none by rw [HRF.out]; exact filter_no hok)
      go_wp2
      refine bodyPost_ret (results_frame3 rfl _ _ w.heap.size #[.int .i64 0, .int .i64 0, .int .i64 0, .string ⟨#[]⟩, .bool false, .int .i64 0, .int .i64 0, .int .i64 0, .bool false] rfl (((((((((k0.set_ 0 (.int .i64 0)).set_ 1 (.int .i64 0)).set_ 2 (.int .i64 0)).set_ 3 (.string ⟨#[]⟩)).set_ 4 (.bool false)).set_ 5 (.int .i64 0)).set_ 6 (.int .i64 0)).set_ 7 (.int .i64 0)).set_ 8 (.bool false)) rfl) rfl ⟨(((((((((hb0.setCell (p := ⟨w.heap.size, 0, none⟩) (Nat.le_refl _) (.int .i64 0)).setCell (p := ⟨w.heap.size, 1, none⟩) (Nat.le_refl _) (.int .i64 0)).setCell (p := ⟨w.heap.size, 2, none⟩) (Nat.le_refl _) (.int .i64 0)).setCell (p := ⟨w.heap.size, 3, none⟩) (Nat.le_refl _) (.string ⟨#[]⟩)).setCell (p := ⟨w.heap.size, 4, none⟩) (Nat.le_refl _) (.bool false)).setCell (p := ⟨w.heap.size, 5, none⟩) (Nat.le_refl _) (.int .i64 0)).setCell (p := ⟨w.heap.size, 6, none⟩) (Nat.le_refl _) (.int .i64 0)).setCell (p := ⟨w.heap.size, 7, none⟩) (Nat.le_refl _) (.int .i64 0)).setCell (p := ⟨w.heap.size, 8, none⟩) (Nat.le_refl _) (.bool false)), by rw [HO.out]; rfl⟩
    · have HO := Lib.hid (show (rfK s 20 p1).filter (fun x => okF x.1) = some ((⟨20, 0, 0, ⟨#[]⟩, false, 0, y0, 0, false⟩ : Fr), q) by rw [HRF.out]; exact filter_yes hok)
      go_wp2
      refine bodyPost_ret (results_frame3 rfl _ _ w.heap.size #[.int .i64 20, .int .i64 0, .int .i64 0, .string ⟨#[]⟩, .bool false, .int .i64 0, .int .i64 y0, .int .i64 0, .bool false] rfl (((((((((k0.set_ 0 (.int .i64 20)).set_ 1 (.int .i64 0)).set_ 2 (.int .i64 0)).set_ 3 (.string ⟨#[]⟩)).set_ 4 (.bool false)).set_ 5 (.int .i64 0)).set_ 6 (.int .i64 y0)).set_ 7 (.int .i64 0)).set_ 8 (.bool false)) rfl) rfl ⟨(((((((((hb0.setCell (p := ⟨w.heap.size, 0, none⟩) (Nat.le_refl _) (.int .i64 20)).setCell (p := ⟨w.heap.size, 1, none⟩) (Nat.le_refl _) (.int .i64 0)).setCell (p := ⟨w.heap.size, 2, none⟩) (Nat.le_refl _) (.int .i64 0)).setCell (p := ⟨w.heap.size, 3, none⟩) (Nat.le_refl _) (.string ⟨#[]⟩)).setCell (p := ⟨w.heap.size, 4, none⟩) (Nat.le_refl _) (.bool false)).setCell (p := ⟨w.heap.size, 5, none⟩) (Nat.le_refl _) (.int .i64 0)).setCell (p := ⟨w.heap.size, 6, none⟩) (Nat.le_refl _) (.int .i64 y0)).setCell (p := ⟨w.heap.size, 7, none⟩) (Nat.le_refl _) (.int .i64 0)).setCell (p := ⟨w.heap.size, 8, none⟩) (Nat.le_refl _) (.bool false)), by rw [HO.out]; exact ret_tup rfl⟩
set_option maxRecDepth 20000 in
set_option maxHeartbeats 4000000 in
theorem sDF_21 (s : ByteArray) (hs : s.size ≤ 1048576) (p : Nat) (hp : p < s.size) (hk : (s[p]'hp).toNat = 21) (w : World) :
    Calls Try.prog 32 #[.string s, .int .i64 p] w fun e w' => Below w.heap.size w w' ∧ e = .returned (dfVal ((rfK s 21 ((p : Int) + 1)).filter fun x => okF x.1)) := by
  have hk3 : (((s[p]'hp).toNat : Nat) : Int) = 21 := by omega
  have hkw : wrap64 21 = 21 := by unfold wrap64; omega
  clear hk
  have hd3 : decide (s.size ≤ p) = false := by simp; omega
  obtain ⟨p1, hp1⟩ : ∃ p1, p + 1 = p1 := ⟨_, rfl⟩
  have hp2 : (p : Int) + 1 = p1 := by omega
  rw [hp2]
  have k0 : Bk (w.alloc (.cells #[.int .i64 0, .int .i64 0, .int .i64 0, .string ⟨#[]⟩, .bool false, .int .i64 0, .int .i64 0, .int .i64 0, .bool false] 40)) w.heap.size 40 #[.int .i64 0, .int .i64 0, .int .i64 0, .string ⟨#[]⟩, .bool false, .int .i64 0, .int .i64 0, .int .i64 0, .bool false] := heap_alloc_new w _
  have hb0 : Below w.heap.size w (w.alloc (.cells #[.int .i64 0, .int .i64 0, .int .i64 0, .string ⟨#[]⟩, .bool false, .int .i64 0, .int .i64 0, .int .i64 0, .bool false] 40)) := (Below.refl _ _).alloc (Nat.le_refl _) _
  have hs0 : (w.alloc (.cells #[.int .i64 0, .int .i64 0, .int .i64 0, .string ⟨#[]⟩, .bool false, .int .i64 0, .int .i64 0, .int .i64 0, .bool false] 40)).heap.size = w.heap.size + 1 := by simp
  go_enter Try.func32, Try.ntmps32
  go_wp2_with fail
  generalize (w.alloc (.cells #[.int .i64 0, .int .i64 0, .int .i64 0, .string ⟨#[]⟩, .bool false, .int .i64 0, .int .i64 0, .int .i64 0, .bool false] 40)) = w0 at k0 hb0 hs0 ⊢
  have k1 : Bk (w0.alloc (.cells #[.int .i64 21, .int .i64 0, .int .i64 0, .string ⟨#[]⟩, .bool false, .int .i64 0, .int .i64 0, .int .i64 0, .bool false] 40)) (w.heap.size + 1) 40 #[.int .i64 21, .int .i64 0, .int .i64 0, .string ⟨#[]⟩, .bool false, .int .i64 0, .int .i64 0, .int .i64 0, .bool false] := by rw [← hs0]; exact heap_alloc_new w0 _
  replace k0 := k0.below ((Below.refl w0.heap.size w0).alloc (Nat.le_refl _) (.cells #[.int .i64 21, .int .i64 0, .int .i64 0, .string ⟨#[]⟩, .bool false, .int .i64 0, .int .i64 0, .int .i64 0, .bool false] 40)) k0.lt
  replace hb0 := hb0.alloc hb0.size (.cells #[.int .i64 21, .int .i64 0, .int .i64 0, .string ⟨#[]⟩, .bool false, .int .i64 0, .int .i64 0, .int .i64 0, .bool false] 40)
  clear hs0
  generalize (w0.alloc (.cells #[.int .i64 21, .int .i64 0, .int .i64 0, .string ⟨#[]⟩, .bool false, .int .i64 0, .int .i64 0, .int .i64 0, .bool false] 40)) = w1 at k0 k1 hb0 ⊢
  refine (sRead s hs p1 2 (by omega) _).mono ?_
  rintro e w2 ⟨hb1, A, c, n, q, t, L, rfl, hr, hl, hfar, h⟩
  have hk1 := k1.lt
  replace k0 := k0.below hb1 k0.lt
  replace k1 := k1.below hb1 k1.lt
  replace hb0 := below_next hb0 hb0.size hb1
  clear hb1
  obtain ⟨q0, q1, q2, q3, q4, q5, q6, q7, q8⟩ := k0.nine
  obtain ⟨j0, j1, j2, j3, j4, j5, j6, j7, j8⟩ := k1.nine
  have f0 := k0.frozen
  have f1 := k1.frozen
  rcases h with ⟨hn, rfl, rfl⟩ | ⟨hn, rfl⟩
  · have HO := Lib.hid (show (rfK s 21 p1).filter (fun x => okF x.1) = none by simp [rfK, hn])
    simp at hl
    subst hl
    obtain ⟨b, o, x0, rfl, hb, HX0, c0⟩ := hr.int (k := 0) (by simp)
    obtain rfl : x0 = 0 := by simpa using HX0.out.symm
    obtain ⟨b', o', x1, he, hb', HX1, c1⟩ := hr.int (k := 1) (by simp)
    simp at he
    obtain ⟨rfl, rfl⟩ := he
    obtain rfl : x1 = 0 := by simpa using HX1.out.symm
    simp only [Nat.add_zero] at c0
    have hfb := hfar _ _ rfl
    have n1 : (b = w.heap.size + 1) = False := by simp; omega
    have n2 : (w.heap.size + 1 = b) = False := by simp; omega
    have n3 : (b = w.heap.size) = False := by simp; omega
    have n4 : (w.heap.size = b) = False := by simp; omega
    have k0' : Bk ((w2.setCell ⟨(w.heap.size + 1), 1, none⟩ (.int .i64 0)).setCell ⟨(w.heap.size + 1), 6, none⟩ (.int .i64 0)) w.heap.size 40 #[.int .i64 0, .int .i64 0, .int .i64 0, .string ⟨#[]⟩, .bool false, .int .i64 0, .int .i64 0, .int .i64 0, .bool false] := ((k0.set_other (by omega)).set_other (by omega))
    have hb0' : Below w.heap.size w ((w2.setCell ⟨(w.heap.size + 1), 1, none⟩ (.int .i64 0)).setCell ⟨(w.heap.size + 1), 6, none⟩ (.int .i64 0)) := ((hb0.setCell (p := ⟨(w.heap.size + 1), 1, none⟩) (Nat.le_succ _) (.int .i64 0)).setCell (p := ⟨(w.heap.size + 1), 6, none⟩) (Nat.le_succ _) (.int .i64 0))
    go_wp2
    refine bodyPost_ret (results_frame3 rfl _ _ w.heap.size #[.int .i64 0, .int .i64 0, .int .i64 0, .string ⟨#[]⟩, .bool false, .int .i64 0, .int .i64 0, .int .i64 0, .bool false] rfl (((((((((k0'.set_ 0 (.int .i64 0)).set_ 1 (.int .i64 0)).set_ 2 (.int .i64 0)).set_ 3 (.string ⟨#[]⟩)).set_ 4 (.bool false)).set_ 5 (.int .i64 0)).set_ 6 (.int .i64 0)).set_ 7 (.int .i64 0)).set_ 8 (.bool false)) rfl) rfl ⟨(((((((((hb0'.setCell (p := ⟨w.heap.size, 0, none⟩) (Nat.le_refl _) (.int .i64 0)).setCell (p := ⟨w.heap.size, 1, none⟩) (Nat.le_refl _) (.int .i64 0)).setCell (p := ⟨w.heap.size, 2, none⟩) (Nat.le_refl _) (.int .i64 0)).setCell (p := ⟨w.heap.size, 3, none⟩) (Nat.le_refl _) (.string ⟨#[]⟩)).setCell (p := ⟨w.heap.size, 4, none⟩) (Nat.le_refl _) (.bool false)).setCell (p := ⟨w.heap.size, 5, none⟩) (Nat.le_refl _) (.int .i64 0)).setCell (p := ⟨w.heap.size, 6, none⟩) (Nat.le_refl _) (.int .i64 0)).setCell (p := ⟨w.heap.size, 7, none⟩) (Nat.le_refl _) (.int .i64 0)).setCell (p := ⟨w.heap.size, 8, none⟩) (Nat.le_refl _) (.bool false)), by rw [HO.out]; rfl⟩
  · obtain ⟨hll, hrange, hq1, hq2⟩ := rdN_facts s 2 p1 L q hn
    obtain ⟨y0, y1, rfl⟩ := two_of hll
    simp at hl
    subst hl
    clear hll hrange
    obtain ⟨b, o, x0, rfl, hb, HX0, c0⟩ := hr.int (k := 0) (by simp)
    obtain rfl : y0 = x0 := by simpa using HX0.out
    obtain ⟨b', o', x1, he, hb', HX1, c1⟩ := hr.int (k := 1) (by simp)
    simp at he
    obtain ⟨rfl, rfl⟩ := he
    obtain rfl : y1 = x1 := by simpa using HX1.out
    simp only [Nat.add_zero] at c0
    have hfb := hfar _ _ rfl
    have n1 : (b = w.heap.size + 1) = False := by simp; omega
    have n2 : (w.heap.size + 1 = b) = False := by simp; omega
    have n3 : (b = w.heap.size) = False := by simp; omega
    have n4 : (w.heap.size = b) = False := by simp; omega
    have hci := fun W => sIs 21 y0 0 ⟨#[]⟩ false 0 y1 0 false (by show 0 ≤ 1048576; omega) W
    rw [show isFB 21 y0 0 ⟨#[]⟩ false 0 y1 0 false = okF (⟨21, y0, 0, ⟨#[]⟩, false, 0, y1, 0, false⟩ : Fr) from rfl] at hci
    have k1' : Bk ((w2.setCell ⟨(w.heap.size + 1), 1, none⟩ (.int .i64 y0)).setCell ⟨(w.heap.size + 1), 6, none⟩ (.int .i64 y1)) (w.heap.size + 1) 40 #[.int .i64 21, .int .i64 y0, .int .i64 0, .string ⟨#[]⟩, .bool false, .int .i64 0, .int .i64 y1, .int .i64 0, .bool false] := ((k1.set_ 1 (.int .i64 y0)).set_ 6 (.int .i64 y1))
    have k0' : Bk ((w2.setCell ⟨(w.heap.size + 1), 1, none⟩ (.int .i64 y0)).setCell ⟨(w.heap.size + 1), 6, none⟩ (.int .i64 y1)) w.heap.size 40 #[.int .i64 0, .int .i64 0, .int .i64 0, .string ⟨#[]⟩, .bool false, .int .i64 0, .int .i64 0, .int .i64 0, .bool false] := ((k0.set_other (by omega)).set_other (by omega))
    have hb0' : Below w.heap.size w ((w2.setCell ⟨(w.heap.size + 1), 1, none⟩ (.int .i64 y0)).setCell ⟨(w.heap.size + 1), 6, none⟩ (.int .i64 y1)) := ((hb0.setCell (p := ⟨(w.heap.size + 1), 1, none⟩) (Nat.le_succ _) (.int .i64 y0)).setCell (p := ⟨(w.heap.size + 1), 6, none⟩) (Nat.le_succ _) (.int .i64 y1))
    have HRF := Lib.hid (show rfK s 21 p1 = some ((⟨21, y0, 0, ⟨#[]⟩, false, 0, y1, 0, false⟩ : Fr), q) by simp [rfK, hn])
    clear hn
    go_wp2_with fail
    generalize ((w2.setCell ⟨(w.heap.size + 1), 1, none⟩ (.int .i64 y0)).setCell ⟨(w.heap.size + 1), 6, none⟩ (.int .i64 y1)) = w3 at k0' k1' hb0' ⊢
    refine (hci _).mono ?_
    rintro e w4 ⟨rfl, hb4⟩
    clear f0 f1 q0 q1 q2 q3 q4 q5 q6 q7 q8 j0 j1 j2 j3 j4 j5 j6 j7 j8 k0 k1 hb0
    replace hb0 := below_next hb0' hb0'.size hb4
    have k0 := k0'.below hb4 k0'.lt
    have k1 := k1'.below hb4 k1'.lt
    obtain ⟨q0, q1, q2, q3, q4, q5, q6, q7, q8⟩ := k0.nine
    obtain ⟨j0, j1, j2, j3, j4, j5, j6, j7, j8⟩ := k1.nine
    have f0 := k0.frozen
    have f1 := k1.frozen
    clear hci k0' k1' hb0' hb4
    cases hok : okF (⟨21, y0, 0, ⟨#[]⟩, false, 0, y1, 0, false⟩ : Fr)
    · have HO := Lib.hid (show (rfK s 21 p1).filter (fun x => okF x.1) = none by rw [HRF.out]; exact filter_no hok)
      go_wp2
      refine bodyPost_ret (results_frame3 rfl _ _ w.heap.size #[.int .i64 0, .int .i64 0, .int .i64 0, .string ⟨#[]⟩, .bool false, .int .i64 0, .int .i64 0, .int .i64 0, .bool false] rfl (((((((((k0.set_ 0 (.int .i64 0)).set_ 1 (.int .i64 0)).set_ 2 (.int .i64 0)).set_ 3 (.string ⟨#[]⟩)).set_ 4 (.bool false)).set_ 5 (.int .i64 0)).set_ 6 (.int .i64 0)).set_ 7 (.int .i64 0)).set_ 8 (.bool false)) rfl) rfl ⟨(((((((((hb0.setCell (p := ⟨w.heap.size, 0, none⟩) (Nat.le_refl _) (.int .i64 0)).setCell (p := ⟨w.heap.size, 1, none⟩) (Nat.le_refl _) (.int .i64 0)).setCell (p := ⟨w.heap.size, 2, none⟩) (Nat.le_refl _) (.int .i64 0)).setCell (p := ⟨w.heap.size, 3, none⟩) (Nat.le_refl _) (.string ⟨#[]⟩)).setCell (p := ⟨w.heap.size, 4, none⟩) (Nat.le_refl _) (.bool false)).setCell (p := ⟨w.heap.size, 5, none⟩) (Nat.le_refl _) (.int .i64 0)).setCell (p := ⟨w.heap.size, 6, none⟩) (Nat.le_refl _) (.int .i64 0)).setCell (p := ⟨w.heap.size, 7, none⟩) (Nat.le_refl _) (.int .i64 0)).setCell (p := ⟨w.heap.size, 8, none⟩) (Nat.le_refl _) (.bool false)), by rw [HO.out]; rfl⟩
    · have HO := Lib.hid (show (rfK s 21 p1).filter (fun x => okF x.1) = some ((⟨21, y0, 0, ⟨#[]⟩, false, 0, y1, 0, false⟩ : Fr), q) by rw [HRF.out]; exact filter_yes hok)
      go_wp2
      refine bodyPost_ret (results_frame3 rfl _ _ w.heap.size #[.int .i64 21, .int .i64 y0, .int .i64 0, .string ⟨#[]⟩, .bool false, .int .i64 0, .int .i64 y1, .int .i64 0, .bool false] rfl (((((((((k0.set_ 0 (.int .i64 21)).set_ 1 (.int .i64 y0)).set_ 2 (.int .i64 0)).set_ 3 (.string ⟨#[]⟩)).set_ 4 (.bool false)).set_ 5 (.int .i64 0)).set_ 6 (.int .i64 y1)).set_ 7 (.int .i64 0)).set_ 8 (.bool false)) rfl) rfl ⟨(((((((((hb0.setCell (p := ⟨w.heap.size, 0, none⟩) (Nat.le_refl _) (.int .i64 21)).setCell (p := ⟨w.heap.size, 1, none⟩) (Nat.le_refl _) (.int .i64 y0)).setCell (p := ⟨w.heap.size, 2, none⟩) (Nat.le_refl _) (.int .i64 0)).setCell (p := ⟨w.heap.size, 3, none⟩) (Nat.le_refl _) (.string ⟨#[]⟩)).setCell (p := ⟨w.heap.size, 4, none⟩) (Nat.le_refl _) (.bool false)).setCell (p := ⟨w.heap.size, 5, none⟩) (Nat.le_refl _) (.int .i64 0)).setCell (p := ⟨w.heap.size, 6, none⟩) (Nat.le_refl _) (.int .i64 y1)).setCell (p := ⟨w.heap.size, 7, none⟩) (Nat.le_refl _) (.int .i64 0)).setCell (p := ⟨w.heap.size, 8, none⟩) (Nat.le_refl _) (.bool false)), by rw [HO.out]; exact ret_tup rfl⟩
set_option maxRecDepth 20000 in
set_option maxHeartbeats 4000000 in
theorem sDF_22 (s : ByteArray) (hs : s.size ≤ 1048576) (p : Nat) (hp : p < s.size) (hk : (s[p]'hp).toNat = 22) (w : World) :
    Calls Try.prog 32 #[.string s, .int .i64 p] w fun e w' => Below w.heap.size w w' ∧ e = .returned (dfVal ((rfK s 22 ((p : Int) + 1)).filter fun x => okF x.1)) := by
  have hk3 : (((s[p]'hp).toNat : Nat) : Int) = 22 := by omega
  have hkw : wrap64 22 = 22 := by unfold wrap64; omega
  clear hk
  have hd3 : decide (s.size ≤ p) = false := by simp; omega
  obtain ⟨p1, hp1⟩ : ∃ p1, p + 1 = p1 := ⟨_, rfl⟩
  have hp2 : (p : Int) + 1 = p1 := by omega
  rw [hp2]
  have k0 : Bk (w.alloc (.cells #[.int .i64 0, .int .i64 0, .int .i64 0, .string ⟨#[]⟩, .bool false, .int .i64 0, .int .i64 0, .int .i64 0, .bool false] 40)) w.heap.size 40 #[.int .i64 0, .int .i64 0, .int .i64 0, .string ⟨#[]⟩, .bool false, .int .i64 0, .int .i64 0, .int .i64 0, .bool false] := heap_alloc_new w _
  have hb0 : Below w.heap.size w (w.alloc (.cells #[.int .i64 0, .int .i64 0, .int .i64 0, .string ⟨#[]⟩, .bool false, .int .i64 0, .int .i64 0, .int .i64 0, .bool false] 40)) := (Below.refl _ _).alloc (Nat.le_refl _) _
  have hs0 : (w.alloc (.cells #[.int .i64 0, .int .i64 0, .int .i64 0, .string ⟨#[]⟩, .bool false, .int .i64 0, .int .i64 0, .int .i64 0, .bool false] 40)).heap.size = w.heap.size + 1 := by simp
  go_enter Try.func32, Try.ntmps32
  go_wp2_with fail
  generalize (w.alloc (.cells #[.int .i64 0, .int .i64 0, .int .i64 0, .string ⟨#[]⟩, .bool false, .int .i64 0, .int .i64 0, .int .i64 0, .bool false] 40)) = w0 at k0 hb0 hs0 ⊢
  have k1 : Bk (w0.alloc (.cells #[.int .i64 22, .int .i64 0, .int .i64 0, .string ⟨#[]⟩, .bool false, .int .i64 0, .int .i64 0, .int .i64 0, .bool false] 40)) (w.heap.size + 1) 40 #[.int .i64 22, .int .i64 0, .int .i64 0, .string ⟨#[]⟩, .bool false, .int .i64 0, .int .i64 0, .int .i64 0, .bool false] := by rw [← hs0]; exact heap_alloc_new w0 _
  replace k0 := k0.below ((Below.refl w0.heap.size w0).alloc (Nat.le_refl _) (.cells #[.int .i64 22, .int .i64 0, .int .i64 0, .string ⟨#[]⟩, .bool false, .int .i64 0, .int .i64 0, .int .i64 0, .bool false] 40)) k0.lt
  replace hb0 := hb0.alloc hb0.size (.cells #[.int .i64 22, .int .i64 0, .int .i64 0, .string ⟨#[]⟩, .bool false, .int .i64 0, .int .i64 0, .int .i64 0, .bool false] 40)
  clear hs0
  generalize (w0.alloc (.cells #[.int .i64 22, .int .i64 0, .int .i64 0, .string ⟨#[]⟩, .bool false, .int .i64 0, .int .i64 0, .int .i64 0, .bool false] 40)) = w1 at k0 k1 hb0 ⊢
  refine (sRead s hs p1 1 (by omega) _).mono ?_
  rintro e w2 ⟨hb1, A, c, n, q, t, L, rfl, hr, hl, hfar, h⟩
  have hk1 := k1.lt
  replace k0 := k0.below hb1 k0.lt
  replace k1 := k1.below hb1 k1.lt
  replace hb0 := below_next hb0 hb0.size hb1
  clear hb1
  obtain ⟨q0, q1, q2, q3, q4, q5, q6, q7, q8⟩ := k0.nine
  obtain ⟨j0, j1, j2, j3, j4, j5, j6, j7, j8⟩ := k1.nine
  have f0 := k0.frozen
  have f1 := k1.frozen
  rcases h with ⟨hn, rfl, rfl⟩ | ⟨hn, rfl⟩
  · have HO := Lib.hid (show (rfK s 22 p1).filter (fun x => okF x.1) = none by simp [rfK, hn])
    simp at hl
    subst hl
    obtain ⟨b, o, x0, rfl, hb, HX0, c0⟩ := hr.int (k := 0) (by simp)
    obtain rfl : x0 = 0 := by simpa using HX0.out.symm
    simp only [Nat.add_zero] at c0
    have hfb := hfar _ _ rfl
    have n1 : (b = w.heap.size + 1) = False := by simp; omega
    have n2 : (w.heap.size + 1 = b) = False := by simp; omega
    have n3 : (b = w.heap.size) = False := by simp; omega
    have n4 : (w.heap.size = b) = False := by simp; omega
    have k0' : Bk (w2.setCell ⟨(w.heap.size + 1), 6, none⟩ (.int .i64 0)) w.heap.size 40 #[.int .i64 0, .int .i64 0, .int .i64 0, .string ⟨#[]⟩, .bool false, .int .i64 0, .int .i64 0, .int .i64 0, .bool false] := (k0.set_other (by omega))
    have hb0' : Below w.heap.size w (w2.setCell ⟨(w.heap.size + 1), 6, none⟩ (.int .i64 0)) := (hb0.setCell (p := ⟨(w.heap.size + 1), 6, none⟩) (Nat.le_succ _) (.int .i64 0))
    go_wp2
    refine bodyPost_ret (results_frame3 rfl _ _ w.heap.size #[.int .i64 0, .int .i64 0, .int .i64 0, .string ⟨#[]⟩, .bool false, .int .i64 0, .int .i64 0, .int .i64 0, .bool false] rfl (((((((((k0'.set_ 0 (.int .i64 0)).set_ 1 (.int .i64 0)).set_ 2 (.int .i64 0)).set_ 3 (.string ⟨#[]⟩)).set_ 4 (.bool false)).set_ 5 (.int .i64 0)).set_ 6 (.int .i64 0)).set_ 7 (.int .i64 0)).set_ 8 (.bool false)) rfl) rfl ⟨(((((((((hb0'.setCell (p := ⟨w.heap.size, 0, none⟩) (Nat.le_refl _) (.int .i64 0)).setCell (p := ⟨w.heap.size, 1, none⟩) (Nat.le_refl _) (.int .i64 0)).setCell (p := ⟨w.heap.size, 2, none⟩) (Nat.le_refl _) (.int .i64 0)).setCell (p := ⟨w.heap.size, 3, none⟩) (Nat.le_refl _) (.string ⟨#[]⟩)).setCell (p := ⟨w.heap.size, 4, none⟩) (Nat.le_refl _) (.bool false)).setCell (p := ⟨w.heap.size, 5, none⟩) (Nat.le_refl _) (.int .i64 0)).setCell (p := ⟨w.heap.size, 6, none⟩) (Nat.le_refl _) (.int .i64 0)).setCell (p := ⟨w.heap.size, 7, none⟩) (Nat.le_refl _) (.int .i64 0)).setCell (p := ⟨w.heap.size, 8, none⟩) (Nat.le_refl _) (.bool false)), by rw [HO.out]; rfl⟩
  · obtain ⟨hll, hrange, hq1, hq2⟩ := rdN_facts s 1 p1 L q hn
    obtain ⟨y0, rfl⟩ := one_of hll
    simp at hl
    subst hl
    clear hll hrange
    obtain ⟨b, o, x0, rfl, hb, HX0, c0⟩ := hr.int (k := 0) (by simp)
    obtain rfl : y0 = x0 := by simpa using HX0.out
    simp only [Nat.add_zero] at c0
    have hfb := hfar _ _ rfl
    have n1 : (b = w.heap.size + 1) = False := by simp; omega
    have n2 : (w.heap.size + 1 = b) = False := by simp; omega
    have n3 : (b = w.heap.size) = False := by simp; omega
    have n4 : (w.heap.size = b) = False := by simp; omega
    have hci := fun W => sIs 22 0 0 ⟨#[]⟩ false 0 y0 0 false (by show 0 ≤ 1048576; omega) W
    rw [show isFB 22 0 0 ⟨#[]⟩ false 0 y0 0 false = okF (⟨22, 0, 0, ⟨#[]⟩, false, 0, y0, 0, false⟩ : Fr) from rfl] at hci
    have k1' : Bk (w2.setCell ⟨(w.heap.size + 1), 6, none⟩ (.int .i64 y0)) (w.heap.size + 1) 40 #[.int .i64 22, .int .i64 0, .int .i64 0, .string ⟨#[]⟩, .bool false, .int .i64 0, .int .i64 y0, .int .i64 0, .bool false] := (k1.set_ 6 (.int .i64 y0))
    have k0' : Bk (w2.setCell ⟨(w.heap.size + 1), 6, none⟩ (.int .i64 y0)) w.heap.size 40 #[.int .i64 0, .int .i64 0, .int .i64 0, .string ⟨#[]⟩, .bool false, .int .i64 0, .int .i64 0, .int .i64 0, .bool false] := (k0.set_other (by omega))
    have hb0' : Below w.heap.size w (w2.setCell ⟨(w.heap.size + 1), 6, none⟩ (.int .i64 y0)) := (hb0.setCell (p := ⟨(w.heap.size + 1), 6, none⟩) (Nat.le_succ _) (.int .i64 y0))
    have HRF := Lib.hid (show rfK s 22 p1 = some ((⟨22, 0, 0, ⟨#[]⟩, false, 0, y0, 0, false⟩ : Fr), q) by simp [rfK, hn])
    clear hn
    go_wp2_with fail
    generalize (w2.setCell ⟨(w.heap.size + 1), 6, none⟩ (.int .i64 y0)) = w3 at k0' k1' hb0' ⊢
    refine (hci _).mono ?_
    rintro e w4 ⟨rfl, hb4⟩
    clear f0 f1 q0 q1 q2 q3 q4 q5 q6 q7 q8 j0 j1 j2 j3 j4 j5 j6 j7 j8 k0 k1 hb0
    replace hb0 := below_next hb0' hb0'.size hb4
    have k0 := k0'.below hb4 k0'.lt
    have k1 := k1'.below hb4 k1'.lt
    obtain ⟨q0, q1, q2, q3, q4, q5, q6, q7, q8⟩ := k0.nine
    obtain ⟨j0, j1, j2, j3, j4, j5, j6, j7, j8⟩ := k1.nine
    have f0 := k0.frozen
    have f1 := k1.frozen
    clear hci k0' k1' hb0' hb4
    cases hok : okF (⟨22, 0, 0, ⟨#[]⟩, false, 0, y0, 0, false⟩ : Fr)
    · have HO := Lib.hid (show (rfK s 22 p1).filter (fun x => okF x.1) = none by rw [HRF.out]; exact filter_no hok)
      go_wp2
      refine bodyPost_ret (results_frame3 rfl _ _ w.heap.size #[.int .i64 0, .int .i64 0, .int .i64 0, .string ⟨#[]⟩, .bool false, .int .i64 0, .int .i64 0, .int .i64 0, .bool false] rfl (((((((((k0.set_ 0 (.int .i64 0)).set_ 1 (.int .i64 0)).set_ 2 (.int .i64 0)).set_ 3 (.string ⟨#[]⟩)).set_ 4 (.bool false)).set_ 5 (.int .i64 0)).set_ 6 (.int .i64 0)).set_ 7 (.int .i64 0)).set_ 8 (.bool false)) rfl) rfl ⟨(((((((((hb0.setCell (p := ⟨w.heap.size, 0, none⟩) (Nat.le_refl _) (.int .i64 0)).setCell (p := ⟨w.heap.size, 1, none⟩) (Nat.le_refl _) (.int .i64 0)).setCell (p := ⟨w.heap.size, 2, none⟩) (Nat.le_refl _) (.int .i64 0)).setCell (p := ⟨w.heap.size, 3, none⟩) (Nat.le_refl _) (.string ⟨#[]⟩)).setCell (p := ⟨w.heap.size, 4, none⟩) (Nat.le_refl _) (.bool false)).setCell (p := ⟨w.heap.size, 5, none⟩) (Nat.le_refl _) (.int .i64 0)).setCell (p := ⟨w.heap.size, 6, none⟩) (Nat.le_refl _) (.int .i64 0)).setCell (p := ⟨w.heap.size, 7, none⟩) (Nat.le_refl _) (.int .i64 0)).setCell (p := ⟨w.heap.size, 8, none⟩) (Nat.le_refl _) (.bool false)), by rw [HO.out]; rfl⟩
    · have HO := Lib.hid (show (rfK s 22 p1).filter (fun x => okF x.1) = some ((⟨22, 0, 0, ⟨#[]⟩, false, 0, y0, 0, false⟩ : Fr), q) by rw [HRF.out]; exact filter_yes hok)
      go_wp2
      refine bodyPost_ret (results_frame3 rfl _ _ w.heap.size #[.int .i64 22, .int .i64 0, .int .i64 0, .string ⟨#[]⟩, .bool false, .int .i64 0, .int .i64 y0, .int .i64 0, .bool false] rfl (((((((((k0.set_ 0 (.int .i64 22)).set_ 1 (.int .i64 0)).set_ 2 (.int .i64 0)).set_ 3 (.string ⟨#[]⟩)).set_ 4 (.bool false)).set_ 5 (.int .i64 0)).set_ 6 (.int .i64 y0)).set_ 7 (.int .i64 0)).set_ 8 (.bool false)) rfl) rfl ⟨(((((((((hb0.setCell (p := ⟨w.heap.size, 0, none⟩) (Nat.le_refl _) (.int .i64 22)).setCell (p := ⟨w.heap.size, 1, none⟩) (Nat.le_refl _) (.int .i64 0)).setCell (p := ⟨w.heap.size, 2, none⟩) (Nat.le_refl _) (.int .i64 0)).setCell (p := ⟨w.heap.size, 3, none⟩) (Nat.le_refl _) (.string ⟨#[]⟩)).setCell (p := ⟨w.heap.size, 4, none⟩) (Nat.le_refl _) (.bool false)).setCell (p := ⟨w.heap.size, 5, none⟩) (Nat.le_refl _) (.int .i64 0)).setCell (p := ⟨w.heap.size, 6, none⟩) (Nat.le_refl _) (.int .i64 y0)).setCell (p := ⟨w.heap.size, 7, none⟩) (Nat.le_refl _) (.int .i64 0)).setCell (p := ⟨w.heap.size, 8, none⟩) (Nat.le_refl _) (.bool false)), by rw [HO.out]; exact ret_tup rfl⟩
set_option maxRecDepth 20000 in
set_option maxHeartbeats 4000000 in
theorem sDF_23 (s : ByteArray) (hs : s.size ≤ 1048576) (p : Nat) (hp : p < s.size) (hk : (s[p]'hp).toNat = 23) (w : World) :
    Calls Try.prog 32 #[.string s, .int .i64 p] w fun e w' => Below w.heap.size w w' ∧ e = .returned (dfVal ((rfK s 23 ((p : Int) + 1)).filter fun x => okF x.1)) := by
  have hk3 : (((s[p]'hp).toNat : Nat) : Int) = 23 := by omega
  have hkw : wrap64 23 = 23 := by unfold wrap64; omega
  clear hk
  have hd3 : decide (s.size ≤ p) = false := by simp; omega
  obtain ⟨p1, hp1⟩ : ∃ p1, p + 1 = p1 := ⟨_, rfl⟩
  have hp2 : (p : Int) + 1 = p1 := by omega
  rw [hp2]
  have k0 : Bk (w.alloc (.cells #[.int .i64 0, .int .i64 0, .int .i64 0, .string ⟨#[]⟩, .bool false, .int .i64 0, .int .i64 0, .int .i64 0, .bool false] 40)) w.heap.size 40 #[.int .i64 0, .int .i64 0, .int .i64 0, .string ⟨#[]⟩, .bool false, .int .i64 0, .int .i64 0, .int .i64 0, .bool false] := heap_alloc_new w _
  have hb0 : Below w.heap.size w (w.alloc (.cells #[.int .i64 0, .int .i64 0, .int .i64 0, .string ⟨#[]⟩, .bool false, .int .i64 0, .int .i64 0, .int .i64 0, .bool false] 40)) := (Below.refl _ _).alloc (Nat.le_refl _) _
  have hs0 : (w.alloc (.cells #[.int .i64 0, .int .i64 0, .int .i64 0, .string ⟨#[]⟩, .bool false, .int .i64 0, .int .i64 0, .int .i64 0, .bool false] 40)).heap.size = w.heap.size + 1 := by simp
  go_enter Try.func32, Try.ntmps32
  go_wp2_with fail
  generalize (w.alloc (.cells #[.int .i64 0, .int .i64 0, .int .i64 0, .string ⟨#[]⟩, .bool false, .int .i64 0, .int .i64 0, .int .i64 0, .bool false] 40)) = w0 at k0 hb0 hs0 ⊢
  have k1 : Bk (w0.alloc (.cells #[.int .i64 22, .int .i64 0, .int .i64 0, .string ⟨#[]⟩, .bool false, .int .i64 0, .int .i64 0, .int .i64 0, .bool true] 40)) (w.heap.size + 1) 40 #[.int .i64 22, .int .i64 0, .int .i64 0, .string ⟨#[]⟩, .bool false, .int .i64 0, .int .i64 0, .int .i64 0, .bool true] := by rw [← hs0]; exact heap_alloc_new w0 _
  replace k0 := k0.below ((Below.refl w0.heap.size w0).alloc (Nat.le_refl _) (.cells #[.int .i64 22, .int .i64 0, .int .i64 0, .string ⟨#[]⟩, .bool false, .int .i64 0, .int .i64 0, .int .i64 0, .bool true] 40)) k0.lt
  replace hb0 := hb0.alloc hb0.size (.cells #[.int .i64 22, .int .i64 0, .int .i64 0, .string ⟨#[]⟩, .bool false, .int .i64 0, .int .i64 0, .int .i64 0, .bool true] 40)
  clear hs0
  generalize (w0.alloc (.cells #[.int .i64 22, .int .i64 0, .int .i64 0, .string ⟨#[]⟩, .bool false, .int .i64 0, .int .i64 0, .int .i64 0, .bool true] 40)) = w1 at k0 k1 hb0 ⊢
  refine (sRead s hs p1 1 (by omega) _).mono ?_
  rintro e w2 ⟨hb1, A, c, n, q, t, L, rfl, hr, hl, hfar, h⟩
  have hk1 := k1.lt
  replace k0 := k0.below hb1 k0.lt
  replace k1 := k1.below hb1 k1.lt
  replace hb0 := below_next hb0 hb0.size hb1
  clear hb1
  obtain ⟨q0, q1, q2, q3, q4, q5, q6, q7, q8⟩ := k0.nine
  obtain ⟨j0, j1, j2, j3, j4, j5, j6, j7, j8⟩ := k1.nine
  have f0 := k0.frozen
  have f1 := k1.frozen
  rcases h with ⟨hn, rfl, rfl⟩ | ⟨hn, rfl⟩
  · have HO := Lib.hid (show (rfK s 23 p1).filter (fun x => okF x.1) = none by simp [rfK, hn])
    simp at hl
    subst hl
    obtain ⟨b, o, x0, rfl, hb, HX0, c0⟩ := hr.int (k := 0) (by simp)
    obtain rfl : x0 = 0 := by simpa using HX0.out.symm
    simp only [Nat.add_zero] at c0
    have hfb := hfar _ _ rfl
    have n1 : (b = w.heap.size + 1) = False := by simp; omega
    have n2 : (w.heap.size + 1 = b) = False := by simp; omega
    have n3 : (b = w.heap.size) = False := by simp; omega
    have n4 : (w.heap.size = b) = False := by simp; omega
    have k0' : Bk (w2.setCell ⟨(w.heap.size + 1), 6, none⟩ (.int .i64 0)) w.heap.size 40 #[.int .i64 0, .int .i64 0, .int .i64 0, .string ⟨#[]⟩, .bool false, .int .i64 0, .int .i64 0, .int .i64 0, .bool false] := (k0.set_other (by omega))
    have hb0' : Below w.heap.size w (w2.setCell ⟨(w.heap.size + 1), 6, none⟩ (.int .i64 0)) := (hb0.setCell (p := ⟨(w.heap.size + 1), 6, none⟩) (Nat.le_succ _) (.int .i64 0))
    go_wp2
    refine bodyPost_ret (results_frame3 rfl _ _ w.heap.size #[.int .i64 0, .int .i64 0, .int .i64 0, .string ⟨#[]⟩, .bool false, .int .i64 0, .int .i64 0, .int .i64 0, .bool false] rfl (((((((((k0'.set_ 0 (.int .i64 0)).set_ 1 (.int .i64 0)).set_ 2 (.int .i64 0)).set_ 3 (.string ⟨#[]⟩)).set_ 4 (.bool false)).set_ 5 (.int .i64 0)).set_ 6 (.int .i64 0)).set_ 7 (.int .i64 0)).set_ 8 (.bool false)) rfl) rfl ⟨(((((((((hb0'.setCell (p := ⟨w.heap.size, 0, none⟩) (Nat.le_refl _) (.int .i64 0)).setCell (p := ⟨w.heap.size, 1, none⟩) (Nat.le_refl _) (.int .i64 0)).setCell (p := ⟨w.heap.size, 2, none⟩) (Nat.le_refl _) (.int .i64 0)).setCell (p := ⟨w.heap.size, 3, none⟩) (Nat.le_refl _) (.string ⟨#[]⟩)).setCell (p := ⟨w.heap.size, 4, none⟩) (Nat.le_refl _) (.bool false)).setCell (p := ⟨w.heap.size, 5, none⟩) (Nat.le_refl _) (.int .i64 0)).setCell (p := ⟨w.heap.size, 6, none⟩) (Nat.le_refl _) (.int .i64 0)).setCell (p := ⟨w.heap.size, 7, none⟩) (Nat.le_refl _) (.int .i64 0)).setCell (p := ⟨w.heap.size, 8, none⟩) (Nat.le_refl _) (.bool false)), by rw [HO.out]; rfl⟩
  · obtain ⟨hll, hrange, hq1, hq2⟩ := rdN_facts s 1 p1 L q hn
    obtain ⟨y0, rfl⟩ := one_of hll
    simp at hl
    subst hl
    clear hll hrange
    obtain ⟨b, o, x0, rfl, hb, HX0, c0⟩ := hr.int (k := 0) (by simp)
    obtain rfl : y0 = x0 := by simpa using HX0.out
    simp only [Nat.add_zero] at c0
    have hfb := hfar _ _ rfl
    have n1 : (b = w.heap.size + 1) = False := by simp; omega
    have n2 : (w.heap.size + 1 = b) = False := by simp; omega
    have n3 : (b = w.heap.size) = False := by simp; omega
    have n4 : (w.heap.size = b) = False := by simp; omega
    have hci := fun W => sIs 22 0 0 ⟨#[]⟩ false 0 y0 0 true (by show 0 ≤ 1048576; omega) W
    rw [show isFB 22 0 0 ⟨#[]⟩ false 0 y0 0 true = okF (⟨22, 0, 0, ⟨#[]⟩, false, 0, y0, 0, true⟩ : Fr) from rfl] at hci
    have k1' : Bk (w2.setCell ⟨(w.heap.size + 1), 6, none⟩ (.int .i64 y0)) (w.heap.size + 1) 40 #[.int .i64 22, .int .i64 0, .int .i64 0, .string ⟨#[]⟩, .bool false, .int .i64 0, .int .i64 y0, .int .i64 0, .bool true] := (k1.set_ 6 (.int .i64 y0))
    have k0' : Bk (w2.setCell ⟨(w.heap.size + 1), 6, none⟩ (.int .i64 y0)) w.heap.size 40 #[.int .i64 0, .int .i64 0, .int .i64 0, .string ⟨#[]⟩, .bool false, .int .i64 0, .int .i64 0, .int .i64 0, .bool false] := (k0.set_other (by omega))
    have hb0' : Below w.heap.size w (w2.setCell ⟨(w.heap.size + 1), 6, none⟩ (.int .i64 y0)) := (hb0.setCell (p := ⟨(w.heap.size + 1), 6, none⟩) (Nat.le_succ _) (.int .i64 y0))
    have HRF := Lib.hid (show rfK s 23 p1 = some ((⟨22, 0, 0, ⟨#[]⟩, false, 0, y0, 0, true⟩ : Fr), q) by simp [rfK, hn])
    clear hn
    go_wp2_with fail
    generalize (w2.setCell ⟨(w.heap.size + 1), 6, none⟩ (.int .i64 y0)) = w3 at k0' k1' hb0' ⊢
    refine (hci _).mono ?_
    rintro e w4 ⟨rfl, hb4⟩
    clear f0 f1 q0 q1 q2 q3 q4 q5 q6 q7 q8 j0 j1 j2 j3 j4 j5 j6 j7 j8 k0 k1 hb0
    replace hb0 := below_next hb0' hb0'.size hb4
    have k0 := k0'.below hb4 k0'.lt
    have k1 := k1'.below hb4 k1'.lt
    obtain ⟨q0, q1, q2, q3, q4, q5, q6, q7, q8⟩ := k0.nine
    obtain ⟨j0, j1, j2, j3, j4, j5, j6, j7, j8⟩ := k1.nine
    have f0 := k0.frozen
    have f1 := k1.frozen
    clear hci k0' k1' hb0' hb4
    cases hok : okF (⟨22, 0, 0, ⟨#[]⟩, false, 0, y0, 0, true⟩ : Fr)
    · have HO := Lib.hid (show (rfK s 23 p1).filter (fun x => okF x.1) = none by rw [HRF.out]; exact filter_no hok)
      go_wp2
      refine bodyPost_ret (results_frame3 rfl _ _ w.heap.size #[.int .i64 0, .int .i64 0, .int .i64 0, .string ⟨#[]⟩, .bool false, .int .i64 0, .int .i64 0, .int .i64 0, .bool false] rfl (((((((((k0.set_ 0 (.int .i64 0)).set_ 1 (.int .i64 0)).set_ 2 (.int .i64 0)).set_ 3 (.string ⟨#[]⟩)).set_ 4 (.bool false)).set_ 5 (.int .i64 0)).set_ 6 (.int .i64 0)).set_ 7 (.int .i64 0)).set_ 8 (.bool false)) rfl) rfl ⟨(((((((((hb0.setCell (p := ⟨w.heap.size, 0, none⟩) (Nat.le_refl _) (.int .i64 0)).setCell (p := ⟨w.heap.size, 1, none⟩) (Nat.le_refl _) (.int .i64 0)).setCell (p := ⟨w.heap.size, 2, none⟩) (Nat.le_refl _) (.int .i64 0)).setCell (p := ⟨w.heap.size, 3, none⟩) (Nat.le_refl _) (.string ⟨#[]⟩)).setCell (p := ⟨w.heap.size, 4, none⟩) (Nat.le_refl _) (.bool false)).setCell (p := ⟨w.heap.size, 5, none⟩) (Nat.le_refl _) (.int .i64 0)).setCell (p := ⟨w.heap.size, 6, none⟩) (Nat.le_refl _) (.int .i64 0)).setCell (p := ⟨w.heap.size, 7, none⟩) (Nat.le_refl _) (.int .i64 0)).setCell (p := ⟨w.heap.size, 8, none⟩) (Nat.le_refl _) (.bool false)), by rw [HO.out]; rfl⟩
    · have HO := Lib.hid (show (rfK s 23 p1).filter (fun x => okF x.1) = some ((⟨22, 0, 0, ⟨#[]⟩, false, 0, y0, 0, true⟩ : Fr), q) by rw [HRF.out]; exact filter_yes hok)
      go_wp2
      refine bodyPost_ret (results_frame3 rfl _ _ w.heap.size #[.int .i64 22, .int .i64 0, .int .i64 0, .string ⟨#[]⟩, .bool false, .int .i64 0, .int .i64 y0, .int .i64 0, .bool true] rfl (((((((((k0.set_ 0 (.int .i64 22)).set_ 1 (.int .i64 0)).set_ 2 (.int .i64 0)).set_ 3 (.string ⟨#[]⟩)).set_ 4 (.bool false)).set_ 5 (.int .i64 0)).set_ 6 (.int .i64 y0)).set_ 7 (.int .i64 0)).set_ 8 (.bool true)) rfl) rfl ⟨(((((((((hb0.setCell (p := ⟨w.heap.size, 0, none⟩) (Nat.le_refl _) (.int .i64 22)).setCell (p := ⟨w.heap.size, 1, none⟩) (Nat.le_refl _) (.int .i64 0)).setCell (p := ⟨w.heap.size, 2, none⟩) (Nat.le_refl _) (.int .i64 0)).setCell (p := ⟨w.heap.size, 3, none⟩) (Nat.le_refl _) (.string ⟨#[]⟩)).setCell (p := ⟨w.heap.size, 4, none⟩) (Nat.le_refl _) (.bool false)).setCell (p := ⟨w.heap.size, 5, none⟩) (Nat.le_refl _) (.int .i64 0)).setCell (p := ⟨w.heap.size, 6, none⟩) (Nat.le_refl _) (.int .i64 y0)).setCell (p := ⟨w.heap.size, 7, none⟩) (Nat.le_refl _) (.int .i64 0)).setCell (p := ⟨w.heap.size, 8, none⟩) (Nat.le_refl _) (.bool true)), by rw [HO.out]; exact ret_tup rfl⟩
end Go.Proofs.Ytadoiehgobcjcaa
