/- spec.l4Stream. No conditions. -/
import Derived.Test.YtadoiehgobcjcaaA7
namespace Go.Proofs.Ytadoiehgobcjcaa
open Go.ChangeShapes Go.WideShapes Go.ChangeAt Go.RowKit Go.Sort QM
set_option linter.unusedVariables false
set_option linter.unusedSimpArgs false
set_option maxHeartbeats 4000000 in
theorem sStr_14 (s : ByteArray) (hs : s.size ≤ 1048576) (p : Int) (hp : 0 ≤ p) (w : World) :
    Calls Try.prog 64 #[.string s, .int .i64 p, .int .i64 14] w fun e w' => Below w.heap.size w w' ∧ e = .returned (dfVal ((stO s false true true p).filter fun x => okF x.1)) := by
  have b1 : bits BinOp.and IntKind.i64 14 1 = 0 := by decide +kernel
  have b2 : bits BinOp.and IntKind.i64 14 2 = 2 := by decide +kernel
  have b4 : bits BinOp.and IntKind.i64 14 4 = 4 := by decide +kernel
  have k0 : Bk (w.alloc (.cells #[.int .i64 0, .int .i64 0, .int .i64 0, .string ⟨#[]⟩, .bool false, .int .i64 0, .int .i64 0, .int .i64 0, .bool false] 40)) w.heap.size 40 #[.int .i64 0, .int .i64 0, .int .i64 0, .string ⟨#[]⟩, .bool false, .int .i64 0, .int .i64 0, .int .i64 0, .bool false] := heap_alloc_new w _
  have hb0 : Below w.heap.size w (w.alloc (.cells #[.int .i64 0, .int .i64 0, .int .i64 0, .string ⟨#[]⟩, .bool false, .int .i64 0, .int .i64 0, .int .i64 0, .bool false] 40)) := (Below.refl _ _).alloc (Nat.le_refl _) _
  have hs0 : (w.alloc (.cells #[.int .i64 0, .int .i64 0, .int .i64 0, .string ⟨#[]⟩, .bool false, .int .i64 0, .int .i64 0, .int .i64 0, .bool false] 40)).heap.size = w.heap.size + 1 := by simp
  go_enter Try.func64, Try.ntmps64
  go_wp2_with fail
  generalize (w.alloc (.cells #[.int .i64 0, .int .i64 0, .int .i64 0, .string ⟨#[]⟩, .bool false, .int .i64 0, .int .i64 0, .int .i64 0, .bool false] 40)) = w0 at k0 hb0 hs0 ⊢
  have k1 : Bk (w0.alloc (.cells #[.int .i64 8, .int .i64 0, .int .i64 0, .string ⟨#[]⟩, .bool false, .int .i64 0, .int .i64 0, .int .i64 0, .bool false] 40)) (w.heap.size + 1) 40 #[.int .i64 8, .int .i64 0, .int .i64 0, .string ⟨#[]⟩, .bool false, .int .i64 0, .int .i64 0, .int .i64 0, .bool false] := by rw [← hs0]; exact heap_alloc_new w0 _
  replace k0 := k0.below ((Below.refl w0.heap.size w0).alloc (Nat.le_refl _) (.cells #[.int .i64 8, .int .i64 0, .int .i64 0, .string ⟨#[]⟩, .bool false, .int .i64 0, .int .i64 0, .int .i64 0, .bool false] 40)) k0.lt
  replace hb0 := hb0.alloc hb0.size (.cells #[.int .i64 8, .int .i64 0, .int .i64 0, .string ⟨#[]⟩, .bool false, .int .i64 0, .int .i64 0, .int .i64 0, .bool false] 40)
  clear hs0
  generalize (w0.alloc (.cells #[.int .i64 8, .int .i64 0, .int .i64 0, .string ⟨#[]⟩, .bool false, .int .i64 0, .int .i64 0, .int .i64 0, .bool false] 40)) = w1 at k0 k1 hb0 ⊢
  refine (sRead s hs p 2 (by omega) _).mono ?_
  rintro e w2 ⟨hb1, A, c, n, q, t, L, rfl, hr, hl, hfar, h⟩
  have hk1 := k1.lt
  replace k0 := k0.below hb1 k0.lt
  replace k1 := k1.below hb1 k1.lt
  replace hb0 := below_next hb0 hb0.size hb1
  clear hb1
  obtain ⟨q0, q1, q2, q3, q4, q5, q6, q7, q8⟩ := k0.nine
  obtain ⟨j0, j1, j2, j3, j4, j5, j6, j7, j8⟩ := k1.nine
  have f0 := k0.frozen
  have f1 := k1.frozen
  rcases h with ⟨hn, rfl, rfl⟩ | ⟨hn, rfl⟩
  · have HO := Lib.hid (show stO s false true true p = none by simp [stO, hn])
    go_wp2
    refine bodyPost_ret (results_frame3 rfl _ _ w.heap.size #[.int .i64 0, .int .i64 0, .int .i64 0, .string ⟨#[]⟩, .bool false, .int .i64 0, .int .i64 0, .int .i64 0, .bool false] rfl ((((((((((k0.set_ 0 (.int .i64 0)).set_ 1 (.int .i64 0)).set_ 2 (.int .i64 0)).set_ 3 (.string ⟨#[]⟩)).set_ 4 (.bool false)).set_ 5 (.int .i64 0)).set_ 6 (.int .i64 0)).set_ 7 (.int .i64 0)).set_ 8 (.bool false))) rfl) rfl ⟨(((((((((hb0.setCell (p := ⟨w.heap.size, 0, none⟩) (Nat.le_refl _) (.int .i64 0)).setCell (p := ⟨w.heap.size, 1, none⟩) (Nat.le_refl _) (.int .i64 0)).setCell (p := ⟨w.heap.size, 2, none⟩) (Nat.le_refl _) (.int .i64 0)).setCell (p := ⟨w.heap.size, 3, none⟩) (Nat.le_refl _) (.string ⟨#[]⟩)).setCell (p := ⟨w.heap.size, 4, none⟩) (Nat.le_refl _) (.bool false)).setCell (p := ⟨w.heap.size, 5, none⟩) (Nat.le_refl _) (.int .i64 0)).setCell (p := ⟨w.heap.size, 6, none⟩) (Nat.le_refl _) (.int .i64 0)).setCell (p := ⟨w.heap.size, 7, none⟩) (Nat.le_refl _) (.int .i64 0)).setCell (p := ⟨w.heap.size, 8, none⟩) (Nat.le_refl _) (.bool false)), by rw [HO.out]; rfl⟩
  · obtain ⟨hll, hrange, hq1, hq2⟩ := rdN_facts s 2 p L q hn
    obtain ⟨q, rfl⟩ := Int.eq_ofNat_of_zero_le (show 0 ≤ q by omega)
    obtain ⟨x, y, rfl⟩ := two_of hll
    simp at hl
    subst hl
    have hq : q ≤ s.size := by omega
    clear hll hrange hq1 hq2
    obtain ⟨b, o, x', rfl, hb, HX, c0⟩ := hr.int (k := 0) (by simp)
    obtain rfl : x = x' := by simpa using HX.out
    obtain ⟨b', o', y', he, hb', HY, c1⟩ := hr.int (k := 1) (by simp)
    obtain rfl : y = y' := by simpa using HY.out
    simp at he
    obtain ⟨rfl, rfl⟩ := he
    simp only [Nat.add_zero] at c0
    have hfb := hfar _ _ rfl
    have n1 : (b = w.heap.size + 1) = False := by simp; omega
    have n2 : (w.heap.size + 1 = b) = False := by simp; omega
    have hwz : IntKind.i64.wrap ((s.size : Int) - q) = (s.size : Int) - q := IntWalk.i64_in _ (by omega)
    rcases dq_two s q with ⟨hd0, hv⟩ | ⟨n, k, hd0, hv, hn4, hk1', hk8, hpk⟩
    · have HO := Lib.hid (show stO s false true true p = none by simp [stO, hn, hd0])
      go_wp2_with (first | (go_at_call 14; refine (sDQ _ _ _ hs).mono ?_; rintro e w' ⟨rfl, rfl⟩; rw [hv]))
      refine bodyPost_ret (results_frame3 rfl _ _ w.heap.size #[.int .i64 0, .int .i64 0, .int .i64 0, .string ⟨#[]⟩, .bool false, .int .i64 0, .int .i64 0, .int .i64 0, .bool false] rfl ((((((((((((k0.set_other (by omega)).set_other (by omega)).set_ 0 (.int .i64 0)).set_ 1 (.int .i64 0)).set_ 2 (.int .i64 0)).set_ 3 (.string ⟨#[]⟩)).set_ 4 (.bool false)).set_ 5 (.int .i64 0)).set_ 6 (.int .i64 0)).set_ 7 (.int .i64 0)).set_ 8 (.bool false))) rfl) rfl ⟨(((((((((((hb0.setCell (p := ⟨(w.heap.size + 1), 1, none⟩) (Nat.le_succ _) (.int .i64 x)).setCell (p := ⟨(w.heap.size + 1), 2, none⟩) (Nat.le_succ _) (.int .i64 y)).setCell (p := ⟨w.heap.size, 0, none⟩) (Nat.le_refl _) (.int .i64 0)).setCell (p := ⟨w.heap.size, 1, none⟩) (Nat.le_refl _) (.int .i64 0)).setCell (p := ⟨w.heap.size, 2, none⟩) (Nat.le_refl _) (.int .i64 0)).setCell (p := ⟨w.heap.size, 3, none⟩) (Nat.le_refl _) (.string ⟨#[]⟩)).setCell (p := ⟨w.heap.size, 4, none⟩) (Nat.le_refl _) (.bool false)).setCell (p := ⟨w.heap.size, 5, none⟩) (Nat.le_refl _) (.int .i64 0)).setCell (p := ⟨w.heap.size, 6, none⟩) (Nat.le_refl _) (.int .i64 0)).setCell (p := ⟨w.heap.size, 7, none⟩) (Nat.le_refl _) (.int .i64 0)).setCell (p := ⟨w.heap.size, 8, none⟩) (Nat.le_refl _) (.bool false)), by rw [HO.out]; rfl⟩
    · obtain ⟨r, hr2⟩ : ∃ r, q + k = r := ⟨_, rfl⟩
      have hr2' : (q : Int) + k = r := by omega
      have hrs : r ≤ s.size := by omega
      rw [hr2'] at hv
      have hwk : IntKind.i64.wrap ((s.size : Int) - r) = (s.size : Int) - r := IntWalk.i64_in _ (by omega)
      by_cases hgt : s.size < r + n
      · have HO := Lib.hid (show stO s false true true p = none by simp [stO, hn, hd0]; omega)
        have hdd : decide ((s.size : Int) - r < (n : Int)) = true := by simp; omega
        go_wp2_with (first | (go_at_call 14; refine (sDQ _ _ _ hs).mono ?_; rintro e w' ⟨rfl, rfl⟩; rw [hv]))
        refine bodyPost_ret (results_frame3 rfl _ _ w.heap.size #[.int .i64 0, .int .i64 0, .int .i64 0, .string ⟨#[]⟩, .bool false, .int .i64 0, .int .i64 0, .int .i64 0, .bool false] rfl ((((((((((((k0.set_other (by omega)).set_other (by omega)).set_ 0 (.int .i64 0)).set_ 1 (.int .i64 0)).set_ 2 (.int .i64 0)).set_ 3 (.string ⟨#[]⟩)).set_ 4 (.bool false)).set_ 5 (.int .i64 0)).set_ 6 (.int .i64 0)).set_ 7 (.int .i64 0)).set_ 8 (.bool false))) rfl) rfl ⟨(((((((((((hb0.setCell (p := ⟨(w.heap.size + 1), 1, none⟩) (Nat.le_succ _) (.int .i64 x)).setCell (p := ⟨(w.heap.size + 1), 2, none⟩) (Nat.le_succ _) (.int .i64 y)).setCell (p := ⟨w.heap.size, 0, none⟩) (Nat.le_refl _) (.int .i64 0)).setCell (p := ⟨w.heap.size, 1, none⟩) (Nat.le_refl _) (.int .i64 0)).setCell (p := ⟨w.heap.size, 2, none⟩) (Nat.le_refl _) (.int .i64 0)).setCell (p := ⟨w.heap.size, 3, none⟩) (Nat.le_refl _) (.string ⟨#[]⟩)).setCell (p := ⟨w.heap.size, 4, none⟩) (Nat.le_refl _) (.bool false)).setCell (p := ⟨w.heap.size, 5, none⟩) (Nat.le_refl _) (.int .i64 0)).setCell (p := ⟨w.heap.size, 6, none⟩) (Nat.le_refl _) (.int .i64 0)).setCell (p := ⟨w.heap.size, 7, none⟩) (Nat.le_refl _) (.int .i64 0)).setCell (p := ⟨w.heap.size, 8, none⟩) (Nat.le_refl _) (.bool false)), by rw [HO.out]; rfl⟩
      · have hdd : decide ((s.size : Int) - r < (n : Int)) = false := by simp; omega
        obtain ⟨z, hz⟩ : ∃ z, r + n = z := ⟨_, rfl⟩
        have hw2 : IntKind.i64.wrap ((r : Int) + n) = (z : Int) := by rw [show (r : Int) + n = z by omega]; exact IntWalk.i64_in _ (by omega)
        have hz2 : (r : Int) + n = z := by omega
        have hrz : r ≤ z := by omega
        have hzs : z ≤ s.size := by omega
        obtain ⟨d, hd⟩ : ∃ d, s.extract r z = d := ⟨_, rfl⟩
        have hds : d.size ≤ 1048576 := by rw [← hd]; exact ext_size _ _ _ hs
        have HO := Lib.hid (show stO s false true true p = some ((⟨8, x, y, d, false, 0, 0, 0, false⟩ : Fr), (z : Int)) by subst hr2 hz; simp [stO, hn, hd0, hd]; omega)
        have hci := fun W => sIs 8 x y d false 0 0 0 false hds W
        rw [show isFB 8 x y d false 0 0 0 false = okF (⟨8, x, y, d, false, 0, 0, 0, false⟩ : Fr) from rfl] at hci
        have k1' : Bk (((w2.setCell ⟨(w.heap.size + 1), 1, none⟩ (.int .i64 x)).setCell ⟨(w.heap.size + 1), 2, none⟩ (.int .i64 y)).setCell ⟨(w.heap.size + 1), 3, none⟩ (.string d)) (w.heap.size + 1) 40 #[.int .i64 8, .int .i64 x, .int .i64 y, .string d, .bool false, .int .i64 0, .int .i64 0, .int .i64 0, .bool false] := (((k1.set_ 1 (.int .i64 x)).set_ 2 (.int .i64 y)).set_ 3 (.string d))
        have k0' : Bk (((w2.setCell ⟨(w.heap.size + 1), 1, none⟩ (.int .i64 x)).setCell ⟨(w.heap.size + 1), 2, none⟩ (.int .i64 y)).setCell ⟨(w.heap.size + 1), 3, none⟩ (.string d)) w.heap.size 40 #[.int .i64 0, .int .i64 0, .int .i64 0, .string ⟨#[]⟩, .bool false, .int .i64 0, .int .i64 0, .int .i64 0, .bool false] := (((k0.set_other (by omega)).set_other (by omega)).set_other (by omega))
        have hb0' : Below w.heap.size w (((w2.setCell ⟨(w.heap.size + 1), 1, none⟩ (.int .i64 x)).setCell ⟨(w.heap.size + 1), 2, none⟩ (.int .i64 y)).setCell ⟨(w.heap.size + 1), 3, none⟩ (.string d)) := (((hb0.setCell (p := ⟨(w.heap.size + 1), 1, none⟩) (Nat.le_succ _) (.int .i64 x)).setCell (p := ⟨(w.heap.size + 1), 2, none⟩) (Nat.le_succ _) (.int .i64 y)).setCell (p := ⟨(w.heap.size + 1), 3, none⟩) (Nat.le_succ _) (.string d))
        clear hr2' hgt hpk
        go_wp2_with (first | (go_at_call 14; refine (sDQ _ _ _ hs).mono ?_; rintro e w' ⟨rfl, rfl⟩; rw [hv]))
        generalize (((w2.setCell ⟨(w.heap.size + 1), 1, none⟩ (.int .i64 x)).setCell ⟨(w.heap.size + 1), 2, none⟩ (.int .i64 y)).setCell ⟨(w.heap.size + 1), 3, none⟩ (.string d)) = w3 at k0' k1' hb0' ⊢
        refine (hci _).mono ?_
        rintro e w4 ⟨rfl, hb4⟩
        clear f0 f1 q0 q1 q2 q3 q4 q5 q6 q7 q8 j0 j1 j2 j3 j4 j5 j6 j7 j8 k0 k1 hb0
        replace hb0 := below_next hb0' hb0'.size hb4
        have k0 := k0'.below hb4 k0'.lt
        have k1 := k1'.below hb4 k1'.lt
        obtain ⟨q0, q1, q2, q3, q4, q5, q6, q7, q8⟩ := k0.nine
        obtain ⟨j0, j1, j2, j3, j4, j5, j6, j7, j8⟩ := k1.nine
        have f0 := k0.frozen
        have f1 := k1.frozen
        clear hci k0' k1' hb0' hb4
        cases hok : okF (⟨8, x, y, d, false, 0, 0, 0, false⟩ : Fr)
        · go_wp2
          refine bodyPost_ret (results_frame3 rfl _ _ w.heap.size #[.int .i64 0, .int .i64 0, .int .i64 0, .string ⟨#[]⟩, .bool false, .int .i64 0, .int .i64 0, .int .i64 0, .bool false] rfl ((((((((((k0.set_ 0 (.int .i64 0)).set_ 1 (.int .i64 0)).set_ 2 (.int .i64 0)).set_ 3 (.string ⟨#[]⟩)).set_ 4 (.bool false)).set_ 5 (.int .i64 0)).set_ 6 (.int .i64 0)).set_ 7 (.int .i64 0)).set_ 8 (.bool false))) rfl) rfl ⟨(((((((((hb0.setCell (p := ⟨w.heap.size, 0, none⟩) (Nat.le_refl _) (.int .i64 0)).setCell (p := ⟨w.heap.size, 1, none⟩) (Nat.le_refl _) (.int .i64 0)).setCell (p := ⟨w.heap.size, 2, none⟩) (Nat.le_refl _) (.int .i64 0)).setCell (p := ⟨w.heap.size, 3, none⟩) (Nat.le_refl _) (.string ⟨#[]⟩)).setCell (p := ⟨w.heap.size, 4, none⟩) (Nat.le_refl _) (.bool false)).setCell (p := ⟨w.heap.size, 5, none⟩) (Nat.le_refl _) (.int .i64 0)).setCell (p := ⟨w.heap.size, 6, none⟩) (Nat.le_refl _) (.int .i64 0)).setCell (p := ⟨w.heap.size, 7, none⟩) (Nat.le_refl _) (.int .i64 0)).setCell (p := ⟨w.heap.size, 8, none⟩) (Nat.le_refl _) (.bool false)), by rw [HO.out, filter_no hok]; rfl⟩
        · go_wp2
          refine bodyPost_ret (results_frame3 rfl _ _ w.heap.size #[.int .i64 8, .int .i64 x, .int .i64 y, .string d, .bool false, .int .i64 0, .int .i64 0, .int .i64 0, .bool false] rfl ((((((((((k0.set_ 0 (.int .i64 8)).set_ 1 (.int .i64 x)).set_ 2 (.int .i64 y)).set_ 3 (.string d)).set_ 4 (.bool false)).set_ 5 (.int .i64 0)).set_ 6 (.int .i64 0)).set_ 7 (.int .i64 0)).set_ 8 (.bool false))) rfl) rfl ⟨(((((((((hb0.setCell (p := ⟨w.heap.size, 0, none⟩) (Nat.le_refl _) (.int .i64 8)).setCell (p := ⟨w.heap.size, 1, none⟩) (Nat.le_refl _) (.int .i64 x)).setCell (p := ⟨w.heap.size, 2, none⟩) (Nat.le_refl _) (.int .i64 y)).setCell (p := ⟨w.heap.size, 3, none⟩) (Nat.le_refl _) (.string d)).setCell (p := ⟨w.heap.size, 4, none⟩) (Nat.le_refl _) (.bool false)).setCell (p := ⟨w.heap.size, 5, none⟩) (Nat.le_refl _) (.int .i64 0)).setCell (p := ⟨w.heap.size, 6, none⟩) (Nat.le_refl _) (.int .i64 0)).setCell (p := ⟨w.heap.size, 7, none⟩) (Nat.le_refl _) (.int .i64 0)).setCell (p := ⟨w.heap.size, 8, none⟩) (Nat.le_refl _) (.bool false)), by rw [HO.out, filter_yes hok]; exact ret_tup rfl⟩
set_option maxHeartbeats 4000000 in
theorem sStr_15 (s : ByteArray) (hs : s.size ≤ 1048576) (p : Int) (hp : 0 ≤ p) (w : World) :
    Calls Try.prog 64 #[.string s, .int .i64 p, .int .i64 15] w fun e w' => Below w.heap.size w w' ∧ e = .returned (dfVal ((stO s true true true p).filter fun x => okF x.1)) := by
  have b1 : bits BinOp.and IntKind.i64 15 1 = 1 := by decide +kernel
  have b2 : bits BinOp.and IntKind.i64 15 2 = 2 := by decide +kernel
  have b4 : bits BinOp.and IntKind.i64 15 4 = 4 := by decide +kernel
  have k0 : Bk (w.alloc (.cells #[.int .i64 0, .int .i64 0, .int .i64 0, .string ⟨#[]⟩, .bool false, .int .i64 0, .int .i64 0, .int .i64 0, .bool false] 40)) w.heap.size 40 #[.int .i64 0, .int .i64 0, .int .i64 0, .string ⟨#[]⟩, .bool false, .int .i64 0, .int .i64 0, .int .i64 0, .bool false] := heap_alloc_new w _
  have hb0 : Below w.heap.size w (w.alloc (.cells #[.int .i64 0, .int .i64 0, .int .i64 0, .string ⟨#[]⟩, .bool false, .int .i64 0, .int .i64 0, .int .i64 0, .bool false] 40)) := (Below.refl _ _).alloc (Nat.le_refl _) _
  have hs0 : (w.alloc (.cells #[.int .i64 0, .int .i64 0, .int .i64 0, .string ⟨#[]⟩, .bool false, .int .i64 0, .int .i64 0, .int .i64 0, .bool false] 40)).heap.size = w.heap.size + 1 := by simp
  go_enter Try.func64, Try.ntmps64
  go_wp2_with fail
  generalize (w.alloc (.cells #[.int .i64 0, .int .i64 0, .int .i64 0, .string ⟨#[]⟩, .bool false, .int .i64 0, .int .i64 0, .int .i64 0, .bool false] 40)) = w0 at k0 hb0 hs0 ⊢
  have k1 : Bk (w0.alloc (.cells #[.int .i64 8, .int .i64 0, .int .i64 0, .string ⟨#[]⟩, .bool true, .int .i64 0, .int .i64 0, .int .i64 0, .bool false] 40)) (w.heap.size + 1) 40 #[.int .i64 8, .int .i64 0, .int .i64 0, .string ⟨#[]⟩, .bool true, .int .i64 0, .int .i64 0, .int .i64 0, .bool false] := by rw [← hs0]; exact heap_alloc_new w0 _
  replace k0 := k0.below ((Below.refl w0.heap.size w0).alloc (Nat.le_refl _) (.cells #[.int .i64 8, .int .i64 0, .int .i64 0, .string ⟨#[]⟩, .bool true, .int .i64 0, .int .i64 0, .int .i64 0, .bool false] 40)) k0.lt
  replace hb0 := hb0.alloc hb0.size (.cells #[.int .i64 8, .int .i64 0, .int .i64 0, .string ⟨#[]⟩, .bool true, .int .i64 0, .int .i64 0, .int .i64 0, .bool false] 40)
  clear hs0
  generalize (w0.alloc (.cells #[.int .i64 8, .int .i64 0, .int .i64 0, .string ⟨#[]⟩, .bool true, .int .i64 0, .int .i64 0, .int .i64 0, .bool false] 40)) = w1 at k0 k1 hb0 ⊢
  refine (sRead s hs p 2 (by omega) _).mono ?_
  rintro e w2 ⟨hb1, A, c, n, q, t, L, rfl, hr, hl, hfar, h⟩
  have hk1 := k1.lt
  replace k0 := k0.below hb1 k0.lt
  replace k1 := k1.below hb1 k1.lt
  replace hb0 := below_next hb0 hb0.size hb1
  clear hb1
  obtain ⟨q0, q1, q2, q3, q4, q5, q6, q7, q8⟩ := k0.nine
  obtain ⟨j0, j1, j2, j3, j4, j5, j6, j7, j8⟩ := k1.nine
  have f0 := k0.frozen
  have f1 := k1.frozen
  rcases h with ⟨hn, rfl, rfl⟩ | ⟨hn, rfl⟩
  · have HO := Lib.hid (show stO s true true true p = none by simp [stO, hn])
    go_wp2
    refine bodyPost_ret (results_frame3 rfl _ _ w.heap.size #[.int .i64 0, .int .i64 0, .int .i64 0, .string ⟨#[]⟩, .bool false, .int .i64 0, .int .i64 0, .int .i64 0, .bool false] rfl ((((((((((k0.set_ 0 (.int .i64 0)).set_ 1 (.int .i64 0)).set_ 2 (.int .i64 0)).set_ 3 (.string ⟨#[]⟩)).set_ 4 (.bool false)).set_ 5 (.int .i64 0)).set_ 6 (.int .i64 0)).set_ 7 (.int .i64 0)).set_ 8 (.bool false))) rfl) rfl ⟨(((((((((hb0.setCell (p := ⟨w.heap.size, 0, none⟩) (Nat.le_refl _) (.int .i64 0)).setCell (p := ⟨w.heap.size, 1, none⟩) (Nat.le_refl _) (.int .i64 0)).setCell (p := ⟨w.heap.size, 2, none⟩) (Nat.le_refl _) (.int .i64 0)).setCell (p := ⟨w.heap.size, 3, none⟩) (Nat.le_refl _) (.string ⟨#[]⟩)).setCell (p := ⟨w.heap.size, 4, none⟩) (Nat.le_refl _) (.bool false)).setCell (p := ⟨w.heap.size, 5, none⟩) (Nat.le_refl _) (.int .i64 0)).setCell (p := ⟨w.heap.size, 6, none⟩) (Nat.le_refl _) (.int .i64 0)).setCell (p := ⟨w.heap.size, 7, none⟩) (Nat.le_refl _) (.int .i64 0)).setCell (p := ⟨w.heap.size, 8, none⟩) (Nat.le_refl _) (.bool false)), by rw [HO.out]; rfl⟩
  · obtain ⟨hll, hrange, hq1, hq2⟩ := rdN_facts s 2 p L q hn
    obtain ⟨q, rfl⟩ := Int.eq_ofNat_of_zero_le (show 0 ≤ q by omega)
    obtain ⟨x, y, rfl⟩ := two_of hll
    simp at hl
    subst hl
    have hq : q ≤ s.size := by omega
    clear hll hrange hq1 hq2
    obtain ⟨b, o, x', rfl, hb, HX, c0⟩ := hr.int (k := 0) (by simp)
    obtain rfl : x = x' := by simpa using HX.out
    obtain ⟨b', o', y', he, hb', HY, c1⟩ := hr.int (k := 1) (by simp)
    obtain rfl : y = y' := by simpa using HY.out
    simp at he
    obtain ⟨rfl, rfl⟩ := he
    simp only [Nat.add_zero] at c0
    have hfb := hfar _ _ rfl
    have n1 : (b = w.heap.size + 1) = False := by simp; omega
    have n2 : (w.heap.size + 1 = b) = False := by simp; omega
    have hwz : IntKind.i64.wrap ((s.size : Int) - q) = (s.size : Int) - q := IntWalk.i64_in _ (by omega)
    rcases dq_two s q with ⟨hd0, hv⟩ | ⟨n, k, hd0, hv, hn4, hk1', hk8, hpk⟩
    · have HO := Lib.hid (show stO s true true true p = none by simp [stO, hn, hd0])
      go_wp2_with (first | (go_at_call 14; refine (sDQ _ _ _ hs).mono ?_; rintro e w' ⟨rfl, rfl⟩; rw [hv]))
      refine bodyPost_ret (results_frame3 rfl _ _ w.heap.size #[.int .i64 0, .int .i64 0, .int .i64 0, .string ⟨#[]⟩, .bool false, .int .i64 0, .int .i64 0, .int .i64 0, .bool false] rfl ((((((((((((k0.set_other (by omega)).set_other (by omega)).set_ 0 (.int .i64 0)).set_ 1 (.int .i64 0)).set_ 2 (.int .i64 0)).set_ 3 (.string ⟨#[]⟩)).set_ 4 (.bool false)).set_ 5 (.int .i64 0)).set_ 6 (.int .i64 0)).set_ 7 (.int .i64 0)).set_ 8 (.bool false))) rfl) rfl ⟨(((((((((((hb0.setCell (p := ⟨(w.heap.size + 1), 1, none⟩) (Nat.le_succ _) (.int .i64 x)).setCell (p := ⟨(w.heap.size + 1), 2, none⟩) (Nat.le_succ _) (.int .i64 y)).setCell (p := ⟨w.heap.size, 0, none⟩) (Nat.le_refl _) (.int .i64 0)).setCell (p := ⟨w.heap.size, 1, none⟩) (Nat.le_refl _) (.int .i64 0)).setCell (p := ⟨w.heap.size, 2, none⟩) (Nat.le_refl _) (.int .i64 0)).setCell (p := ⟨w.heap.size, 3, none⟩) (Nat.le_refl _) (.string ⟨#[]⟩)).setCell (p := ⟨w.heap.size, 4, none⟩) (Nat.le_refl _) (.bool false)).setCell (p := ⟨w.heap.size, 5, none⟩) (Nat.le_refl _) (.int .i64 0)).setCell (p := ⟨w.heap.size, 6, none⟩) (Nat.le_refl _) (.int .i64 0)).setCell (p := ⟨w.heap.size, 7, none⟩) (Nat.le_refl _) (.int .i64 0)).setCell (p := ⟨w.heap.size, 8, none⟩) (Nat.le_refl _) (.bool false)), by rw [HO.out]; rfl⟩
    · obtain ⟨r, hr2⟩ : ∃ r, q + k = r := ⟨_, rfl⟩
      have hr2' : (q : Int) + k = r := by omega
      have hrs : r ≤ s.size := by omega
      rw [hr2'] at hv
      have hwk : IntKind.i64.wrap ((s.size : Int) - r) = (s.size : Int) - r := IntWalk.i64_in _ (by omega)
      by_cases hgt : s.size < r + n
      · have HO := Lib.hid (show stO s true true true p = none by simp [stO, hn, hd0]; omega)
        have hdd : decide ((s.size : Int) - r < (n : Int)) = true := by simp; omega
        go_wp2_with (first | (go_at_call 14; refine (sDQ _ _ _ hs).mono ?_; rintro e w' ⟨rfl, rfl⟩; rw [hv]))
        refine bodyPost_ret (results_frame3 rfl _ _ w.heap.size #[.int .i64 0, .int .i64 0, .int .i64 0, .string ⟨#[]⟩, .bool false, .int .i64 0, .int .i64 0, .int .i64 0, .bool false] rfl ((((((((((((k0.set_other (by omega)).set_other (by omega)).set_ 0 (.int .i64 0)).set_ 1 (.int .i64 0)).set_ 2 (.int .i64 0)).set_ 3 (.string ⟨#[]⟩)).set_ 4 (.bool false)).set_ 5 (.int .i64 0)).set_ 6 (.int .i64 0)).set_ 7 (.int .i64 0)).set_ 8 (.bool false))) rfl) rfl ⟨(((((((((((hb0.setCell (p := ⟨(w.heap.size + 1), 1, none⟩) (Nat.le_succ _) (.int .i64 x)).setCell (p := ⟨(w.heap.size + 1), 2, none⟩) (Nat.le_succ _) (.int .i64 y)).setCell (p := ⟨w.heap.size, 0, none⟩) (Nat.le_refl _) (.int .i64 0)).setCell (p := ⟨w.heap.size, 1, none⟩) (Nat.le_refl _) (.int .i64 0)).setCell (p := ⟨w.heap.size, 2, none⟩) (Nat.le_refl _) (.int .i64 0)).setCell (p := ⟨w.heap.size, 3, none⟩) (Nat.le_refl _) (.string ⟨#[]⟩)).setCell (p := ⟨w.heap.size, 4, none⟩) (Nat.le_refl _) (.bool false)).setCell (p := ⟨w.heap.size, 5, none⟩) (Nat.le_refl _) (.int .i64 0)).setCell (p := ⟨w.heap.size, 6, none⟩) (Nat.le_refl _) (.int .i64 0)).setCell (p := ⟨w.heap.size, 7, none⟩) (Nat.le_refl _) (.int .i64 0)).setCell (p := ⟨w.heap.size, 8, none⟩) (Nat.le_refl _) (.bool false)), by rw [HO.out]; rfl⟩
      · have hdd : decide ((s.size : Int) - r < (n : Int)) = false := by simp; omega
        obtain ⟨z, hz⟩ : ∃ z, r + n = z := ⟨_, rfl⟩
        have hw2 : IntKind.i64.wrap ((r : Int) + n) = (z : Int) := by rw [show (r : Int) + n = z by omega]; exact IntWalk.i64_in _ (by omega)
        have hz2 : (r : Int) + n = z := by omega
        have hrz : r ≤ z := by omega
        have hzs : z ≤ s.size := by omega
        obtain ⟨d, hd⟩ : ∃ d, s.extract r z = d := ⟨_, rfl⟩
        have hds : d.size ≤ 1048576 := by rw [← hd]; exact ext_size _ _ _ hs
        have HO := Lib.hid (show stO s true true true p = some ((⟨8, x, y, d, true, 0, 0, 0, false⟩ : Fr), (z : Int)) by subst hr2 hz; simp [stO, hn, hd0, hd]; omega)
        have hci := fun W => sIs 8 x y d true 0 0 0 false hds W
        rw [show isFB 8 x y d true 0 0 0 false = okF (⟨8, x, y, d, true, 0, 0, 0, false⟩ : Fr) from rfl] at hci
        have k1' : Bk (((w2.setCell ⟨(w.heap.size + 1), 1, none⟩ (.int .i64 x)).setCell ⟨(w.heap.size + 1), 2, none⟩ (.int .i64 y)).setCell ⟨(w.heap.size + 1), 3, none⟩ (.string d)) (w.heap.size + 1) 40 #[.int .i64 8, .int .i64 x, .int .i64 y, .string d, .bool true, .int .i64 0, .int .i64 0, .int .i64 0, .bool false] := (((k1.set_ 1 (.int .i64 x)).set_ 2 (.int .i64 y)).set_ 3 (.string d))
        have k0' : Bk (((w2.setCell ⟨(w.heap.size + 1), 1, none⟩ (.int .i64 x)).setCell ⟨(w.heap.size + 1), 2, none⟩ (.int .i64 y)).setCell ⟨(w.heap.size + 1), 3, none⟩ (.string d)) w.heap.size 40 #[.int .i64 0, .int .i64 0, .int .i64 0, .string ⟨#[]⟩, .bool false, .int .i64 0, .int .i64 0, .int .i64 0, .bool false] := (((k0.set_other (by omega)).set_other (by omega)).set_other (by omega))
        have hb0' : Below w.heap.size w (((w2.setCell ⟨(w.heap.size + 1), 1, none⟩ (.int .i64 x)).setCell ⟨(w.heap.size + 1), 2, none⟩ (.int .i64 y)).setCell ⟨(w.heap.size + 1), 3, none⟩ (.string d)) := (((hb0.setCell (p := ⟨(w.heap.size + 1), 1, none⟩) (Nat.le_succ _) (.int .i64 x)).setCell (p := ⟨(w.heap.size + 1), 2, none⟩) (Nat.le_succ _) (.int .i64 y)).setCell (p := ⟨(w.heap.size + 1), 3, none⟩) (Nat.le_succ _) (.string d))
        clear hr2' hgt hpk
        go_wp2_with (first | (go_at_call 14; refine (sDQ _ _ _ hs).mono ?_; rintro e w' ⟨rfl, rfl⟩; rw [hv]))
        generalize (((w2.setCell ⟨(w.heap.size + 1), 1, none⟩ (.int .i64 x)).setCell ⟨(w.heap.size + 1), 2, none⟩ (.int .i64 y)).setCell ⟨(w.heap.size + 1), 3, none⟩ (.string d)) = w3 at k0' k1' hb0' ⊢
        refine (hci _).mono ?_
        rintro e w4 ⟨rfl, hb4⟩
        clear f0 f1 q0 q1 q2 q3 q4 q5 q6 q7 q8 j0 j1 j2 j3 j4 j5 j6 j7 j8 k0 k1 hb0
        replace hb0 := below_next hb0' hb0'.size hb4
        have k0 := k0'.below hb4 k0'.lt
        have k1 := k1'.below hb4 k1'.lt
        obtain ⟨q0, q1, q2, q3, q4, q5, q6, q7, q8⟩ := k0.nine
        obtain ⟨j0, j1, j2, j3, j4, j5, j6, j7, j8⟩ := k1.nine
        have f0 := k0.frozen
        have f1 := k1.frozen
        clear hci k0' k1' hb0' hb4
        cases hok : okF (⟨8, x, y, d, true, 0, 0, 0, false⟩ : Fr)
        · go_wp2
          refine bodyPost_ret (results_frame3 rfl _ _ w.heap.size #[.int .i64 0, .int .i64 0, .int .i64 0, .string ⟨#[]⟩, .bool false, .int .i64 0, .int .i64 0, .int .i64 0, .bool false] rfl ((((((((((k0.set_ 0 (.int .i64 0)).set_ 1 (.int .i64 0)).set_ 2 (.int .i64 0)).set_ 3 (.string ⟨#[]⟩)).set_ 4 (.bool false)).set_ 5 (.int .i64 0)).set_ 6 (.int .i64 0)).set_ 7 (.int .i64 0)).set_ 8 (.bool false))) rfl) rfl ⟨(((((((((hb0.setCell (p := ⟨w.heap.size, 0, none⟩) (Nat.le_refl _) (.int .i64 0)).setCell (p := ⟨w.heap.size, 1, none⟩) (Nat.le_refl _) (.int .i64 0)).setCell (p := ⟨w.heap.size, 2, none⟩) (Nat.le_refl _) (.int .i64 0)).setCell (p := ⟨w.heap.size, 3, none⟩) (Nat.le_refl _) (.string ⟨#[]⟩)).setCell (p := ⟨w.heap.size, 4, none⟩) (Nat.le_refl _) (.bool false)).setCell (p := ⟨w.heap.size, 5, none⟩) (Nat.le_refl _) (.int .i64 0)).setCell (p := ⟨w.heap.size, 6, none⟩) (Nat.le_refl _) (.int .i64 0)).setCell (p := ⟨w.heap.size, 7, none⟩) (Nat.le_refl _) (.int .i64 0)).setCell (p := ⟨w.heap.size, 8, none⟩) (Nat.le_refl _) (.bool false)), by rw [HO.out, filter_no hok]; rfl⟩
        · go_wp2
          refine bodyPost_ret (results_frame3 rfl _ _ w.heap.size #[.int .i64 8, .int .i64 x, .int .i64 y, .string d, .bool true, .int .i64 0, .int .i64 0, .int .i64 0, .bool false] rfl ((((((((((k0.set_ 0 (.int .i64 8)).set_ 1 (.int .i64 x)).set_ 2 (.int .i64 y)).set_ 3 (.string d)).set_ 4 (.bool true)).set_ 5 (.int .i64 0)).set_ 6 (.int .i64 0)).set_ 7 (.int .i64 0)).set_ 8 (.bool false))) rfl) rfl ⟨(((((((((hb0.setCell (p := ⟨w.heap.size, 0, none⟩) (Nat.le_refl _) (.int .i64 8)).setCell (p := ⟨w.heap.size, 1, none⟩) (Nat.le_refl _) (.int .i64 x)).setCell (p := ⟨w.heap.size, 2, none⟩) (Nat.le_refl _) (.int .i64 y)).setCell (p := ⟨w.heap.size, 3, none⟩) (Nat.le_refl _) (.string d)).setCell (p := ⟨w.heap.size, 4, none⟩) (Nat.le_refl _) (.bool true)).setCell (p := ⟨w.heap.size, 5, none⟩) (Nat.le_refl _) (.int .i64 0)).setCell (p := ⟨w.heap.size, 6, none⟩) (Nat.le_refl _) (.int .i64 0)).setCell (p := ⟨w.heap.size, 7, none⟩) (Nat.le_refl _) (.int .i64 0)).setCell (p := ⟨w.heap.size, 8, none⟩) (Nat.le_refl _) (.bool false)), by rw [HO.out, filter_yes hok]; exact ret_tup rfl⟩
end Go.Proofs.Ytadoiehgobcjcaa
