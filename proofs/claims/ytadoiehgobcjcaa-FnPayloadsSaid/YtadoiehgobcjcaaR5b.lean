/- impl.readStream. No conditions. -/
import Derived.Test.YtadoiehgobcjcaaA7
namespace Go.Proofs.Ytadoiehgobcjcaa
open Go.ChangeShapes Go.WideShapes Go.ChangeAt Go.RowKit Go.Sort QM
set_option linter.unusedVariables false
set_option linter.unusedSimpArgs false
set_option maxHeartbeats 4000000 in
theorem iStr_10 (s : ByteArray) (hs : s.size ≤ 1048576) (p : Nat) (w : World) :
    Calls Try.prog 73 #[.string s, .int .i64 p, .int .i64 10] w fun e w' => Below w.heap.size w w' ∧ e = .returned (dfVal (stO s false false true p)) := by
  have b1 : bits BinOp.and IntKind.i64 10 1 = 0 := by decide +kernel
  have b2 : bits BinOp.and IntKind.i64 10 2 = 2 := by decide +kernel
  have b4 : bits BinOp.and IntKind.i64 10 4 = 0 := by decide +kernel
  have k0 : Bk (w.alloc (.cells #[.int .i64 0, .int .i64 0, .int .i64 0, .string ⟨#[]⟩, .bool false, .int .i64 0, .int .i64 0, .int .i64 0, .bool false] 40)) w.heap.size 40 #[.int .i64 0, .int .i64 0, .int .i64 0, .string ⟨#[]⟩, .bool false, .int .i64 0, .int .i64 0, .int .i64 0, .bool false] := heap_alloc_new w _
  have hb0 : Below w.heap.size w (w.alloc (.cells #[.int .i64 0, .int .i64 0, .int .i64 0, .string ⟨#[]⟩, .bool false, .int .i64 0, .int .i64 0, .int .i64 0, .bool false] 40)) := (Below.refl _ _).alloc (Nat.le_refl _) _
  have hs0 : (w.alloc (.cells #[.int .i64 0, .int .i64 0, .int .i64 0, .string ⟨#[]⟩, .bool false, .int .i64 0, .int .i64 0, .int .i64 0, .bool false] 40)).heap.size = w.heap.size + 1 := by simp
  go_enter Try.func73, Try.ntmps73
  go_wp2_with fail
  generalize (w.alloc (.cells #[.int .i64 0, .int .i64 0, .int .i64 0, .string ⟨#[]⟩, .bool false, .int .i64 0, .int .i64 0, .int .i64 0, .bool false] 40)) = w0 at k0 hb0 hs0 ⊢
  have k1 : Bk (w0.alloc (.cells #[.int .i64 8, .int .i64 0, .int .i64 0, .string ⟨#[]⟩, .bool false, .int .i64 0, .int .i64 0, .int .i64 0, .bool false] 40)) (w.heap.size + 1) 40 #[.int .i64 8, .int .i64 0, .int .i64 0, .string ⟨#[]⟩, .bool false, .int .i64 0, .int .i64 0, .int .i64 0, .bool false] := by rw [← hs0]; exact heap_alloc_new w0 _
  replace k0 := k0.below ((Below.refl w0.heap.size w0).alloc (Nat.le_refl _) (.cells #[.int .i64 8, .int .i64 0, .int .i64 0, .string ⟨#[]⟩, .bool false, .int .i64 0, .int .i64 0, .int .i64 0, .bool false] 40)) k0.lt
  replace hb0 := hb0.alloc hb0.size (.cells #[.int .i64 8, .int .i64 0, .int .i64 0, .string ⟨#[]⟩, .bool false, .int .i64 0, .int .i64 0, .int .i64 0, .bool false] 40)
  replace hs0 : (w0.alloc (.cells #[.int .i64 8, .int .i64 0, .int .i64 0, .string ⟨#[]⟩, .bool false, .int .i64 0, .int .i64 0, .int .i64 0, .bool false] 40)).heap.size = (w.heap.size + 1) + 1 := by rw [← hs0]; simp
  generalize (w0.alloc (.cells #[.int .i64 8, .int .i64 0, .int .i64 0, .string ⟨#[]⟩, .bool false, .int .i64 0, .int .i64 0, .int .i64 0, .bool false] 40)) = w1 at k0 k1 hb0 hs0 ⊢
  have k2 : Bk (w1.alloc (.cells #[.int .i64 0] 3)) (w.heap.size + 1 + 1) 3 #[.int .i64 0] := by rw [← hs0]; exact heap_alloc_new w1 _
  replace k0 := k0.below ((Below.refl w1.heap.size w1).alloc (Nat.le_refl _) (.cells #[.int .i64 0] 3)) k0.lt
  replace k1 := k1.below ((Below.refl w1.heap.size w1).alloc (Nat.le_refl _) (.cells #[.int .i64 0] 3)) k1.lt
  replace hb0 := hb0.alloc hb0.size (.cells #[.int .i64 0] 3)
  replace hs0 : (w1.alloc (.cells #[.int .i64 0] 3)).heap.size = (w.heap.size + 1 + 1) + 1 := by rw [← hs0]; simp
  generalize (w1.alloc (.cells #[.int .i64 0] 3)) = w2 at k0 k1 k2 hb0 hs0 ⊢
  have kp : Bk (w2.alloc (.cells #[.pointer (some ⟨w.heap.size + 1, 1, none⟩)] 78)) (w.heap.size + 1 + 1 + 1) 78 #[.pointer (some ⟨w.heap.size + 1, 1, none⟩)] := by rw [← hs0]; exact heap_alloc_new w2 _
  replace k0 := k0.below ((Below.refl w2.heap.size w2).alloc (Nat.le_refl _) (.cells #[.pointer (some ⟨w.heap.size + 1, 1, none⟩)] 78)) k0.lt
  replace k1 := k1.below ((Below.refl w2.heap.size w2).alloc (Nat.le_refl _) (.cells #[.pointer (some ⟨w.heap.size + 1, 1, none⟩)] 78)) k1.lt
  replace k2 := k2.below ((Below.refl w2.heap.size w2).alloc (Nat.le_refl _) (.cells #[.pointer (some ⟨w.heap.size + 1, 1, none⟩)] 78)) k2.lt
  replace hb0 := hb0.alloc hb0.size (.cells #[.pointer (some ⟨w.heap.size + 1, 1, none⟩)] 78)
  replace hs0 : (w2.alloc (.cells #[.pointer (some ⟨w.heap.size + 1, 1, none⟩)] 78)).heap.size = (w.heap.size + 1 + 1 + 1) + 1 := by rw [← hs0]; simp
  generalize (w2.alloc (.cells #[.pointer (some ⟨w.heap.size + 1, 1, none⟩)] 78)) = w3 at k0 k1 k2 kp hb0 hs0 ⊢
  clear hs0
  rcases dq_two s p with ⟨hd1, _⟩ | ⟨n1, m1, hd1, _, hn1, hm1, hm1', hp1⟩
  · have HO := Lib.hid (show stO s false false true p = none by simp [stO, rdN, hd1])
    refine (iRd1_none s hs p (w.heap.size + 1 + 1 + 1) 1 (w.heap.size + 1) 1 40 78 #[.int .i64 8, .int .i64 0, .int .i64 0, .string ⟨#[]⟩, .bool false, .int .i64 0, .int .i64 0, .int .i64 0, .bool false] _ (by omega) kp k1 (by simp) hd1).mono ?_
    rintro e w4 ⟨hk, rfl⟩
    have k0 := hk.2 _ _ _ (by omega) k0
    replace hb0 := hb0.trans (hk.1.mono (by omega))
    obtain ⟨q0, q1, q2, q3, q4, q5, q6, q7, q8⟩ := k0.nine
    have f0 := k0.frozen
    clear k1 k2
    go_wp2
    refine bodyPost_ret (results_frame3 rfl _ _ w.heap.size #[.int .i64 0, .int .i64 0, .int .i64 0, .string ⟨#[]⟩, .bool false, .int .i64 0, .int .i64 0, .int .i64 0, .bool false] rfl ((((((((((k0.set_ 0 (.int .i64 0)).set_ 1 (.int .i64 0)).set_ 2 (.int .i64 0)).set_ 3 (.string ⟨#[]⟩)).set_ 4 (.bool false)).set_ 5 (.int .i64 0)).set_ 6 (.int .i64 0)).set_ 7 (.int .i64 0)).set_ 8 (.bool false))) rfl) rfl ⟨(((((((((hb0.setCell (p := ⟨w.heap.size, 0, none⟩) (Nat.le_refl _) (.int .i64 0)).setCell (p := ⟨w.heap.size, 1, none⟩) (Nat.le_refl _) (.int .i64 0)).setCell (p := ⟨w.heap.size, 2, none⟩) (Nat.le_refl _) (.int .i64 0)).setCell (p := ⟨w.heap.size, 3, none⟩) (Nat.le_refl _) (.string ⟨#[]⟩)).setCell (p := ⟨w.heap.size, 4, none⟩) (Nat.le_refl _) (.bool false)).setCell (p := ⟨w.heap.size, 5, none⟩) (Nat.le_refl _) (.int .i64 0)).setCell (p := ⟨w.heap.size, 6, none⟩) (Nat.le_refl _) (.int .i64 0)).setCell (p := ⟨w.heap.size, 7, none⟩) (Nat.le_refl _) (.int .i64 0)).setCell (p := ⟨w.heap.size, 8, none⟩) (Nat.le_refl _) (.bool false)), by rw [HO.out]; rfl⟩
  · obtain ⟨q, hq⟩ : ∃ q, p + m1 = q := ⟨_, rfl⟩
    have hqs : q ≤ s.size := by omega
    refine (iRd1_some s hs p (w.heap.size + 1 + 1 + 1) 1 (w.heap.size + 1) 1 n1 m1 q 40 78 #[.int .i64 8, .int .i64 0, .int .i64 0, .string ⟨#[]⟩, .bool false, .int .i64 0, .int .i64 0, .int .i64 0, .bool false] _ (by omega) kp k1 (by simp) hd1 (by omega)).mono ?_
    rintro e w4 ⟨hk, rfl, hk1⟩
    replace k0 := hk.2 _ _ _ (by omega) k0
    replace k2 := hk.2 _ _ _ (by omega) k2
    replace hb0 := hb0.trans (hk.1.mono (by omega))
    clear hk kp k1
    have k1 : Bk w4 (w.heap.size + 1) 40 #[.int .i64 8, .int .i64 (n1 : Nat), .int .i64 0, .string ⟨#[]⟩, .bool false, .int .i64 0, .int .i64 0, .int .i64 0, .bool false] := hk1
    clear hk1
    have hqq : (p : Int) + m1 = q := by omega
    have HRD := Lib.hid (show rdN s 1 p = some ([(n1 : Int)], (q : Int)) by simp [rdN, hd1, hqq])
    clear hqq hq hp1
    have hwz : IntKind.i64.wrap ((s.size : Int) - q) = (s.size : Int) - q := IntWalk.i64_in _ (by omega)
    obtain ⟨q0, q1, q2, q3, q4, q5, q6, q7, q8⟩ := k0.nine
    obtain ⟨j0, j1, j2, j3, j4, j5, j6, j7, j8⟩ := k1.nine
    have z0 := (k2.cell 0).trans rfl
    have f0 := k0.frozen
    have f1 := k1.frozen
    have f2 := k2.frozen
    obtain ⟨z0', hz0'⟩ : ∃ z, s.size - q = z := ⟨_, rfl⟩
    have hw3 : (s.size : Int) - q = z0' := by omega
    have hwz2 : IntKind.i64.wrap (z0' : Int) = z0' := IntWalk.i64_in _ (by omega)
    go_wp2_with fail
    replace k0 : Bk (w4.setCell ⟨w.heap.size + 1 + 1, 0, none⟩ (.int .i64 z0')) w.heap.size 40 #[.int .i64 0, .int .i64 0, .int .i64 0, .string ⟨#[]⟩, .bool false, .int .i64 0, .int .i64 0, .int .i64 0, .bool false] := k0.set_other (by omega)
    replace k1 : Bk (w4.setCell ⟨w.heap.size + 1 + 1, 0, none⟩ (.int .i64 z0')) (w.heap.size + 1) 40 #[.int .i64 8, .int .i64 (n1 : Nat), .int .i64 0, .string ⟨#[]⟩, .bool false, .int .i64 0, .int .i64 0, .int .i64 0, .bool false] := k1.set_other (by omega)
    replace k2 : Bk (w4.setCell ⟨w.heap.size + 1 + 1, 0, none⟩ (.int .i64 z0')) (w.heap.size + 1 + 1) 3 #[.int .i64 z0'] := k2.set_ 0 _
    replace hb0 := hb0.setCell (p := ⟨w.heap.size + 1 + 1, 0, none⟩) (by show w.heap.size ≤ w.heap.size + 1 + 1; omega) (.int .i64 z0')
    clear q0 q1 q2 q3 q4 q5 q6 q7 q8 j0 j1 j2 j3 j4 j5 j6 j7 j8 z0 f0 f1 f2
    have hsz : (w4.setCell ⟨w.heap.size + 1 + 1, 0, none⟩ (.int .i64 z0')).heap.size = w4.heap.size := by simp [World.setCell]
    generalize (w4.setCell ⟨w.heap.size + 1 + 1, 0, none⟩ (.int .i64 z0')) = ws at k0 k1 k2 hb0 hsz ⊢
    try rw [← hsz]
    have kp : Bk (ws.alloc (.cells #[.pointer (some ⟨w.heap.size + 1 + 1, 0, none⟩)] 78)) ws.heap.size 78 #[.pointer (some ⟨w.heap.size + 1 + 1, 0, none⟩)] := heap_alloc_new ws _
    have l1 := k1.lt; have l2 := k2.lt
    have hP : w.heap.size + 1 + 1 < ws.heap.size := l2
    replace k0 := k0.below ((Below.refl ws.heap.size ws).alloc (Nat.le_refl _) (.cells #[.pointer (some ⟨w.heap.size + 1 + 1, 0, none⟩)] 78)) k0.lt
    replace k1 := k1.below ((Below.refl ws.heap.size ws).alloc (Nat.le_refl _) (.cells #[.pointer (some ⟨w.heap.size + 1 + 1, 0, none⟩)] 78)) k1.lt
    replace k2 := k2.below ((Below.refl ws.heap.size ws).alloc (Nat.le_refl _) (.cells #[.pointer (some ⟨w.heap.size + 1 + 1, 0, none⟩)] 78)) k2.lt
    replace hb0 := hb0.alloc hb0.size (.cells #[.pointer (some ⟨w.heap.size + 1 + 1, 0, none⟩)] 78)
    generalize hBP : ws.heap.size = P at kp hP l1 l2 ⊢
    generalize (ws.alloc (.cells #[.pointer (some ⟨w.heap.size + 1 + 1, 0, none⟩)] 78)) = w5 at k0 k1 k2 kp hb0 ⊢
    clear hBP l1 l2
    clear hsz
    rcases dq_two s q with ⟨hd3, _⟩ | ⟨n3, m3, hd3, _, hn3, hm3, hm3', hp3⟩
    · have HO := Lib.hid (show stO s false false true p = none by simp [stO, HRD.out, hd3])
      refine (iRd1_none s hs q P 1 (w.heap.size + 1 + 1) 0 3 78 #[.int .i64 z0'] _ (by omega) kp k2 (by simp) hd3).mono ?_
      rintro e w6 ⟨hk, rfl⟩
      have k0 := hk.2 _ _ _ (by omega) k0
      replace hb0 := hb0.trans (hk.1.mono (by omega))
      obtain ⟨q0, q1, q2, q3, q4, q5, q6, q7, q8⟩ := k0.nine
      have f0 := k0.frozen
      clear k1 k2
      go_wp2
      refine bodyPost_ret (results_frame3 rfl _ _ w.heap.size #[.int .i64 0, .int .i64 0, .int .i64 0, .string ⟨#[]⟩, .bool false, .int .i64 0, .int .i64 0, .int .i64 0, .bool false] rfl ((((((((((k0.set_ 0 (.int .i64 0)).set_ 1 (.int .i64 0)).set_ 2 (.int .i64 0)).set_ 3 (.string ⟨#[]⟩)).set_ 4 (.bool false)).set_ 5 (.int .i64 0)).set_ 6 (.int .i64 0)).set_ 7 (.int .i64 0)).set_ 8 (.bool false))) rfl) rfl ⟨(((((((((hb0.setCell (p := ⟨w.heap.size, 0, none⟩) (Nat.le_refl _) (.int .i64 0)).setCell (p := ⟨w.heap.size, 1, none⟩) (Nat.le_refl _) (.int .i64 0)).setCell (p := ⟨w.heap.size, 2, none⟩) (Nat.le_refl _) (.int .i64 0)).setCell (p := ⟨w.heap.size, 3, none⟩) (Nat.le_refl _) (.string ⟨#[]⟩)).setCell (p := ⟨w.heap.size, 4, none⟩) (Nat.le_refl _) (.bool false)).setCell (p := ⟨w.heap.size, 5, none⟩) (Nat.le_refl _) (.int .i64 0)).setCell (p := ⟨w.heap.size, 6, none⟩) (Nat.le_refl _) (.int .i64 0)).setCell (p := ⟨w.heap.size, 7, none⟩) (Nat.le_refl _) (.int .i64 0)).setCell (p := ⟨w.heap.size, 8, none⟩) (Nat.le_refl _) (.bool false)), by rw [HO.out]; rfl⟩
    · obtain ⟨r, hr2⟩ : ∃ r, q + m3 = r := ⟨_, rfl⟩
      have hrs : r ≤ s.size := by omega
      refine (iRd1_some s hs q P 1 (w.heap.size + 1 + 1) 0 n3 m3 r 3 78 #[.int .i64 z0'] _ (by omega) kp k2 (by simp) hd3 (by omega)).mono ?_
      rintro e w6 ⟨hk, rfl, hk1⟩
      replace k0 := hk.2 _ _ _ (by omega) k0
      replace k1 := hk.2 _ _ _ (by omega) k1
      replace hb0 := hb0.trans (hk.1.mono (by omega))
      clear hk kp k2
      have k2 : Bk w6 (w.heap.size + 1 + 1) 3 #[.int .i64 (n3 : Nat)] := hk1
      clear hk1
      have hwk : IntKind.i64.wrap ((s.size : Int) - r) = (s.size : Int) - r := IntWalk.i64_in _ (by omega)
      by_cases hgt : s.size < r + n3
      · have HO := Lib.hid (show stO s false false true p = none by simp [stO, HRD.out, hd3]; omega)
        have hdd : decide ((s.size : Int) - r < (n3 : Int)) = true := by simp; omega
        obtain ⟨q0, q1, q2, q3, q4, q5, q6, q7, q8⟩ := k0.nine
        obtain ⟨j0, j1, j2, j3, j4, j5, j6, j7, j8⟩ := k1.nine
        have z0 := (k2.cell 0).trans rfl
        have f0 := k0.frozen
        have f1 := k1.frozen
        have f2 := k2.frozen
        go_wp2
        refine bodyPost_ret (results_frame3 rfl _ _ w.heap.size #[.int .i64 0, .int .i64 0, .int .i64 0, .string ⟨#[]⟩, .bool false, .int .i64 0, .int .i64 0, .int .i64 0, .bool false] rfl ((((((((((k0.set_ 0 (.int .i64 0)).set_ 1 (.int .i64 0)).set_ 2 (.int .i64 0)).set_ 3 (.string ⟨#[]⟩)).set_ 4 (.bool false)).set_ 5 (.int .i64 0)).set_ 6 (.int .i64 0)).set_ 7 (.int .i64 0)).set_ 8 (.bool false))) rfl) rfl ⟨(((((((((hb0.setCell (p := ⟨w.heap.size, 0, none⟩) (Nat.le_refl _) (.int .i64 0)).setCell (p := ⟨w.heap.size, 1, none⟩) (Nat.le_refl _) (.int .i64 0)).setCell (p := ⟨w.heap.size, 2, none⟩) (Nat.le_refl _) (.int .i64 0)).setCell (p := ⟨w.heap.size, 3, none⟩) (Nat.le_refl _) (.string ⟨#[]⟩)).setCell (p := ⟨w.heap.size, 4, none⟩) (Nat.le_refl _) (.bool false)).setCell (p := ⟨w.heap.size, 5, none⟩) (Nat.le_refl _) (.int .i64 0)).setCell (p := ⟨w.heap.size, 6, none⟩) (Nat.le_refl _) (.int .i64 0)).setCell (p := ⟨w.heap.size, 7, none⟩) (Nat.le_refl _) (.int .i64 0)).setCell (p := ⟨w.heap.size, 8, none⟩) (Nat.le_refl _) (.bool false)), by rw [HO.out]; rfl⟩
      · have hdd : decide ((s.size : Int) - r < (n3 : Int)) = false := by simp; omega
        obtain ⟨z, hz⟩ : ∃ z, r + n3 = z := ⟨_, rfl⟩
        have hw2 : IntKind.i64.wrap ((r : Int) + n3) = (z : Int) := by rw [show (r : Int) + n3 = z by omega]; exact IntWalk.i64_in _ (by omega)
        have hz2 : (r : Int) + n3 = z := by omega
        have hrz : r ≤ z := by omega
        have hzs : z ≤ s.size := by omega
        obtain ⟨d, hd⟩ : ∃ d, s.extract r z = d := ⟨_, rfl⟩
        have HO := Lib.hid (show stO s false false true p = some ((⟨8, (n1 : Int), 0, d, false, 0, 0, 0, false⟩ : Fr), (z : Int)) by subst hr2 hz; simp [stO, HRD.out, hd3, hd]; omega)
        obtain ⟨q0, q1, q2, q3, q4, q5, q6, q7, q8⟩ := k0.nine
        obtain ⟨j0, j1, j2, j3, j4, j5, j6, j7, j8⟩ := k1.nine
        have z0 := (k2.cell 0).trans rfl
        have f0 := k0.frozen
        have f1 := k1.frozen
        have f2 := k2.frozen
        clear hgt hp3 hr2 hz
        go_wp2
        have hwz3 : IntKind.i64.wrap (z : Int) = z := IntWalk.i64_in _ (by omega)
        have k0' : Bk (w6.setCell ⟨w.heap.size + 1, 3, none⟩ (.string d)) w.heap.size 40 #[.int .i64 0, .int .i64 0, .int .i64 0, .string ⟨#[]⟩, .bool false, .int .i64 0, .int .i64 0, .int .i64 0, .bool false] := k0.set_other (by omega)
        have k1' : Bk (w6.setCell ⟨w.heap.size + 1, 3, none⟩ (.string d)) (w.heap.size + 1) 40 #[.int .i64 8, .int .i64 (n1 : Nat), .int .i64 0, .string d, .bool false, .int .i64 0, .int .i64 0, .int .i64 0, .bool false] := k1.set_ 3 _
        have k2' : Bk (w6.setCell ⟨w.heap.size + 1, 3, none⟩ (.string d)) (w.heap.size + 1 + 1) 3 #[.int .i64 (n3 : Nat)] := k2.set_other (by omega)
        have hb0' : Below w.heap.size w (w6.setCell ⟨w.heap.size + 1, 3, none⟩ (.string d)) := hb0.setCell (p := ⟨w.heap.size + 1, 3, none⟩) (Nat.le_succ _) (.string d)
        clear q0 q1 q2 q3 q4 q5 q6 q7 q8 j0 j1 j2 j3 j4 j5 j6 j7 j8 z0 f0 f1 f2 k0 k1 k2 hb0
        generalize (w6.setCell ⟨w.heap.size + 1, 3, none⟩ (.string d)) = wl at k0' k1' k2' hb0' ⊢
        obtain ⟨q0, q1, q2, q3, q4, q5, q6, q7, q8⟩ := k0'.nine
        obtain ⟨j0, j1, j2, j3, j4, j5, j6, j7, j8⟩ := k1'.nine
        have z0 : wl.cell? ⟨w.heap.size + 1 + 1, 0, none⟩ = some (.int .i64 (n3 : Nat)) := (k2'.cell 0).trans rfl
        have f0 := k0'.frozen
        have hx1 : (w.heap.size = w.heap.size + 1 + 1) = False := by simp; omega
        have hx2 : (w.heap.size + 1 + 1 = w.heap.size) = False := by simp; omega
        go_region_held3 (fun w' => w'.cell? ⟨w.heap.size + 1, 0, none⟩ = some (.int .i64 8) ∧ w'.cell? ⟨w.heap.size + 1, 1, none⟩ = some (.int .i64 (n1 : Nat)) ∧ w'.cell? ⟨w.heap.size + 1, 2, none⟩ = some (.int .i64 0) ∧ w'.cell? ⟨w.heap.size + 1, 3, none⟩ = some (.string d) ∧ w'.cell? ⟨w.heap.size + 1, 4, none⟩ = some (.bool false) ∧ w'.cell? ⟨w.heap.size + 1, 5, none⟩ = some (.int .i64 0) ∧ w'.cell? ⟨w.heap.size + 1, 6, none⟩ = some (.int .i64 0) ∧ w'.cell? ⟨w.heap.size + 1, 7, none⟩ = some (.int .i64 0) ∧ w'.cell? ⟨w.heap.size + 1, 8, none⟩ = some (.bool false) ∧ w'.cell? ⟨w.heap.size + 1 + 1, 0, none⟩ = some (.int .i64 (n3 : Nat))) (first | go_keep) (first | (fail))
        go_wp2
        refine bodyPost_ret (results_frame3 rfl _ _ w.heap.size #[.int .i64 8, .int .i64 (n1 : Nat), .int .i64 0, .string d, .bool false, .int .i64 0, .int .i64 0, .int .i64 0, .bool false] rfl (Bk.drew (((((((((k0'.set_ 0 (.int .i64 8)).set_ 1 (.int .i64 (n1 : Nat))).set_ 2 (.int .i64 0)).set_ 3 (.string d)).set_ 4 (.bool false)).set_ 5 (.int .i64 0)).set_ 6 (.int .i64 0)).set_ 7 (.int .i64 0)).set_ 8 (.bool false))) rfl) rfl ⟨(((((((((hb0'.setCell (p := ⟨w.heap.size, 0, none⟩) (Nat.le_refl _) (.int .i64 8)).setCell (p := ⟨w.heap.size, 1, none⟩) (Nat.le_refl _) (.int .i64 (n1 : Nat))).setCell (p := ⟨w.heap.size, 2, none⟩) (Nat.le_refl _) (.int .i64 0)).setCell (p := ⟨w.heap.size, 3, none⟩) (Nat.le_refl _) (.string d)).setCell (p := ⟨w.heap.size, 4, none⟩) (Nat.le_refl _) (.bool false)).setCell (p := ⟨w.heap.size, 5, none⟩) (Nat.le_refl _) (.int .i64 0)).setCell (p := ⟨w.heap.size, 6, none⟩) (Nat.le_refl _) (.int .i64 0)).setCell (p := ⟨w.heap.size, 7, none⟩) (Nat.le_refl _) (.int .i64 0)).setCell (p := ⟨w.heap.size, 8, none⟩) (Nat.le_refl _) (.bool false)).drew, by rw [HO.out]; exact ret_tup rfl⟩
set_option maxHeartbeats 4000000 in
theorem iStr_11 (s : ByteArray) (hs : s.size ≤ 1048576) (p : Nat) (w : World) :
    Calls Try.prog 73 #[.string s, .int .i64 p, .int .i64 11] w fun e w' => Below w.heap.size w w' ∧ e = .returned (dfVal (stO s true false true p)) := by
  have b1 : bits BinOp.and IntKind.i64 11 1 = 1 := by decide +kernel
  have b2 : bits BinOp.and IntKind.i64 11 2 = 2 := by decide +kernel
  have b4 : bits BinOp.and IntKind.i64 11 4 = 0 := by decide +kernel
  have k0 : Bk (w.alloc (.cells #[.int .i64 0, .int .i64 0, .int .i64 0, .string ⟨#[]⟩, .bool false, .int .i64 0, .int .i64 0, .int .i64 0, .bool false] 40)) w.heap.size 40 #[.int .i64 0, .int .i64 0, .int .i64 0, .string ⟨#[]⟩, .bool false, .int .i64 0, .int .i64 0, .int .i64 0, .bool false] := heap_alloc_new w _
  have hb0 : Below w.heap.size w (w.alloc (.cells #[.int .i64 0, .int .i64 0, .int .i64 0, .string ⟨#[]⟩, .bool false, .int .i64 0, .int .i64 0, .int .i64 0, .bool false] 40)) := (Below.refl _ _).alloc (Nat.le_refl _) _
  have hs0 : (w.alloc (.cells #[.int .i64 0, .int .i64 0, .int .i64 0, .string ⟨#[]⟩, .bool false, .int .i64 0, .int .i64 0, .int .i64 0, .bool false] 40)).heap.size = w.heap.size + 1 := by simp
  go_enter Try.func73, Try.ntmps73
  go_wp2_with fail
  generalize (w.alloc (.cells #[.int .i64 0, .int .i64 0, .int .i64 0, .string ⟨#[]⟩, .bool false, .int .i64 0, .int .i64 0, .int .i64 0, .bool false] 40)) = w0 at k0 hb0 hs0 ⊢
  have k1 : Bk (w0.alloc (.cells #[.int .i64 8, .int .i64 0, .int .i64 0, .string ⟨#[]⟩, .bool true, .int .i64 0, .int .i64 0, .int .i64 0, .bool false] 40)) (w.heap.size + 1) 40 #[.int .i64 8, .int .i64 0, .int .i64 0, .string ⟨#[]⟩, .bool true, .int .i64 0, .int .i64 0, .int .i64 0, .bool false] := by rw [← hs0]; exact heap_alloc_new w0 _
  replace k0 := k0.below ((Below.refl w0.heap.size w0).alloc (Nat.le_refl _) (.cells #[.int .i64 8, .int .i64 0, .int .i64 0, .string ⟨#[]⟩, .bool true, .int .i64 0, .int .i64 0, .int .i64 0, .bool false] 40)) k0.lt
  replace hb0 := hb0.alloc hb0.size (.cells #[.int .i64 8, .int .i64 0, .int .i64 0, .string ⟨#[]⟩, .bool true, .int .i64 0, .int .i64 0, .int .i64 0, .bool false] 40)
  replace hs0 : (w0.alloc (.cells #[.int .i64 8, .int .i64 0, .int .i64 0, .string ⟨#[]⟩, .bool true, .int .i64 0, .int .i64 0, .int .i64 0, .bool false] 40)).heap.size = (w.heap.size + 1) + 1 := by rw [← hs0]; simp
  generalize (w0.alloc (.cells #[.int .i64 8, .int .i64 0, .int .i64 0, .string ⟨#[]⟩, .bool true, .int .i64 0, .int .i64 0, .int .i64 0, .bool false] 40)) = w1 at k0 k1 hb0 hs0 ⊢
  have k2 : Bk (w1.alloc (.cells #[.int .i64 0] 3)) (w.heap.size + 1 + 1) 3 #[.int .i64 0] := by rw [← hs0]; exact heap_alloc_new w1 _
  replace k0 := k0.below ((Below.refl w1.heap.size w1).alloc (Nat.le_refl _) (.cells #[.int .i64 0] 3)) k0.lt
  replace k1 := k1.below ((Below.refl w1.heap.size w1).alloc (Nat.le_refl _) (.cells #[.int .i64 0] 3)) k1.lt
  replace hb0 := hb0.alloc hb0.size (.cells #[.int .i64 0] 3)
  replace hs0 : (w1.alloc (.cells #[.int .i64 0] 3)).heap.size = (w.heap.size + 1 + 1) + 1 := by rw [← hs0]; simp
  generalize (w1.alloc (.cells #[.int .i64 0] 3)) = w2 at k0 k1 k2 hb0 hs0 ⊢
  have kp : Bk (w2.alloc (.cells #[.pointer (some ⟨w.heap.size + 1, 1, none⟩)] 78)) (w.heap.size + 1 + 1 + 1) 78 #[.pointer (some ⟨w.heap.size + 1, 1, none⟩)] := by rw [← hs0]; exact heap_alloc_new w2 _
  replace k0 := k0.below ((Below.refl w2.heap.size w2).alloc (Nat.le_refl _) (.cells #[.pointer (some ⟨w.heap.size + 1, 1, none⟩)] 78)) k0.lt
  replace k1 := k1.below ((Below.refl w2.heap.size w2).alloc (Nat.le_refl _) (.cells #[.pointer (some ⟨w.heap.size + 1, 1, none⟩)] 78)) k1.lt
  replace k2 := k2.below ((Below.refl w2.heap.size w2).alloc (Nat.le_refl _) (.cells #[.pointer (some ⟨w.heap.size + 1, 1, none⟩)] 78)) k2.lt
  replace hb0 := hb0.alloc hb0.size (.cells #[.pointer (some ⟨w.heap.size + 1, 1, none⟩)] 78)
  replace hs0 : (w2.alloc (.cells #[.pointer (some ⟨w.heap.size + 1, 1, none⟩)] 78)).heap.size = (w.heap.size + 1 + 1 + 1) + 1 := by rw [← hs0]; simp
  generalize (w2.alloc (.cells #[.pointer (some ⟨w.heap.size + 1, 1, none⟩)] 78)) = w3 at k0 k1 k2 kp hb0 hs0 ⊢
  clear hs0
  rcases dq_two s p with ⟨hd1, _⟩ | ⟨n1, m1, hd1, _, hn1, hm1, hm1', hp1⟩
  · have HO := Lib.hid (show stO s true false true p = none by simp [stO, rdN, hd1])
    refine (iRd1_none s hs p (w.heap.size + 1 + 1 + 1) 1 (w.heap.size + 1) 1 40 78 #[.int .i64 8, .int .i64 0, .int .i64 0, .string ⟨#[]⟩, .bool true, .int .i64 0, .int .i64 0, .int .i64 0, .bool false] _ (by omega) kp k1 (by simp) hd1).mono ?_
    rintro e w4 ⟨hk, rfl⟩
    have k0 := hk.2 _ _ _ (by omega) k0
    replace hb0 := hb0.trans (hk.1.mono (by omega))
    obtain ⟨q0, q1, q2, q3, q4, q5, q6, q7, q8⟩ := k0.nine
    have f0 := k0.frozen
    clear k1 k2
    go_wp2
    refine bodyPost_ret (results_frame3 rfl _ _ w.heap.size #[.int .i64 0, .int .i64 0, .int .i64 0, .string ⟨#[]⟩, .bool false, .int .i64 0, .int .i64 0, .int .i64 0, .bool false] rfl ((((((((((k0.set_ 0 (.int .i64 0)).set_ 1 (.int .i64 0)).set_ 2 (.int .i64 0)).set_ 3 (.string ⟨#[]⟩)).set_ 4 (.bool false)).set_ 5 (.int .i64 0)).set_ 6 (.int .i64 0)).set_ 7 (.int .i64 0)).set_ 8 (.bool false))) rfl) rfl ⟨(((((((((hb0.setCell (p := ⟨w.heap.size, 0, none⟩) (Nat.le_refl _) (.int .i64 0)).setCell (p := ⟨w.heap.size, 1, none⟩) (Nat.le_refl _) (.int .i64 0)).setCell (p := ⟨w.heap.size, 2, none⟩) (Nat.le_refl _) (.int .i64 0)).setCell (p := ⟨w.heap.size, 3, none⟩) (Nat.le_refl _) (.string ⟨#[]⟩)).setCell (p := ⟨w.heap.size, 4, none⟩) (Nat.le_refl _) (.bool false)).setCell (p := ⟨w.heap.size, 5, none⟩) (Nat.le_refl _) (.int .i64 0)).setCell (p := ⟨w.heap.size, 6, none⟩) (Nat.le_refl _) (.int .i64 0)).setCell (p := ⟨w.heap.size, 7, none⟩) (Nat.le_refl _) (.int .i64 0)).setCell (p := ⟨w.heap.size, 8, none⟩) (Nat.le_refl _) (.bool false)), by rw [HO.out]; rfl⟩
  · obtain ⟨q, hq⟩ : ∃ q, p + m1 = q := ⟨_, rfl⟩
    have hqs : q ≤ s.size := by omega
    refine (iRd1_some s hs p (w.heap.size + 1 + 1 + 1) 1 (w.heap.size + 1) 1 n1 m1 q 40 78 #[.int .i64 8, .int .i64 0, .int .i64 0, .string ⟨#[]⟩, .bool true, .int .i64 0, .int .i64 0, .int .i64 0, .bool false] _ (by omega) kp k1 (by simp) hd1 (by omega)).mono ?_
    rintro e w4 ⟨hk, rfl, hk1⟩
    replace k0 := hk.2 _ _ _ (by omega) k0
    replace k2 := hk.2 _ _ _ (by omega) k2
    replace hb0 := hb0.trans (hk.1.mono (by omega))
    clear hk kp k1
    have k1 : Bk w4 (w.heap.size + 1) 40 #[.int .i64 8, .int .i64 (n1 : Nat), .int .i64 0, .string ⟨#[]⟩, .bool true, .int .i64 0, .int .i64 0, .int .i64 0, .bool false] := hk1
    clear hk1
    have hqq : (p : Int) + m1 = q := by omega
    have HRD := Lib.hid (show rdN s 1 p = some ([(n1 : Int)], (q : Int)) by simp [rdN, hd1, hqq])
    clear hqq hq hp1
    have hwz : IntKind.i64.wrap ((s.size : Int) - q) = (s.size : Int) - q := IntWalk.i64_in _ (by omega)
    obtain ⟨q0, q1, q2, q3, q4, q5, q6, q7, q8⟩ := k0.nine
    obtain ⟨j0, j1, j2, j3, j4, j5, j6, j7, j8⟩ := k1.nine
    have z0 := (k2.cell 0).trans rfl
    have f0 := k0.frozen
    have f1 := k1.frozen
    have f2 := k2.frozen
    obtain ⟨z0', hz0'⟩ : ∃ z, s.size - q = z := ⟨_, rfl⟩
    have hw3 : (s.size : Int) - q = z0' := by omega
    have hwz2 : IntKind.i64.wrap (z0' : Int) = z0' := IntWalk.i64_in _ (by omega)
    go_wp2_with fail
    replace k0 : Bk (w4.setCell ⟨w.heap.size + 1 + 1, 0, none⟩ (.int .i64 z0')) w.heap.size 40 #[.int .i64 0, .int .i64 0, .int .i64 0, .string ⟨#[]⟩, .bool false, .int .i64 0, .int .i64 0, .int .i64 0, .bool false] := k0.set_other (by omega)
    replace k1 : Bk (w4.setCell ⟨w.heap.size + 1 + 1, 0, none⟩ (.int .i64 z0')) (w.heap.size + 1) 40 #[.int .i64 8, .int .i64 (n1 : Nat), .int .i64 0, .string ⟨#[]⟩, .bool true, .int .i64 0, .int .i64 0, .int .i64 0, .bool false] := k1.set_other (by omega)
    replace k2 : Bk (w4.setCell ⟨w.heap.size + 1 + 1, 0, none⟩ (.int .i64 z0')) (w.heap.size + 1 + 1) 3 #[.int .i64 z0'] := k2.set_ 0 _
    replace hb0 := hb0.setCell (p := ⟨w.heap.size + 1 + 1, 0, none⟩) (by show w.heap.size ≤ w.heap.size + 1 + 1; omega) (.int .i64 z0')
    clear q0 q1 q2 q3 q4 q5 q6 q7 q8 j0 j1 j2 j3 j4 j5 j6 j7 j8 z0 f0 f1 f2
    have hsz : (w4.setCell ⟨w.heap.size + 1 + 1, 0, none⟩ (.int .i64 z0')).heap.size = w4.heap.size := by simp [World.setCell]
    generalize (w4.setCell ⟨w.heap.size + 1 + 1, 0, none⟩ (.int .i64 z0')) = ws at k0 k1 k2 hb0 hsz ⊢
    try rw [← hsz]
    have kp : Bk (ws.alloc (.cells #[.pointer (some ⟨w.heap.size + 1 + 1, 0, none⟩)] 78)) ws.heap.size 78 #[.pointer (some ⟨w.heap.size + 1 + 1, 0, none⟩)] := heap_alloc_new ws _
    have l1 := k1.lt; have l2 := k2.lt
    have hP : w.heap.size + 1 + 1 < ws.heap.size := l2
    replace k0 := k0.below ((Below.refl ws.heap.size ws).alloc (Nat.le_refl _) (.cells #[.pointer (some ⟨w.heap.size + 1 + 1, 0, none⟩)] 78)) k0.lt
    replace k1 := k1.below ((Below.refl ws.heap.size ws).alloc (Nat.le_refl _) (.cells #[.pointer (some ⟨w.heap.size + 1 + 1, 0, none⟩)] 78)) k1.lt
    replace k2 := k2.below ((Below.refl ws.heap.size ws).alloc (Nat.le_refl _) (.cells #[.pointer (some ⟨w.heap.size + 1 + 1, 0, none⟩)] 78)) k2.lt
    replace hb0 := hb0.alloc hb0.size (.cells #[.pointer (some ⟨w.heap.size + 1 + 1, 0, none⟩)] 78)
    generalize hBP : ws.heap.size = P at kp hP l1 l2 ⊢
    generalize (ws.alloc (.cells #[.pointer (some ⟨w.heap.size + 1 + 1, 0, none⟩)] 78)) = w5 at k0 k1 k2 kp hb0 ⊢
    clear hBP l1 l2
    clear hsz
    rcases dq_two s q with ⟨hd3, _⟩ | ⟨n3, m3, hd3, _, hn3, hm3, hm3', hp3⟩
    · have HO := Lib.hid (show stO s true false true p = none by simp [stO, HRD.out, hd3])
      refine (iRd1_none s hs q P 1 (w.heap.size + 1 + 1) 0 3 78 #[.int .i64 z0'] _ (by omega) kp k2 (by simp) hd3).mono ?_
      rintro e w6 ⟨hk, rfl⟩
      have k0 := hk.2 _ _ _ (by omega) k0
      replace hb0 := hb0.trans (hk.1.mono (by omega))
      obtain ⟨q0, q1, q2, q3, q4, q5, q6, q7, q8⟩ := k0.nine
      have f0 := k0.frozen
      clear k1 k2
      go_wp2
      refine bodyPost_ret (results_frame3 rfl _ _ w.heap.size #[.int .i64 0, .int .i64 0, .int .i64 0, .string ⟨#[]⟩, .bool false, .int .i64 0, .int .i64 0, .int .i64 0, .bool false] rfl ((((((((((k0.set_ 0 (.int .i64 0)).set_ 1 (.int .i64 0)).set_ 2 (.int .i64 0)).set_ 3 (.string ⟨#[]⟩)).set_ 4 (.bool false)).set_ 5 (.int .i64 0)).set_ 6 (.int .i64 0)).set_ 7 (.int .i64 0)).set_ 8 (.bool false))) rfl) rfl ⟨(((((((((hb0.setCell (p := ⟨w.heap.size, 0, none⟩) (Nat.le_refl _) (.int .i64 0)).setCell (p := ⟨w.heap.size, 1, none⟩) (Nat.le_refl _) (.int .i64 0)).setCell (p := ⟨w.heap.size, 2, none⟩) (Nat.le_refl _) (.int .i64 0)).setCell (p := ⟨w.heap.size, 3, none⟩) (Nat.le_refl _) (.string ⟨#[]⟩)).setCell (p := ⟨w.heap.size, 4, none⟩) (Nat.le_refl _) (.bool false)).setCell (p := ⟨w.heap.size, 5, none⟩) (Nat.le_refl _) (.int .i64 0)).setCell (p := ⟨w.heap.size, 6, none⟩) (Nat.le_refl _) (.int .i64 0)).setCell (p := ⟨w.heap.size, 7, none⟩) (Nat.le_refl _) (.int .i64 0)).setCell (p := ⟨w.heap.size, 8, none⟩) (Nat.le_refl _) (.bool false)), by rw [HO.out]; rfl⟩
    · obtain ⟨r, hr2⟩ : ∃ r, q + m3 = r := ⟨_, rfl⟩
      have hrs : r ≤ s.size := by omega
      refine (iRd1_some s hs q P 1 (w.heap.size + 1 + 1) 0 n3 m3 r 3 78 #[.int .i64 z0'] _ (by omega) kp k2 (by simp) hd3 (by omega)).mono ?_
      rintro e w6 ⟨hk, rfl, hk1⟩
      replace k0 := hk.2 _ _ _ (by omega) k0
      replace k1 := hk.2 _ _ _ (by omega) k1
      replace hb0 := hb0.trans (hk.1.mono (by omega))
      clear hk kp k2
      have k2 : Bk w6 (w.heap.size + 1 + 1) 3 #[.int .i64 (n3 : Nat)] := hk1
      clear hk1
      have hwk : IntKind.i64.wrap ((s.size : Int) - r) = (s.size : Int) - r := IntWalk.i64_in _ (by omega)
      by_cases hgt : s.size < r + n3
      · have HO := Lib.hid (show stO s true false true p = none by simp [stO, HRD.out, hd3]; omega)
        have hdd : decide ((s.size : Int) - r < (n3 : Int)) = true := by simp; omega
        obtain ⟨q0, q1, q2, q3, q4, q5, q6, q7, q8⟩ := k0.nine
        obtain ⟨j0, j1, j2, j3, j4, j5, j6, j7, j8⟩ := k1.nine
        have z0 := (k2.cell 0).trans rfl
        have f0 := k0.frozen
        have f1 := k1.frozen
        have f2 := k2.frozen
        go_wp2
        refine bodyPost_ret (results_frame3 rfl _ _ w.heap.size #[.int .i64 0, .int .i64 0, .int .i64 0, .string ⟨#[]⟩, .bool false, .int .i64 0, .int .i64 0, .int .i64 0, .bool false] rfl ((((((((((k0.set_ 0 (.int .i64 0)).set_ 1 (.int .i64 0)).set_ 2 (.int .i64 0)).set_ 3 (.string ⟨#[]⟩)).set_ 4 (.bool false)).set_ 5 (.int .i64 0)).set_ 6 (.int .i64 0)).set_ 7 (.int .i64 0)).set_ 8 (.bool false))) rfl) rfl ⟨(((((((((hb0.setCell (p := ⟨w.heap.size, 0, none⟩) (Nat.le_refl _) (.int .i64 0)).setCell (p := ⟨w.heap.size, 1, none⟩) (Nat.le_refl _) (.int .i64 0)).setCell (p := ⟨w.heap.size, 2, none⟩) (Nat.le_refl _) (.int .i64 0)).setCell (p := ⟨w.heap.size, 3, none⟩) (Nat.le_refl _) (.string ⟨#[]⟩)).setCell (p := ⟨w.heap.size, 4, none⟩) (Nat.le_refl _) (.bool false)).setCell (p := ⟨w.heap.size, 5, none⟩) (Nat.le_refl _) (.int .i64 0)).setCell (p := ⟨w.heap.size, 6, none⟩) (Nat.le_refl _) (.int .i64 0)).setCell (p := ⟨w.heap.size, 7, none⟩) (Nat.le_refl _) (.int .i64 0)).setCell (p := ⟨w.heap.size, 8, none⟩) (Nat.le_refl _) (.bool false)), by rw [HO.out]; rfl⟩
      · have hdd : decide ((s.size : Int) - r < (n3 : Int)) = false := by simp; omega
        obtain ⟨z, hz⟩ : ∃ z, r + n3 = z := ⟨_, rfl⟩
        have hw2 : IntKind.i64.wrap ((r : Int) + n3) = (z : Int) := by rw [show (r : Int) + n3 = z by omega]; exact IntWalk.i64_in _ (by omega)
        have hz2 : (r : Int) + n3 = z := by omega
        have hrz : r ≤ z := by omega
        have hzs : z ≤ s.size := by omega
        obtain ⟨d, hd⟩ : ∃ d, s.extract r z = d := ⟨_, rfl⟩
        have HO := Lib.hid (show stO s true false true p = some ((⟨8, (n1 : Int), 0, d, true, 0, 0, 0, false⟩ : Fr), (z : Int)) by subst hr2 hz; simp [stO, HRD.out, hd3, hd]; omega)
        obtain ⟨q0, q1, q2, q3, q4, q5, q6, q7, q8⟩ := k0.nine
        obtain ⟨j0, j1, j2, j3, j4, j5, j6, j7, j8⟩ := k1.nine
        have z0 := (k2.cell 0).trans rfl
        have f0 := k0.frozen
        have f1 := k1.frozen
        have f2 := k2.frozen
        clear hgt hp3 hr2 hz
        go_wp2
        have hwz3 : IntKind.i64.wrap (z : Int) = z := IntWalk.i64_in _ (by omega)
        have k0' : Bk (w6.setCell ⟨w.heap.size + 1, 3, none⟩ (.string d)) w.heap.size 40 #[.int .i64 0, .int .i64 0, .int .i64 0, .string ⟨#[]⟩, .bool false, .int .i64 0, .int .i64 0, .int .i64 0, .bool false] := k0.set_other (by omega)
        have k1' : Bk (w6.setCell ⟨w.heap.size + 1, 3, none⟩ (.string d)) (w.heap.size + 1) 40 #[.int .i64 8, .int .i64 (n1 : Nat), .int .i64 0, .string d, .bool true, .int .i64 0, .int .i64 0, .int .i64 0, .bool false] := k1.set_ 3 _
        have k2' : Bk (w6.setCell ⟨w.heap.size + 1, 3, none⟩ (.string d)) (w.heap.size + 1 + 1) 3 #[.int .i64 (n3 : Nat)] := k2.set_other (by omega)
        have hb0' : Below w.heap.size w (w6.setCell ⟨w.heap.size + 1, 3, none⟩ (.string d)) := hb0.setCell (p := ⟨w.heap.size + 1, 3, none⟩) (Nat.le_succ _) (.string d)
        clear q0 q1 q2 q3 q4 q5 q6 q7 q8 j0 j1 j2 j3 j4 j5 j6 j7 j8 z0 f0 f1 f2 k0 k1 k2 hb0
        generalize (w6.setCell ⟨w.heap.size + 1, 3, none⟩ (.string d)) = wl at k0' k1' k2' hb0' ⊢
        obtain ⟨q0, q1, q2, q3, q4, q5, q6, q7, q8⟩ := k0'.nine
        obtain ⟨j0, j1, j2, j3, j4, j5, j6, j7, j8⟩ := k1'.nine
        have z0 : wl.cell? ⟨w.heap.size + 1 + 1, 0, none⟩ = some (.int .i64 (n3 : Nat)) := (k2'.cell 0).trans rfl
        have f0 := k0'.frozen
        have hx1 : (w.heap.size = w.heap.size + 1 + 1) = False := by simp; omega
        have hx2 : (w.heap.size + 1 + 1 = w.heap.size) = False := by simp; omega
        go_region_held3 (fun w' => w'.cell? ⟨w.heap.size + 1, 0, none⟩ = some (.int .i64 8) ∧ w'.cell? ⟨w.heap.size + 1, 1, none⟩ = some (.int .i64 (n1 : Nat)) ∧ w'.cell? ⟨w.heap.size + 1, 2, none⟩ = some (.int .i64 0) ∧ w'.cell? ⟨w.heap.size + 1, 3, none⟩ = some (.string d) ∧ w'.cell? ⟨w.heap.size + 1, 4, none⟩ = some (.bool true) ∧ w'.cell? ⟨w.heap.size + 1, 5, none⟩ = some (.int .i64 0) ∧ w'.cell? ⟨w.heap.size + 1, 6, none⟩ = some (.int .i64 0) ∧ w'.cell? ⟨w.heap.size + 1, 7, none⟩ = some (.int .i64 0) ∧ w'.cell? ⟨w.heap.size + 1, 8, none⟩ = some (.bool false) ∧ w'.cell? ⟨w.heap.size + 1 + 1, 0, none⟩ = some (.int .i64 (n3 : Nat))) (first | go_keep) (first | (fail))
        go_wp2
        refine bodyPost_ret (results_frame3 rfl _ _ w.heap.size #[.int .i64 8, .int .i64 (n1 : Nat), .int .i64 0, .string d, .bool true, .int .i64 0, .int .i64 0, .int .i64 0, .bool false] rfl (Bk.drew (((((((((k0'.set_ 0 (.int .i64 8)).set_ 1 (.int .i64 (n1 : Nat))).set_ 2 (.int .i64 0)).set_ 3 (.string d)).set_ 4 (.bool true)).set_ 5 (.int .i64 0)).set_ 6 (.int .i64 0)).set_ 7 (.int .i64 0)).set_ 8 (.bool false))) rfl) rfl ⟨(((((((((hb0'.setCell (p := ⟨w.heap.size, 0, none⟩) (Nat.le_refl _) (.int .i64 8)).setCell (p := ⟨w.heap.size, 1, none⟩) (Nat.le_refl _) (.int .i64 (n1 : Nat))).setCell (p := ⟨w.heap.size, 2, none⟩) (Nat.le_refl _) (.int .i64 0)).setCell (p := ⟨w.heap.size, 3, none⟩) (Nat.le_refl _) (.string d)).setCell (p := ⟨w.heap.size, 4, none⟩) (Nat.le_refl _) (.bool true)).setCell (p := ⟨w.heap.size, 5, none⟩) (Nat.le_refl _) (.int .i64 0)).setCell (p := ⟨w.heap.size, 6, none⟩) (Nat.le_refl _) (.int .i64 0)).setCell (p := ⟨w.heap.size, 7, none⟩) (Nat.le_refl _) (.int .i64 0)).setCell (p := ⟨w.heap.size, 8, none⟩) (Nat.le_refl _) (.bool false)).drew, by rw [HO.out]; exact ret_tup rfl⟩
end Go.Proofs.Ytadoiehgobcjcaa
