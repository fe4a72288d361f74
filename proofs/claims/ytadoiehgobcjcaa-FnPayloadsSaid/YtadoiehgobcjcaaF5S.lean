/- spec.EncodeFrame of a valid frame, one contract a kind. No conditions. -/
import Derived.Test.YtadoiehgobcjcaaF5
namespace Go.Proofs.Ytadoiehgobcjcaa
open Go.ChangeShapes Go.WideShapes Go.ChangeAt Go.RowKit Go.Sort QM
set_option linter.unusedVariables false
set_option linter.unusedSimpArgs false
set_option maxHeartbeats 1000000 in
theorem sEncF_4 (b : Int) (c : Int) (d : ByteArray) (e : Bool) (g : Int) (l : Int) (m : Int) (u : Bool) (hs : d.size ≤ 1048576) (hf : isFB 4 b c d e g l m u = true) (w : World) :
    Calls Try.prog 27 #[.agg #[.int .i64 4, .int .i64 b, .int .i64 c, .string d, .bool e, .int .i64 g, .int .i64 l, .int .i64 m, .bool u]] w fun x w' => x = .returned (.string (encL [4, b, g, m])) ∧ Below w.heap.size w w' := by
  have hb0 : Below w.heap.size w (w.alloc (.cells #[.int .i64 4, .int .i64 b, .int .i64 c, .string d, .bool e, .int .i64 g, .int .i64 l, .int .i64 m, .bool u] 40)) := (Below.refl _ _).alloc (Nat.le_refl _) _
  have hk0 : Bk (w.alloc (.cells #[.int .i64 4, .int .i64 b, .int .i64 c, .string d, .bool e, .int .i64 g, .int .i64 l, .int .i64 m, .bool u] 40)) w.heap.size 40 #[.int .i64 4, .int .i64 b, .int .i64 c, .string d, .bool e, .int .i64 g, .int .i64 l, .int .i64 m, .bool u] := heap_alloc_new w _
  go_enter Try.func27, Try.ntmps27
  go_wp2_with fail
  refine (sIs 4 b c d e g l m u hs _).mono ?_
  rintro x w1 ⟨rfl, hb1⟩
  rw [hf]
  have hk1 := hk0.below hb1 hk0.lt
  replace hb1 := below_next hb0 hb0.size hb1
  obtain ⟨c0, c1, c2, c3, c4, c5, c6, c7, c8⟩ := hk1.nine
  go_wp2_with fail
  refine (sEncs_at [4, b, g, m] (Nat.le_refl _) (rd_new w1 [4, b, g, m]) rfl (by simp)).mono ?_
  rintro x w2 ⟨rfl, hb2⟩
  replace hb2 := below_next (hb1.alloc hb1.size _) (Nat.le_trans hb1.size (by simp)) hb2
  go_wp2
  go_ret
  exact ⟨rfl, hb2⟩
set_option maxHeartbeats 1000000 in
theorem sEncF_5 (b : Int) (c : Int) (d : ByteArray) (e : Bool) (g : Int) (l : Int) (m : Int) (u : Bool) (hs : d.size ≤ 1048576) (hf : isFB 5 b c d e g l m u = true) (w : World) :
    Calls Try.prog 27 #[.agg #[.int .i64 5, .int .i64 b, .int .i64 c, .string d, .bool e, .int .i64 g, .int .i64 l, .int .i64 m, .bool u]] w fun x w' => x = .returned (.string (encL [5, b, g])) ∧ Below w.heap.size w w' := by
  have hb0 : Below w.heap.size w (w.alloc (.cells #[.int .i64 5, .int .i64 b, .int .i64 c, .string d, .bool e, .int .i64 g, .int .i64 l, .int .i64 m, .bool u] 40)) := (Below.refl _ _).alloc (Nat.le_refl _) _
  have hk0 : Bk (w.alloc (.cells #[.int .i64 5, .int .i64 b, .int .i64 c, .string d, .bool e, .int .i64 g, .int .i64 l, .int .i64 m, .bool u] 40)) w.heap.size 40 #[.int .i64 5, .int .i64 b, .int .i64 c, .string d, .bool e, .int .i64 g, .int .i64 l, .int .i64 m, .bool u] := heap_alloc_new w _
  go_enter Try.func27, Try.ntmps27
  go_wp2_with fail
  refine (sIs 5 b c d e g l m u hs _).mono ?_
  rintro x w1 ⟨rfl, hb1⟩
  rw [hf]
  have hk1 := hk0.below hb1 hk0.lt
  replace hb1 := below_next hb0 hb0.size hb1
  obtain ⟨c0, c1, c2, c3, c4, c5, c6, c7, c8⟩ := hk1.nine
  go_wp2_with fail
  refine (sEncs_at [5, b, g] (Nat.le_refl _) (rd_new w1 [5, b, g]) rfl (by simp)).mono ?_
  rintro x w2 ⟨rfl, hb2⟩
  replace hb2 := below_next (hb1.alloc hb1.size _) (Nat.le_trans hb1.size (by simp)) hb2
  go_wp2
  go_ret
  exact ⟨rfl, hb2⟩
set_option maxHeartbeats 1000000 in
theorem sEncF_8e0c1 (b : Int) (d : ByteArray) (g : Int) (l : Int) (m : Int) (u : Bool) (hs : d.size ≤ 1048576) (hf : isFB 8 b 0 d false g l m u = true) (w : World) :
    Calls Try.prog 27 #[.agg #[.int .i64 8, .int .i64 b, .int .i64 0, .string d, .bool false, .int .i64 g, .int .i64 l, .int .i64 m, .bool u]] w fun x w' => x = .returned (.string (encL [10, b, (d.size : Int)] ++ d)) ∧ Below w.heap.size w w' := by
  have hb0 : Below w.heap.size w (w.alloc (.cells #[.int .i64 8, .int .i64 b, .int .i64 0, .string d, .bool false, .int .i64 g, .int .i64 l, .int .i64 m, .bool u] 40)) := (Below.refl _ _).alloc (Nat.le_refl _) _
  have hk0 : Bk (w.alloc (.cells #[.int .i64 8, .int .i64 b, .int .i64 0, .string d, .bool false, .int .i64 g, .int .i64 l, .int .i64 m, .bool u] 40)) w.heap.size 40 #[.int .i64 8, .int .i64 b, .int .i64 0, .string d, .bool false, .int .i64 g, .int .i64 l, .int .i64 m, .bool u] := heap_alloc_new w _
  have hz1 : (encL [10, b, (d.size : Int)]).size ≤ 8 * 3 := encL_size _
  obtain ⟨E, hE⟩ : ∃ E, encL [10, b, (d.size : Int)] = E := ⟨_, rfl⟩
  rw [hE] at hz1 ⊢
  have HE := Lib.hid hE; clear hE
  have hsum : (9223372036854775807 < E.size + d.size) = False := by simp; omega
  go_enter Try.func27, Try.ntmps27
  go_wp2_with fail
  refine (sIs 8 b 0 d false g l m u hs _).mono ?_
  rintro x w1 ⟨rfl, hb1⟩
  rw [hf]
  have hk1 := hk0.below hb1 hk0.lt
  replace hb1 := below_next hb0 hb0.size hb1
  obtain ⟨c0, c1, c2, c3, c4, c5, c6, c7, c8⟩ := hk1.nine
  go_wp2_with fail
  have hn1 := nine_start hb1 hk1
  go_region_held3 (fun w' => Below w.heap.size w w' ∧ w.heap.size < w'.heap.size ∧ w'.cell? ⟨w.heap.size, 0, none⟩ = some (.int .i64 8) ∧ w'.cell? ⟨w.heap.size, 1, none⟩ = some (.int .i64 b) ∧ w'.cell? ⟨w.heap.size, 2, none⟩ = some (.int .i64 0) ∧ w'.cell? ⟨w.heap.size, 3, none⟩ = some (.string d) ∧ w'.cell? ⟨w.heap.size, 4, none⟩ = some (.bool false) ∧ w'.cell? ⟨w.heap.size, 5, none⟩ = some (.int .i64 g) ∧ w'.cell? ⟨w.heap.size, 6, none⟩ = some (.int .i64 l) ∧ w'.cell? ⟨w.heap.size, 7, none⟩ = some (.int .i64 m) ∧ w'.cell? ⟨w.heap.size, 8, none⟩ = some (.bool u)) (first | exact hn1 | exact nine_below (by assumption) hbQ | exact nine_alloc (by assumption) _ | assumption | go_keep) (first | (go_at_call 21; refine (sEncs_at [10, b, (d.size : Int)] (Nat.le_refl _) (rd_new _ [10, b, (d.size : Int)]) rfl ?_).mono ?_; (simp); rintro x wq ⟨rfl, hbQ⟩; rw [HE.out]) | (go_at_call 21; refine (sEncs_at [10, b, (d.size : Int)] (Nat.le_refl _) ((rd_new _ [10, b, (d.size : Int)]).drew) rfl ?_).mono ?_; (simp); rintro x wq ⟨rfl, hbQ⟩; rw [HE.out]))
  all_goals
    have hend : Below w.heap.size w _ := (by assumption : Nine w (.int .i64 8) (.int .i64 b) (.int .i64 0) (.string d) (.bool false) (.int .i64 g) (.int .i64 l) (.int .i64 m) (.bool u) _).1
    go_wp2
    go_ret
    exact ⟨rfl, hend⟩
set_option maxHeartbeats 1000000 in
theorem sEncF_8e0c0 (b : Int) (c : Int) (d : ByteArray) (g : Int) (l : Int) (m : Int) (u : Bool) (hs : d.size ≤ 1048576) (hf : isFB 8 b c d false g l m u = true) (hc : (c == 0) = false) (w : World) :
    Calls Try.prog 27 #[.agg #[.int .i64 8, .int .i64 b, .int .i64 c, .string d, .bool false, .int .i64 g, .int .i64 l, .int .i64 m, .bool u]] w fun x w' => x = .returned (.string (encL [14, b, c, (d.size : Int)] ++ d)) ∧ Below w.heap.size w w' := by
  have hb0 : Below w.heap.size w (w.alloc (.cells #[.int .i64 8, .int .i64 b, .int .i64 c, .string d, .bool false, .int .i64 g, .int .i64 l, .int .i64 m, .bool u] 40)) := (Below.refl _ _).alloc (Nat.le_refl _) _
  have hk0 : Bk (w.alloc (.cells #[.int .i64 8, .int .i64 b, .int .i64 c, .string d, .bool false, .int .i64 g, .int .i64 l, .int .i64 m, .bool u] 40)) w.heap.size 40 #[.int .i64 8, .int .i64 b, .int .i64 c, .string d, .bool false, .int .i64 g, .int .i64 l, .int .i64 m, .bool u] := heap_alloc_new w _
  have hz1 : (encL [14, b, c, (d.size : Int)]).size ≤ 8 * 4 := encL_size _
  obtain ⟨E, hE⟩ : ∃ E, encL [14, b, c, (d.size : Int)] = E := ⟨_, rfl⟩
  rw [hE] at hz1 ⊢
  have HE := Lib.hid hE; clear hE
  have hsum : (9223372036854775807 < E.size + d.size) = False := by simp; omega
  go_enter Try.func27, Try.ntmps27
  go_wp2_with fail
  refine (sIs 8 b c d false g l m u hs _).mono ?_
  rintro x w1 ⟨rfl, hb1⟩
  rw [hf]
  have hk1 := hk0.below hb1 hk0.lt
  replace hb1 := below_next hb0 hb0.size hb1
  obtain ⟨c0, c1, c2, c3, c4, c5, c6, c7, c8⟩ := hk1.nine
  go_wp2_with fail
  have hn1 := nine_start hb1 hk1
  go_region_held3 (fun w' => Below w.heap.size w w' ∧ w.heap.size < w'.heap.size ∧ w'.cell? ⟨w.heap.size, 0, none⟩ = some (.int .i64 8) ∧ w'.cell? ⟨w.heap.size, 1, none⟩ = some (.int .i64 b) ∧ w'.cell? ⟨w.heap.size, 2, none⟩ = some (.int .i64 c) ∧ w'.cell? ⟨w.heap.size, 3, none⟩ = some (.string d) ∧ w'.cell? ⟨w.heap.size, 4, none⟩ = some (.bool false) ∧ w'.cell? ⟨w.heap.size, 5, none⟩ = some (.int .i64 g) ∧ w'.cell? ⟨w.heap.size, 6, none⟩ = some (.int .i64 l) ∧ w'.cell? ⟨w.heap.size, 7, none⟩ = some (.int .i64 m) ∧ w'.cell? ⟨w.heap.size, 8, none⟩ = some (.bool u)) (first | exact hn1 | exact nine_below (by assumption) hbQ | exact nine_alloc (by assumption) _ | assumption | go_keep) (first | (go_at_call 21; refine (sEncs_at [14, b, c, (d.size : Int)] (Nat.le_refl _) (rd_new _ [14, b, c, (d.size : Int)]) rfl ?_).mono ?_; (simp); rintro x wq ⟨rfl, hbQ⟩; rw [HE.out]) | (go_at_call 21; refine (sEncs_at [14, b, c, (d.size : Int)] (Nat.le_refl _) ((rd_new _ [14, b, c, (d.size : Int)]).drew) rfl ?_).mono ?_; (simp); rintro x wq ⟨rfl, hbQ⟩; rw [HE.out]))
  all_goals
    have hend : Below w.heap.size w _ := (by assumption : Nine w (.int .i64 8) (.int .i64 b) (.int .i64 c) (.string d) (.bool false) (.int .i64 g) (.int .i64 l) (.int .i64 m) (.bool u) _).1
    go_wp2
    go_ret
    exact ⟨rfl, hend⟩
set_option maxHeartbeats 1000000 in
theorem sEncF_8e1c1 (b : Int) (d : ByteArray) (g : Int) (l : Int) (m : Int) (u : Bool) (hs : d.size ≤ 1048576) (hf : isFB 8 b 0 d true g l m u = true) (w : World) :
    Calls Try.prog 27 #[.agg #[.int .i64 8, .int .i64 b, .int .i64 0, .string d, .bool true, .int .i64 g, .int .i64 l, .int .i64 m, .bool u]] w fun x w' => x = .returned (.string (encL [11, b, (d.size : Int)] ++ d)) ∧ Below w.heap.size w w' := by
  have hb0 : Below w.heap.size w (w.alloc (.cells #[.int .i64 8, .int .i64 b, .int .i64 0, .string d, .bool true, .int .i64 g, .int .i64 l, .int .i64 m, .bool u] 40)) := (Below.refl _ _).alloc (Nat.le_refl _) _
  have hk0 : Bk (w.alloc (.cells #[.int .i64 8, .int .i64 b, .int .i64 0, .string d, .bool true, .int .i64 g, .int .i64 l, .int .i64 m, .bool u] 40)) w.heap.size 40 #[.int .i64 8, .int .i64 b, .int .i64 0, .string d, .bool true, .int .i64 g, .int .i64 l, .int .i64 m, .bool u] := heap_alloc_new w _
  have hz1 : (encL [11, b, (d.size : Int)]).size ≤ 8 * 3 := encL_size _
  obtain ⟨E, hE⟩ : ∃ E, encL [11, b, (d.size : Int)] = E := ⟨_, rfl⟩
  rw [hE] at hz1 ⊢
  have HE := Lib.hid hE; clear hE
  have hsum : (9223372036854775807 < E.size + d.size) = False := by simp; omega
  go_enter Try.func27, Try.ntmps27
  go_wp2_with fail
  refine (sIs 8 b 0 d true g l m u hs _).mono ?_
  rintro x w1 ⟨rfl, hb1⟩
  rw [hf]
  have hk1 := hk0.below hb1 hk0.lt
  replace hb1 := below_next hb0 hb0.size hb1
  obtain ⟨c0, c1, c2, c3, c4, c5, c6, c7, c8⟩ := hk1.nine
  go_wp2_with fail
  have hn1 := nine_start hb1 hk1
  go_region_held3 (fun w' => Below w.heap.size w w' ∧ w.heap.size < w'.heap.size ∧ w'.cell? ⟨w.heap.size, 0, none⟩ = some (.int .i64 8) ∧ w'.cell? ⟨w.heap.size, 1, none⟩ = some (.int .i64 b) ∧ w'.cell? ⟨w.heap.size, 2, none⟩ = some (.int .i64 0) ∧ w'.cell? ⟨w.heap.size, 3, none⟩ = some (.string d) ∧ w'.cell? ⟨w.heap.size, 4, none⟩ = some (.bool true) ∧ w'.cell? ⟨w.heap.size, 5, none⟩ = some (.int .i64 g) ∧ w'.cell? ⟨w.heap.size, 6, none⟩ = some (.int .i64 l) ∧ w'.cell? ⟨w.heap.size, 7, none⟩ = some (.int .i64 m) ∧ w'.cell? ⟨w.heap.size, 8, none⟩ = some (.bool u)) (first | exact hn1 | exact nine_below (by assumption) hbQ | exact nine_alloc (by assumption) _ | assumption | go_keep) (first | (go_at_call 21; refine (sEncs_at [11, b, (d.size : Int)] (Nat.le_refl _) (rd_new _ [11, b, (d.size : Int)]) rfl ?_).mono ?_; (simp); rintro x wq ⟨rfl, hbQ⟩; rw [HE.out]) | (go_at_call 21; refine (sEncs_at [11, b, (d.size : Int)] (Nat.le_refl _) ((rd_new _ [11, b, (d.size : Int)]).drew) rfl ?_).mono ?_; (simp); rintro x wq ⟨rfl, hbQ⟩; rw [HE.out]))
  all_goals
    have hend : Below w.heap.size w _ := (by assumption : Nine w (.int .i64 8) (.int .i64 b) (.int .i64 0) (.string d) (.bool true) (.int .i64 g) (.int .i64 l) (.int .i64 m) (.bool u) _).1
    go_wp2
    go_ret
    exact ⟨rfl, hend⟩
set_option maxHeartbeats 1000000 in
theorem sEncF_8e1c0 (b : Int) (c : Int) (d : ByteArray) (g : Int) (l : Int) (m : Int) (u : Bool) (hs : d.size ≤ 1048576) (hf : isFB 8 b c d true g l m u = true) (hc : (c == 0) = false) (w : World) :
    Calls Try.prog 27 #[.agg #[.int .i64 8, .int .i64 b, .int .i64 c, .string d, .bool true, .int .i64 g, .int .i64 l, .int .i64 m, .bool u]] w fun x w' => x = .returned (.string (encL [15, b, c, (d.size : Int)] ++ d)) ∧ Below w.heap.size w w' := by
  have hb0 : Below w.heap.size w (w.alloc (.cells #[.int .i64 8, .int .i64 b, .int .i64 c, .string d, .bool true, .int .i64 g, .int .i64 l, .int .i64 m, .bool u] 40)) := (Below.refl _ _).alloc (Nat.le_refl _) _
  have hk0 : Bk (w.alloc (.cells #[.int .i64 8, .int .i64 b, .int .i64 c, .string d, .bool true, .int .i64 g, .int .i64 l, .int .i64 m, .bool u] 40)) w.heap.size 40 #[.int .i64 8, .int .i64 b, .int .i64 c, .string d, .bool true, .int .i64 g, .int .i64 l, .int .i64 m, .bool u] := heap_alloc_new w _
  have hz1 : (encL [15, b, c, (d.size : Int)]).size ≤ 8 * 4 := encL_size _
  obtain ⟨E, hE⟩ : ∃ E, encL [15, b, c, (d.size : Int)] = E := ⟨_, rfl⟩
  rw [hE] at hz1 ⊢
  have HE := Lib.hid hE; clear hE
  have hsum : (9223372036854775807 < E.size + d.size) = False := by simp; omega
  go_enter Try.func27, Try.ntmps27
  go_wp2_with fail
  refine (sIs 8 b c d true g l m u hs _).mono ?_
  rintro x w1 ⟨rfl, hb1⟩
  rw [hf]
  have hk1 := hk0.below hb1 hk0.lt
  replace hb1 := below_next hb0 hb0.size hb1
  obtain ⟨c0, c1, c2, c3, c4, c5, c6, c7, c8⟩ := hk1.nine
  go_wp2_with fail
  have hn1 := nine_start hb1 hk1
  go_region_held3 (fun w' => Below w.heap.size w w' ∧ w.heap.size < w'.heap.size ∧ w'.cell? ⟨w.heap.size, 0, none⟩ = some (.int .i64 8) ∧ w'.cell? ⟨w.heap.size, 1, none⟩ = some (.int .i64 b) ∧ w'.cell? ⟨w.heap.size, 2, none⟩ = some (.int .i64 c) ∧ w'.cell? ⟨w.heap.size, 3, none⟩ = some (.string d) ∧ w'.cell? ⟨w.heap.size, 4, none⟩ = some (.bool true) ∧ w'.cell? ⟨w.heap.size, 5, none⟩ = some (.int .i64 g) ∧ w'.cell? ⟨w.heap.size, 6, none⟩ = some (.int .i64 l) ∧ w'.cell? ⟨w.heap.size, 7, none⟩ = some (.int .i64 m) ∧ w'.cell? ⟨w.heap.size, 8, none⟩ = some (.bool u)) (first | exact hn1 | exact nine_below (by assumption) hbQ | exact nine_alloc (by assumption) _ | assumption | go_keep) (first | (go_at_call 21; refine (sEncs_at [15, b, c, (d.size : Int)] (Nat.le_refl _) (rd_new _ [15, b, c, (d.size : Int)]) rfl ?_).mono ?_; (simp); rintro x wq ⟨rfl, hbQ⟩; rw [HE.out]) | (go_at_call 21; refine (sEncs_at [15, b, c, (d.size : Int)] (Nat.le_refl _) ((rd_new _ [15, b, c, (d.size : Int)]).drew) rfl ?_).mono ?_; (simp); rintro x wq ⟨rfl, hbQ⟩; rw [HE.out]))
  all_goals
    have hend : Below w.heap.size w _ := (by assumption : Nine w (.int .i64 8) (.int .i64 b) (.int .i64 c) (.string d) (.bool true) (.int .i64 g) (.int .i64 l) (.int .i64 m) (.bool u) _).1
    go_wp2
    go_ret
    exact ⟨rfl, hend⟩
set_option maxHeartbeats 1000000 in
theorem sEncF_16 (b : Int) (c : Int) (d : ByteArray) (e : Bool) (g : Int) (l : Int) (m : Int) (u : Bool) (hs : d.size ≤ 1048576) (hf : isFB 16 b c d e g l m u = true) (w : World) :
    Calls Try.prog 27 #[.agg #[.int .i64 16, .int .i64 b, .int .i64 c, .string d, .bool e, .int .i64 g, .int .i64 l, .int .i64 m, .bool u]] w fun x w' => x = .returned (.string (encL [16, l])) ∧ Below w.heap.size w w' := by
  have hb0 : Below w.heap.size w (w.alloc (.cells #[.int .i64 16, .int .i64 b, .int .i64 c, .string d, .bool e, .int .i64 g, .int .i64 l, .int .i64 m, .bool u] 40)) := (Below.refl _ _).alloc (Nat.le_refl _) _
  have hk0 : Bk (w.alloc (.cells #[.int .i64 16, .int .i64 b, .int .i64 c, .string d, .bool e, .int .i64 g, .int .i64 l, .int .i64 m, .bool u] 40)) w.heap.size 40 #[.int .i64 16, .int .i64 b, .int .i64 c, .string d, .bool e, .int .i64 g, .int .i64 l, .int .i64 m, .bool u] := heap_alloc_new w _
  go_enter Try.func27, Try.ntmps27
  go_wp2_with fail
  refine (sIs 16 b c d e g l m u hs _).mono ?_
  rintro x w1 ⟨rfl, hb1⟩
  rw [hf]
  have hk1 := hk0.below hb1 hk0.lt
  replace hb1 := below_next hb0 hb0.size hb1
  obtain ⟨c0, c1, c2, c3, c4, c5, c6, c7, c8⟩ := hk1.nine
  go_wp2_with fail
  refine (sEncs_at [16, l] (Nat.le_refl _) (rd_new w1 [16, l]) rfl (by simp)).mono ?_
  rintro x w2 ⟨rfl, hb2⟩
  replace hb2 := below_next (hb1.alloc hb1.size _) (Nat.le_trans hb1.size (by simp)) hb2
  go_wp2
  go_ret
  exact ⟨rfl, hb2⟩
set_option maxHeartbeats 1000000 in
theorem sEncF_17 (b : Int) (c : Int) (d : ByteArray) (e : Bool) (g : Int) (l : Int) (m : Int) (u : Bool) (hs : d.size ≤ 1048576) (hf : isFB 17 b c d e g l m u = true) (w : World) :
    Calls Try.prog 27 #[.agg #[.int .i64 17, .int .i64 b, .int .i64 c, .string d, .bool e, .int .i64 g, .int .i64 l, .int .i64 m, .bool u]] w fun x w' => x = .returned (.string (encL [17, b, l])) ∧ Below w.heap.size w w' := by
  have hb0 : Below w.heap.size w (w.alloc (.cells #[.int .i64 17, .int .i64 b, .int .i64 c, .string d, .bool e, .int .i64 g, .int .i64 l, .int .i64 m, .bool u] 40)) := (Below.refl _ _).alloc (Nat.le_refl _) _
  have hk0 : Bk (w.alloc (.cells #[.int .i64 17, .int .i64 b, .int .i64 c, .string d, .bool e, .int .i64 g, .int .i64 l, .int .i64 m, .bool u] 40)) w.heap.size 40 #[.int .i64 17, .int .i64 b, .int .i64 c, .string d, .bool e, .int .i64 g, .int .i64 l, .int .i64 m, .bool u] := heap_alloc_new w _
  go_enter Try.func27, Try.ntmps27
  go_wp2_with fail
  refine (sIs 17 b c d e g l m u hs _).mono ?_
  rintro x w1 ⟨rfl, hb1⟩
  rw [hf]
  have hk1 := hk0.below hb1 hk0.lt
  replace hb1 := below_next hb0 hb0.size hb1
  obtain ⟨c0, c1, c2, c3, c4, c5, c6, c7, c8⟩ := hk1.nine
  go_wp2_with fail
  refine (sEncs_at [17, b, l] (Nat.le_refl _) (rd_new w1 [17, b, l]) rfl (by simp)).mono ?_
  rintro x w2 ⟨rfl, hb2⟩
  replace hb2 := below_next (hb1.alloc hb1.size _) (Nat.le_trans hb1.size (by simp)) hb2
  go_wp2
  go_ret
  exact ⟨rfl, hb2⟩
set_option maxHeartbeats 1000000 in
theorem sEncF_18u0 (b : Int) (c : Int) (d : ByteArray) (e : Bool) (g : Int) (l : Int) (m : Int) (hs : d.size ≤ 1048576) (hf : isFB 18 b c d e g l m false = true) (w : World) :
    Calls Try.prog 27 #[.agg #[.int .i64 18, .int .i64 b, .int .i64 c, .string d, .bool e, .int .i64 g, .int .i64 l, .int .i64 m, .bool false]] w fun x w' => x = .returned (.string (encL [18, l])) ∧ Below w.heap.size w w' := by
  have hb0 : Below w.heap.size w (w.alloc (.cells #[.int .i64 18, .int .i64 b, .int .i64 c, .string d, .bool e, .int .i64 g, .int .i64 l, .int .i64 m, .bool false] 40)) := (Below.refl _ _).alloc (Nat.le_refl _) _
  have hk0 : Bk (w.alloc (.cells #[.int .i64 18, .int .i64 b, .int .i64 c, .string d, .bool e, .int .i64 g, .int .i64 l, .int .i64 m, .bool false] 40)) w.heap.size 40 #[.int .i64 18, .int .i64 b, .int .i64 c, .string d, .bool e, .int .i64 g, .int .i64 l, .int .i64 m, .bool false] := heap_alloc_new w _
  go_enter Try.func27, Try.ntmps27
  go_wp2_with fail
  refine (sIs 18 b c d e g l m false hs _).mono ?_
  rintro x w1 ⟨rfl, hb1⟩
  rw [hf]
  have hk1 := hk0.below hb1 hk0.lt
  replace hb1 := below_next hb0 hb0.size hb1
  obtain ⟨c0, c1, c2, c3, c4, c5, c6, c7, c8⟩ := hk1.nine
  go_wp2_with fail
  refine (sEncs_at [18, l] (Nat.le_refl _) (rd_new w1 [18, l]) rfl (by simp)).mono ?_
  rintro x w2 ⟨rfl, hb2⟩
  replace hb2 := below_next (hb1.alloc hb1.size _) (Nat.le_trans hb1.size (by simp)) hb2
  go_wp2
  go_ret
  exact ⟨rfl, hb2⟩
set_option maxHeartbeats 1000000 in
theorem sEncF_18u1 (b : Int) (c : Int) (d : ByteArray) (e : Bool) (g : Int) (l : Int) (m : Int) (hs : d.size ≤ 1048576) (hf : isFB 18 b c d e g l m true = true) (w : World) :
    Calls Try.prog 27 #[.agg #[.int .i64 18, .int .i64 b, .int .i64 c, .string d, .bool e, .int .i64 g, .int .i64 l, .int .i64 m, .bool true]] w fun x w' => x = .returned (.string (encL [19, l])) ∧ Below w.heap.size w w' := by
  have hb0 : Below w.heap.size w (w.alloc (.cells #[.int .i64 18, .int .i64 b, .int .i64 c, .string d, .bool e, .int .i64 g, .int .i64 l, .int .i64 m, .bool true] 40)) := (Below.refl _ _).alloc (Nat.le_refl _) _
  have hk0 : Bk (w.alloc (.cells #[.int .i64 18, .int .i64 b, .int .i64 c, .string d, .bool e, .int .i64 g, .int .i64 l, .int .i64 m, .bool true] 40)) w.heap.size 40 #[.int .i64 18, .int .i64 b, .int .i64 c, .string d, .bool e, .int .i64 g, .int .i64 l, .int .i64 m, .bool true] := heap_alloc_new w _
  go_enter Try.func27, Try.ntmps27
  go_wp2_with fail
  refine (sIs 18 b c d e g l m true hs _).mono ?_
  rintro x w1 ⟨rfl, hb1⟩
  rw [hf]
  have hk1 := hk0.below hb1 hk0.lt
  replace hb1 := below_next hb0 hb0.size hb1
  obtain ⟨c0, c1, c2, c3, c4, c5, c6, c7, c8⟩ := hk1.nine
  go_wp2_with fail
  refine (sEncs_at [19, l] (Nat.le_refl _) (rd_new w1 [19, l]) rfl (by simp)).mono ?_
  rintro x w2 ⟨rfl, hb2⟩
  replace hb2 := below_next (hb1.alloc hb1.size _) (Nat.le_trans hb1.size (by simp)) hb2
  go_wp2
  go_ret
  exact ⟨rfl, hb2⟩
set_option maxHeartbeats 1000000 in
theorem sEncF_20 (b : Int) (c : Int) (d : ByteArray) (e : Bool) (g : Int) (l : Int) (m : Int) (u : Bool) (hs : d.size ≤ 1048576) (hf : isFB 20 b c d e g l m u = true) (w : World) :
    Calls Try.prog 27 #[.agg #[.int .i64 20, .int .i64 b, .int .i64 c, .string d, .bool e, .int .i64 g, .int .i64 l, .int .i64 m, .bool u]] w fun x w' => x = .returned (.string (encL [20, l])) ∧ Below w.heap.size w w' := by
  have hb0 : Below w.heap.size w (w.alloc (.cells #[.int .i64 20, .int .i64 b, .int .i64 c, .string d, .bool e, .int .i64 g, .int .i64 l, .int .i64 m, .bool u] 40)) := (Below.refl _ _).alloc (Nat.le_refl _) _
  have hk0 : Bk (w.alloc (.cells #[.int .i64 20, .int .i64 b, .int .i64 c, .string d, .bool e, .int .i64 g, .int .i64 l, .int .i64 m, .bool u] 40)) w.heap.size 40 #[.int .i64 20, .int .i64 b, .int .i64 c, .string d, .bool e, .int .i64 g, .int .i64 l, .int .i64 m, .bool u] := heap_alloc_new w _
  go_enter Try.func27, Try.ntmps27
  go_wp2_with fail
  refine (sIs 20 b c d e g l m u hs _).mono ?_
  rintro x w1 ⟨rfl, hb1⟩
  rw [hf]
  have hk1 := hk0.below hb1 hk0.lt
  replace hb1 := below_next hb0 hb0.size hb1
  obtain ⟨c0, c1, c2, c3, c4, c5, c6, c7, c8⟩ := hk1.nine
  go_wp2_with fail
  refine (sEncs_at [20, l] (Nat.le_refl _) (rd_new w1 [20, l]) rfl (by simp)).mono ?_
  rintro x w2 ⟨rfl, hb2⟩
  replace hb2 := below_next (hb1.alloc hb1.size _) (Nat.le_trans hb1.size (by simp)) hb2
  go_wp2
  go_ret
  exact ⟨rfl, hb2⟩
set_option maxHeartbeats 1000000 in
theorem sEncF_21 (b : Int) (c : Int) (d : ByteArray) (e : Bool) (g : Int) (l : Int) (m : Int) (u : Bool) (hs : d.size ≤ 1048576) (hf : isFB 21 b c d e g l m u = true) (w : World) :
    Calls Try.prog 27 #[.agg #[.int .i64 21, .int .i64 b, .int .i64 c, .string d, .bool e, .int .i64 g, .int .i64 l, .int .i64 m, .bool u]] w fun x w' => x = .returned (.string (encL [21, b, l])) ∧ Below w.heap.size w w' := by
  have hb0 : Below w.heap.size w (w.alloc (.cells #[.int .i64 21, .int .i64 b, .int .i64 c, .string d, .bool e, .int .i64 g, .int .i64 l, .int .i64 m, .bool u] 40)) := (Below.refl _ _).alloc (Nat.le_refl _) _
  have hk0 : Bk (w.alloc (.cells #[.int .i64 21, .int .i64 b, .int .i64 c, .string d, .bool e, .int .i64 g, .int .i64 l, .int .i64 m, .bool u] 40)) w.heap.size 40 #[.int .i64 21, .int .i64 b, .int .i64 c, .string d, .bool e, .int .i64 g, .int .i64 l, .int .i64 m, .bool u] := heap_alloc_new w _
  go_enter Try.func27, Try.ntmps27
  go_wp2_with fail
  refine (sIs 21 b c d e g l m u hs _).mono ?_
  rintro x w1 ⟨rfl, hb1⟩
  rw [hf]
  have hk1 := hk0.below hb1 hk0.lt
  replace hb1 := below_next hb0 hb0.size hb1
  obtain ⟨c0, c1, c2, c3, c4, c5, c6, c7, c8⟩ := hk1.nine
  go_wp2_with fail
  refine (sEncs_at [21, b, l] (Nat.le_refl _) (rd_new w1 [21, b, l]) rfl (by simp)).mono ?_
  rintro x w2 ⟨rfl, hb2⟩
  replace hb2 := below_next (hb1.alloc hb1.size _) (Nat.le_trans hb1.size (by simp)) hb2
  go_wp2
  go_ret
  exact ⟨rfl, hb2⟩
set_option maxHeartbeats 1000000 in
theorem sEncF_22u0 (b : Int) (c : Int) (d : ByteArray) (e : Bool) (g : Int) (l : Int) (m : Int) (hs : d.size ≤ 1048576) (hf : isFB 22 b c d e g l m false = true) (w : World) :
    Calls Try.prog 27 #[.agg #[.int .i64 22, .int .i64 b, .int .i64 c, .string d, .bool e, .int .i64 g, .int .i64 l, .int .i64 m, .bool false]] w fun x w' => x = .returned (.string (encL [22, l])) ∧ Below w.heap.size w w' := by
  have hb0 : Below w.heap.size w (w.alloc (.cells #[.int .i64 22, .int .i64 b, .int .i64 c, .string d, .bool e, .int .i64 g, .int .i64 l, .int .i64 m, .bool false] 40)) := (Below.refl _ _).alloc (Nat.le_refl _) _
  have hk0 : Bk (w.alloc (.cells #[.int .i64 22, .int .i64 b, .int .i64 c, .string d, .bool e, .int .i64 g, .int .i64 l, .int .i64 m, .bool false] 40)) w.heap.size 40 #[.int .i64 22, .int .i64 b, .int .i64 c, .string d, .bool e, .int .i64 g, .int .i64 l, .int .i64 m, .bool false] := heap_alloc_new w _
  go_enter Try.func27, Try.ntmps27
  go_wp2_with fail
  refine (sIs 22 b c d e g l m false hs _).mono ?_
  rintro x w1 ⟨rfl, hb1⟩
  rw [hf]
  have hk1 := hk0.below hb1 hk0.lt
  replace hb1 := below_next hb0 hb0.size hb1
  obtain ⟨c0, c1, c2, c3, c4, c5, c6, c7, c8⟩ := hk1.nine
  go_wp2_with fail
  refine (sEncs_at [22, l] (Nat.le_refl _) (rd_new w1 [22, l]) rfl (by simp)).mono ?_
  rintro x w2 ⟨rfl, hb2⟩
  replace hb2 := below_next (hb1.alloc hb1.size _) (Nat.le_trans hb1.size (by simp)) hb2
  go_wp2
  go_ret
  exact ⟨rfl, hb2⟩
set_option maxHeartbeats 1000000 in
theorem sEncF_22u1 (b : Int) (c : Int) (d : ByteArray) (e : Bool) (g : Int) (l : Int) (m : Int) (hs : d.size ≤ 1048576) (hf : isFB 22 b c d e g l m true = true) (w : World) :
    Calls Try.prog 27 #[.agg #[.int .i64 22, .int .i64 b, .int .i64 c, .string d, .bool e, .int .i64 g, .int .i64 l, .int .i64 m, .bool true]] w fun x w' => x = .returned (.string (encL [23, l])) ∧ Below w.heap.size w w' := by
  have hb0 : Below w.heap.size w (w.alloc (.cells #[.int .i64 22, .int .i64 b, .int .i64 c, .string d, .bool e, .int .i64 g, .int .i64 l, .int .i64 m, .bool true] 40)) := (Below.refl _ _).alloc (Nat.le_refl _) _
  have hk0 : Bk (w.alloc (.cells #[.int .i64 22, .int .i64 b, .int .i64 c, .string d, .bool e, .int .i64 g, .int .i64 l, .int .i64 m, .bool true] 40)) w.heap.size 40 #[.int .i64 22, .int .i64 b, .int .i64 c, .string d, .bool e, .int .i64 g, .int .i64 l, .int .i64 m, .bool true] := heap_alloc_new w _
  go_enter Try.func27, Try.ntmps27
  go_wp2_with fail
  refine (sIs 22 b c d e g l m true hs _).mono ?_
  rintro x w1 ⟨rfl, hb1⟩
  rw [hf]
  have hk1 := hk0.below hb1 hk0.lt
  replace hb1 := below_next hb0 hb0.size hb1
  obtain ⟨c0, c1, c2, c3, c4, c5, c6, c7, c8⟩ := hk1.nine
  go_wp2_with fail
  refine (sEncs_at [23, l] (Nat.le_refl _) (rd_new w1 [23, l]) rfl (by simp)).mono ?_
  rintro x w2 ⟨rfl, hb2⟩
  replace hb2 := below_next (hb1.alloc hb1.size _) (Nat.le_trans hb1.size (by simp)) hb2
  go_wp2
  go_ret
  exact ⟨rfl, hb2⟩
end Go.Proofs.Ytadoiehgobcjcaa
