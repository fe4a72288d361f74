/- impl.EncodeFrame of a valid frame, one contract a kind. No conditions. -/
import Derived.Test.YtadoiehgobcjcaaF5
namespace Go.Proofs.Ytadoiehgobcjcaa
open Go.ChangeShapes Go.WideShapes Go.ChangeAt Go.RowKit Go.Sort QM
set_option linter.unusedVariables false
set_option linter.unusedSimpArgs false
set_option maxHeartbeats 2000000 in
theorem iEncF_4 (b : Int) (c : Int) (d : ByteArray) (e : Bool) (g : Int) (l : Int) (m : Int) (u : Bool) (hs : d.size ≤ 1048576) (hf : isFB 4 b c d e g l m u = true) (w : World) :
    Calls Try.prog 25 #[.agg #[.int .i64 4, .int .i64 b, .int .i64 c, .string d, .bool e, .int .i64 g, .int .i64 l, .int .i64 m, .bool u]] w fun x w' => x = .returned (.string (one1 4 ++ encL [b, g, m])) ∧ Below w.heap.size w w' := by
  have hb0 : Below w.heap.size w (w.alloc (.cells #[.int .i64 4, .int .i64 b, .int .i64 c, .string d, .bool e, .int .i64 g, .int .i64 l, .int .i64 m, .bool u] 40)) := (Below.refl _ _).alloc (Nat.le_refl _) _
  have hk0 : Bk (w.alloc (.cells #[.int .i64 4, .int .i64 b, .int .i64 c, .string d, .bool e, .int .i64 g, .int .i64 l, .int .i64 m, .bool u] 40)) w.heap.size 40 #[.int .i64 4, .int .i64 b, .int .i64 c, .string d, .bool e, .int .i64 g, .int .i64 l, .int .i64 m, .bool u] := heap_alloc_new w _
  have hz0 : (one1 4).size = 1 := rfl
  have hz1 : (encL [b, g, m]).size ≤ 8 * 3 := encL_size _
  obtain ⟨E, hE⟩ : ∃ E, encL [b, g, m] = E := ⟨_, rfl⟩
  rw [hE] at hz1 ⊢
  have HE := Lib.hid hE; clear hE
  obtain ⟨O, hO⟩ : ∃ O, one1 4 = O := ⟨_, rfl⟩
  rw [hO] at hz0 ⊢
  have HO := Lib.hid hO; clear hO
  have hsum : (9223372036854775807 < O.size + E.size) = False := by simp; omega
  have hsum1 : (9223372036854775807 < 1 + E.size) = False := by simp; omega
  go_enter Try.func25, Try.ntmps25
  go_wp2_with fail
  refine (iIs 4 b c d e g l m u hs _).mono ?_
  rintro x w1 ⟨rfl, hb1⟩
  rw [hf]
  have hk1 := hk0.below hb1 hk0.lt
  replace hb1 := below_next hb0 hb0.size hb1
  have hn1 := nine_start hb1 hk1
  obtain ⟨c0, c1, c2, c3, c4, c5, c6, c7, c8⟩ := hk1.nine
  go_wp2_with fail
  go_region_held3 (fun w' => Below w.heap.size w w' ∧ w.heap.size < w'.heap.size ∧ w'.cell? ⟨w.heap.size, 0, none⟩ = some (.int .i64 4) ∧ w'.cell? ⟨w.heap.size, 1, none⟩ = some (.int .i64 b) ∧ w'.cell? ⟨w.heap.size, 2, none⟩ = some (.int .i64 c) ∧ w'.cell? ⟨w.heap.size, 3, none⟩ = some (.string d) ∧ w'.cell? ⟨w.heap.size, 4, none⟩ = some (.bool e) ∧ w'.cell? ⟨w.heap.size, 5, none⟩ = some (.int .i64 g) ∧ w'.cell? ⟨w.heap.size, 6, none⟩ = some (.int .i64 l) ∧ w'.cell? ⟨w.heap.size, 7, none⟩ = some (.int .i64 m) ∧ w'.cell? ⟨w.heap.size, 8, none⟩ = some (.bool u)) (first | exact hn1 | exact nine_below (by assumption) hbQ | exact nine_below (by assumption) hbK | exact nine_alloc (by assumption) _ | assumption | go_keep) (first | (go_at_call 56; refine (iKindF _ 4 rfl (by decide) _).mono ?_; rintro x wk ⟨rfl, hbK⟩; rw [HO.out]) | (go_at_call 16; refine (iEncs_at [b, g, m] (Nat.le_refl _) (rd_new _ [b, g, m]) rfl ?_).mono ?_; (simp); rintro x wq ⟨rfl, hbQ⟩; rw [HE.out]) | (go_at_call 16; refine (iEncs_at [b, g, m] (Nat.le_refl _) ((rd_new _ [b, g, m]).drew) rfl ?_).mono ?_; (simp); rintro x wq ⟨rfl, hbQ⟩; rw [HE.out]) | (go_at_call 16; refine (iEncs_at [b, g, m] hbK.size ((rd_new _ [b, g, m]).below hbK (Nat.le_refl _)) rfl ?_).mono ?_; (simp); rintro x wq ⟨rfl, hbQ⟩; rw [HE.out]) | (go_at_call 16; refine (iEncs_at [b, g, m] hbK.size (((rd_new _ [b, g, m]).drew).below hbK (Nat.le_refl _)) rfl ?_).mono ?_; (simp); rintro x wq ⟨rfl, hbQ⟩; rw [HE.out]))
  all_goals
    have hend : Below w.heap.size w _ := (by assumption : Nine w (.int .i64 4) (.int .i64 b) (.int .i64 c) (.string d) (.bool e) (.int .i64 g) (.int .i64 l) (.int .i64 m) (.bool u) _).1
    go_wp2
    go_ret
    exact ⟨rfl, hend⟩
set_option maxHeartbeats 2000000 in
theorem iEncF_5 (b : Int) (c : Int) (d : ByteArray) (e : Bool) (g : Int) (l : Int) (m : Int) (u : Bool) (hs : d.size ≤ 1048576) (hf : isFB 5 b c d e g l m u = true) (w : World) :
    Calls Try.prog 25 #[.agg #[.int .i64 5, .int .i64 b, .int .i64 c, .string d, .bool e, .int .i64 g, .int .i64 l, .int .i64 m, .bool u]] w fun x w' => x = .returned (.string (one1 5 ++ encL [b, g])) ∧ Below w.heap.size w w' := by
  have hb0 : Below w.heap.size w (w.alloc (.cells #[.int .i64 5, .int .i64 b, .int .i64 c, .string d, .bool e, .int .i64 g, .int .i64 l, .int .i64 m, .bool u] 40)) := (Below.refl _ _).alloc (Nat.le_refl _) _
  have hk0 : Bk (w.alloc (.cells #[.int .i64 5, .int .i64 b, .int .i64 c, .string d, .bool e, .int .i64 g, .int .i64 l, .int .i64 m, .bool u] 40)) w.heap.size 40 #[.int .i64 5, .int .i64 b, .int .i64 c, .string d, .bool e, .int .i64 g, .int .i64 l, .int .i64 m, .bool u] := heap_alloc_new w _
  have hz0 : (one1 5).size = 1 := rfl
  have hz1 : (encL [b, g]).size ≤ 8 * 2 := encL_size _
  obtain ⟨E, hE⟩ : ∃ E, encL [b, g] = E := ⟨_, rfl⟩
  rw [hE] at hz1 ⊢
  have HE := Lib.hid hE; clear hE
  obtain ⟨O, hO⟩ : ∃ O, one1 5 = O := ⟨_, rfl⟩
  rw [hO] at hz0 ⊢
  have HO := Lib.hid hO; clear hO
  have hsum : (9223372036854775807 < O.size + E.size) = False := by simp; omega
  have hsum1 : (9223372036854775807 < 1 + E.size) = False := by simp; omega
  go_enter Try.func25, Try.ntmps25
  go_wp2_with fail
  refine (iIs 5 b c d e g l m u hs _).mono ?_
  rintro x w1 ⟨rfl, hb1⟩
  rw [hf]
  have hk1 := hk0.below hb1 hk0.lt
  replace hb1 := below_next hb0 hb0.size hb1
  have hn1 := nine_start hb1 hk1
  obtain ⟨c0, c1, c2, c3, c4, c5, c6, c7, c8⟩ := hk1.nine
  go_wp2_with fail
  go_region_held3 (fun w' => Below w.heap.size w w' ∧ w.heap.size < w'.heap.size ∧ w'.cell? ⟨w.heap.size, 0, none⟩ = some (.int .i64 5) ∧ w'.cell? ⟨w.heap.size, 1, none⟩ = some (.int .i64 b) ∧ w'.cell? ⟨w.heap.size, 2, none⟩ = some (.int .i64 c) ∧ w'.cell? ⟨w.heap.size, 3, none⟩ = some (.string d) ∧ w'.cell? ⟨w.heap.size, 4, none⟩ = some (.bool e) ∧ w'.cell? ⟨w.heap.size, 5, none⟩ = some (.int .i64 g) ∧ w'.cell? ⟨w.heap.size, 6, none⟩ = some (.int .i64 l) ∧ w'.cell? ⟨w.heap.size, 7, none⟩ = some (.int .i64 m) ∧ w'.cell? ⟨w.heap.size, 8, none⟩ = some (.bool u)) (first | exact hn1 | exact nine_below (by assumption) hbQ | exact nine_below (by assumption) hbK | exact nine_alloc (by assumption) _ | assumption | go_keep) (first | (go_at_call 56; refine (iKindF _ 5 rfl (by decide) _).mono ?_; rintro x wk ⟨rfl, hbK⟩; rw [HO.out]) | (go_at_call 16; refine (iEncs_at [b, g] (Nat.le_refl _) (rd_new _ [b, g]) rfl ?_).mono ?_; (simp); rintro x wq ⟨rfl, hbQ⟩; rw [HE.out]) | (go_at_call 16; refine (iEncs_at [b, g] (Nat.le_refl _) ((rd_new _ [b, g]).drew) rfl ?_).mono ?_; (simp); rintro x wq ⟨rfl, hbQ⟩; rw [HE.out]) | (go_at_call 16; refine (iEncs_at [b, g] hbK.size ((rd_new _ [b, g]).below hbK (Nat.le_refl _)) rfl ?_).mono ?_; (simp); rintro x wq ⟨rfl, hbQ⟩; rw [HE.out]) | (go_at_call 16; refine (iEncs_at [b, g] hbK.size (((rd_new _ [b, g]).drew).below hbK (Nat.le_refl _)) rfl ?_).mono ?_; (simp); rintro x wq ⟨rfl, hbQ⟩; rw [HE.out]))
  all_goals
    have hend : Below w.heap.size w _ := (by assumption : Nine w (.int .i64 5) (.int .i64 b) (.int .i64 c) (.string d) (.bool e) (.int .i64 g) (.int .i64 l) (.int .i64 m) (.bool u) _).1
    go_wp2
    go_ret
    exact ⟨rfl, hend⟩
set_option maxHeartbeats 2000000 in
theorem iEncF_16 (b : Int) (c : Int) (d : ByteArray) (e : Bool) (g : Int) (l : Int) (m : Int) (u : Bool) (hs : d.size ≤ 1048576) (hf : isFB 16 b c d e g l m u = true) (w : World) :
    Calls Try.prog 25 #[.agg #[.int .i64 16, .int .i64 b, .int .i64 c, .string d, .bool e, .int .i64 g, .int .i64 l, .int .i64 m, .bool u]] w fun x w' => x = .returned (.string (one1 16 ++ encI l)) ∧ Below w.heap.size w w' := by
  have hb0 : Below w.heap.size w (w.alloc (.cells #[.int .i64 16, .int .i64 b, .int .i64 c, .string d, .bool e, .int .i64 g, .int .i64 l, .int .i64 m, .bool u] 40)) := (Below.refl _ _).alloc (Nat.le_refl _) _
  have hk0 : Bk (w.alloc (.cells #[.int .i64 16, .int .i64 b, .int .i64 c, .string d, .bool e, .int .i64 g, .int .i64 l, .int .i64 m, .bool u] 40)) w.heap.size 40 #[.int .i64 16, .int .i64 b, .int .i64 c, .string d, .bool e, .int .i64 g, .int .i64 l, .int .i64 m, .bool u] := heap_alloc_new w _
  have hz0 : (one1 16).size = 1 := rfl
  have hz1 : (encI l).size ≤ 8 * 1 := encI_size _
  obtain ⟨E, hE⟩ : ∃ E, encI l = E := ⟨_, rfl⟩
  rw [hE] at hz1 ⊢
  have HE := Lib.hid hE; clear hE
  obtain ⟨O, hO⟩ : ∃ O, one1 16 = O := ⟨_, rfl⟩
  rw [hO] at hz0 ⊢
  have HO := Lib.hid hO; clear hO
  have hsum : (9223372036854775807 < O.size + E.size) = False := by simp; omega
  have hsum1 : (9223372036854775807 < 1 + E.size) = False := by simp; omega
  go_enter Try.func25, Try.ntmps25
  go_wp2_with fail
  refine (iIs 16 b c d e g l m u hs _).mono ?_
  rintro x w1 ⟨rfl, hb1⟩
  rw [hf]
  have hk1 := hk0.below hb1 hk0.lt
  replace hb1 := below_next hb0 hb0.size hb1
  have hn1 := nine_start hb1 hk1
  obtain ⟨c0, c1, c2, c3, c4, c5, c6, c7, c8⟩ := hk1.nine
  go_wp2_with fail
  go_region_held3 (fun w' => Below w.heap.size w w' ∧ w.heap.size < w'.heap.size ∧ w'.cell? ⟨w.heap.size, 0, none⟩ = some (.int .i64 16) ∧ w'.cell? ⟨w.heap.size, 1, none⟩ = some (.int .i64 b) ∧ w'.cell? ⟨w.heap.size, 2, none⟩ = some (.int .i64 c) ∧ w'.cell? ⟨w.heap.size, 3, none⟩ = some (.string d) ∧ w'.cell? ⟨w.heap.size, 4, none⟩ = some (.bool e) ∧ w'.cell? ⟨w.heap.size, 5, none⟩ = some (.int .i64 g) ∧ w'.cell? ⟨w.heap.size, 6, none⟩ = some (.int .i64 l) ∧ w'.cell? ⟨w.heap.size, 7, none⟩ = some (.int .i64 m) ∧ w'.cell? ⟨w.heap.size, 8, none⟩ = some (.bool u)) (first | exact hn1 | exact nine_below (by assumption) hbQ | exact nine_below (by assumption) hbK | exact nine_alloc (by assumption) _ | assumption | go_keep) (first | (go_at_call 56; refine (iKindF _ 16 rfl (by decide) _).mono ?_; rintro x wk ⟨rfl, hbK⟩; rw [HO.out]) | (go_at_call 8; refine (iEncI _ _).mono ?_; rintro x wq ⟨rfl, hbQ⟩; rw [HE.out]))
  all_goals
    have hend : Below w.heap.size w _ := (by assumption : Nine w (.int .i64 16) (.int .i64 b) (.int .i64 c) (.string d) (.bool e) (.int .i64 g) (.int .i64 l) (.int .i64 m) (.bool u) _).1
    go_wp2
    go_ret
    exact ⟨rfl, hend⟩
set_option maxHeartbeats 2000000 in
theorem iEncF_17 (b : Int) (c : Int) (d : ByteArray) (e : Bool) (g : Int) (l : Int) (m : Int) (u : Bool) (hs : d.size ≤ 1048576) (hf : isFB 17 b c d e g l m u = true) (w : World) :
    Calls Try.prog 25 #[.agg #[.int .i64 17, .int .i64 b, .int .i64 c, .string d, .bool e, .int .i64 g, .int .i64 l, .int .i64 m, .bool u]] w fun x w' => x = .returned (.string (one1 17 ++ encL [b, l])) ∧ Below w.heap.size w w' := by
  have hb0 : Below w.heap.size w (w.alloc (.cells #[.int .i64 17, .int .i64 b, .int .i64 c, .string d, .bool e, .int .i64 g, .int .i64 l, .int .i64 m, .bool u] 40)) := (Below.refl _ _).alloc (Nat.le_refl _) _
  have hk0 : Bk (w.alloc (.cells #[.int .i64 17, .int .i64 b, .int .i64 c, .string d, .bool e, .int .i64 g, .int .i64 l, .int .i64 m, .bool u] 40)) w.heap.size 40 #[.int .i64 17, .int .i64 b, .int .i64 c, .string d, .bool e, .int .i64 g, .int .i64 l, .int .i64 m, .bool u] := heap_alloc_new w _
  have hz0 : (one1 17).size = 1 := rfl
  have hz1 : (encL [b, l]).size ≤ 8 * 2 := encL_size _
  obtain ⟨E, hE⟩ : ∃ E, encL [b, l] = E := ⟨_, rfl⟩
  rw [hE] at hz1 ⊢
  have HE := Lib.hid hE; clear hE
  obtain ⟨O, hO⟩ : ∃ O, one1 17 = O := ⟨_, rfl⟩
  rw [hO] at hz0 ⊢
  have HO := Lib.hid hO; clear hO
  have hsum : (9223372036854775807 < O.size + E.size) = False := by simp; omega
  have hsum1 : (9223372036854775807 < 1 + E.size) = False := by simp; omega
  go_enter Try.func25, Try.ntmps25
  go_wp2_with fail
  refine (iIs 17 b c d e g l m u hs _).mono ?_
  rintro x w1 ⟨rfl, hb1⟩
  rw [hf]
  have hk1 := hk0.below hb1 hk0.lt
  replace hb1 := below_next hb0 hb0.size hb1
  have hn1 := nine_start hb1 hk1
  obtain ⟨c0, c1, c2, c3, c4, c5, c6, c7, c8⟩ := hk1.nine
  go_wp2_with fail
  go_region_held3 (fun w' => Below w.heap.size w w' ∧ w.heap.size < w'.heap.size ∧ w'.cell? ⟨w.heap.size, 0, none⟩ = some (.int .i64 17) ∧ w'.cell? ⟨w.heap.size, 1, none⟩ = some (.int .i64 b) ∧ w'.cell? ⟨w.heap.size, 2, none⟩ = some (.int .i64 c) ∧ w'.cell? ⟨w.heap.size, 3, none⟩ = some (.string d) ∧ w'.cell? ⟨w.heap.size, 4, none⟩ = some (.bool e) ∧ w'.cell? ⟨w.heap.size, 5, none⟩ = some (.int .i64 g) ∧ w'.cell? ⟨w.heap.size, 6, none⟩ = some (.int .i64 l) ∧ w'.cell? ⟨w.heap.size, 7, none⟩ = some (.int .i64 m) ∧ w'.cell? ⟨w.heap.size, 8, none⟩ = some (.bool u)) (first | exact hn1 | exact nine_below (by assumption) hbQ | exact nine_below (by assumption) hbK | exact nine_alloc (by assumption) _ | assumption | go_keep) (first | (go_at_call 56; refine (iKindF _ 17 rfl (by decide) _).mono ?_; rintro x wk ⟨rfl, hbK⟩; rw [HO.out]) | (go_at_call 16; refine (iEncs_at [b, l] (Nat.le_refl _) (rd_new _ [b, l]) rfl ?_).mono ?_; (simp); rintro x wq ⟨rfl, hbQ⟩; rw [HE.out]) | (go_at_call 16; refine (iEncs_at [b, l] (Nat.le_refl _) ((rd_new _ [b, l]).drew) rfl ?_).mono ?_; (simp); rintro x wq ⟨rfl, hbQ⟩; rw [HE.out]) | (go_at_call 16; refine (iEncs_at [b, l] hbK.size ((rd_new _ [b, l]).below hbK (Nat.le_refl _)) rfl ?_).mono ?_; (simp); rintro x wq ⟨rfl, hbQ⟩; rw [HE.out]) | (go_at_call 16; refine (iEncs_at [b, l] hbK.size (((rd_new _ [b, l]).drew).below hbK (Nat.le_refl _)) rfl ?_).mono ?_; (simp); rintro x wq ⟨rfl, hbQ⟩; rw [HE.out]))
  all_goals
    have hend : Below w.heap.size w _ := (by assumption : Nine w (.int .i64 17) (.int .i64 b) (.int .i64 c) (.string d) (.bool e) (.int .i64 g) (.int .i64 l) (.int .i64 m) (.bool u) _).1
    go_wp2
    go_ret
    exact ⟨rfl, hend⟩
set_option maxHeartbeats 2000000 in
theorem iEncF_18u0 (b : Int) (c : Int) (d : ByteArray) (e : Bool) (g : Int) (l : Int) (m : Int) (hs : d.size ≤ 1048576) (hf : isFB 18 b c d e g l m false = true) (w : World) :
    Calls Try.prog 25 #[.agg #[.int .i64 18, .int .i64 b, .int .i64 c, .string d, .bool e, .int .i64 g, .int .i64 l, .int .i64 m, .bool false]] w fun x w' => x = .returned (.string (one1 18 ++ encI l)) ∧ Below w.heap.size w w' := by
  have hb0 : Below w.heap.size w (w.alloc (.cells #[.int .i64 18, .int .i64 b, .int .i64 c, .string d, .bool e, .int .i64 g, .int .i64 l, .int .i64 m, .bool false] 40)) := (Below.refl _ _).alloc (Nat.le_refl _) _
  have hk0 : Bk (w.alloc (.cells #[.int .i64 18, .int .i64 b, .int .i64 c, .string d, .bool e, .int .i64 g, .int .i64 l, .int .i64 m, .bool false] 40)) w.heap.size 40 #[.int .i64 18, .int .i64 b, .int .i64 c, .string d, .bool e, .int .i64 g, .int .i64 l, .int .i64 m, .bool false] := heap_alloc_new w _
  have hz0 : (one1 18).size = 1 := rfl
  have hz1 : (encI l).size ≤ 8 * 1 := encI_size _
  obtain ⟨E, hE⟩ : ∃ E, encI l = E := ⟨_, rfl⟩
  rw [hE] at hz1 ⊢
  have HE := Lib.hid hE; clear hE
  obtain ⟨O, hO⟩ : ∃ O, one1 18 = O := ⟨_, rfl⟩
  rw [hO] at hz0 ⊢
  have HO := Lib.hid hO; clear hO
  have hsum : (9223372036854775807 < O.size + E.size) = False := by simp; omega
  have hsum1 : (9223372036854775807 < 1 + E.size) = False := by simp; omega
  go_enter Try.func25, Try.ntmps25
  go_wp2_with fail
  refine (iIs 18 b c d e g l m false hs _).mono ?_
  rintro x w1 ⟨rfl, hb1⟩
  rw [hf]
  have hk1 := hk0.below hb1 hk0.lt
  replace hb1 := below_next hb0 hb0.size hb1
  have hn1 := nine_start hb1 hk1
  obtain ⟨c0, c1, c2, c3, c4, c5, c6, c7, c8⟩ := hk1.nine
  go_wp2_with fail
  go_region_held3 (fun w' => Below w.heap.size w w' ∧ w.heap.size < w'.heap.size ∧ w'.cell? ⟨w.heap.size, 0, none⟩ = some (.int .i64 18) ∧ w'.cell? ⟨w.heap.size, 1, none⟩ = some (.int .i64 b) ∧ w'.cell? ⟨w.heap.size, 2, none⟩ = some (.int .i64 c) ∧ w'.cell? ⟨w.heap.size, 3, none⟩ = some (.string d) ∧ w'.cell? ⟨w.heap.size, 4, none⟩ = some (.bool e) ∧ w'.cell? ⟨w.heap.size, 5, none⟩ = some (.int .i64 g) ∧ w'.cell? ⟨w.heap.size, 6, none⟩ = some (.int .i64 l) ∧ w'.cell? ⟨w.heap.size, 7, none⟩ = some (.int .i64 m) ∧ w'.cell? ⟨w.heap.size, 8, none⟩ = some (.bool false)) (first | exact hn1 | exact nine_below (by assumption) hbQ | exact nine_below (by assumption) hbK | exact nine_alloc (by assumption) _ | assumption | go_keep) (first | (go_at_call 56; refine (iKindF _ 18 rfl (by decide) _).mono ?_; rintro x wk ⟨rfl, hbK⟩; rw [HO.out]) | (go_at_call 8; refine (iEncI _ _).mono ?_; rintro x wq ⟨rfl, hbQ⟩; rw [HE.out]) | (go_at_call 57; refine (iOne _ _).mono ?_; rintro x w' ⟨rfl, rfl⟩))
  all_goals
    have hend : Below w.heap.size w _ := (by assumption : Nine w (.int .i64 18) (.int .i64 b) (.int .i64 c) (.string d) (.bool e) (.int .i64 g) (.int .i64 l) (.int .i64 m) (.bool false) _).1
    go_wp2
    go_ret
    exact ⟨rfl, hend⟩
set_option maxHeartbeats 2000000 in
theorem iEncF_18u1 (b : Int) (c : Int) (d : ByteArray) (e : Bool) (g : Int) (l : Int) (m : Int) (hs : d.size ≤ 1048576) (hf : isFB 18 b c d e g l m true = true) (w : World) :
    Calls Try.prog 25 #[.agg #[.int .i64 18, .int .i64 b, .int .i64 c, .string d, .bool e, .int .i64 g, .int .i64 l, .int .i64 m, .bool true]] w fun x w' => x = .returned (.string (one1 19 ++ encI l)) ∧ Below w.heap.size w w' := by
  have hb0 : Below w.heap.size w (w.alloc (.cells #[.int .i64 18, .int .i64 b, .int .i64 c, .string d, .bool e, .int .i64 g, .int .i64 l, .int .i64 m, .bool true] 40)) := (Below.refl _ _).alloc (Nat.le_refl _) _
  have hk0 : Bk (w.alloc (.cells #[.int .i64 18, .int .i64 b, .int .i64 c, .string d, .bool e, .int .i64 g, .int .i64 l, .int .i64 m, .bool true] 40)) w.heap.size 40 #[.int .i64 18, .int .i64 b, .int .i64 c, .string d, .bool e, .int .i64 g, .int .i64 l, .int .i64 m, .bool true] := heap_alloc_new w _
  have hz0 : (one1 19).size = 1 := rfl
  have hz1 : (encI l).size ≤ 8 * 1 := encI_size _
  obtain ⟨E, hE⟩ : ∃ E, encI l = E := ⟨_, rfl⟩
  rw [hE] at hz1 ⊢
  have HE := Lib.hid hE; clear hE
  obtain ⟨O, hO⟩ : ∃ O, one1 19 = O := ⟨_, rfl⟩
  rw [hO] at hz0 ⊢
  have HO := Lib.hid hO; clear hO
  have hsum : (9223372036854775807 < O.size + E.size) = False := by simp; omega
  have hsum1 : (9223372036854775807 < 1 + E.size) = False := by simp; omega
  go_enter Try.func25, Try.ntmps25
  go_wp2_with fail
  refine (iIs 18 b c d e g l m true hs _).mono ?_
  rintro x w1 ⟨rfl, hb1⟩
  rw [hf]
  have hk1 := hk0.below hb1 hk0.lt
  replace hb1 := below_next hb0 hb0.size hb1
  have hn1 := nine_start hb1 hk1
  obtain ⟨c0, c1, c2, c3, c4, c5, c6, c7, c8⟩ := hk1.nine
  go_wp2_with fail
  go_region_held3 (fun w' => Below w.heap.size w w' ∧ w.heap.size < w'.heap.size ∧ w'.cell? ⟨w.heap.size, 0, none⟩ = some (.int .i64 18) ∧ w'.cell? ⟨w.heap.size, 1, none⟩ = some (.int .i64 b) ∧ w'.cell? ⟨w.heap.size, 2, none⟩ = some (.int .i64 c) ∧ w'.cell? ⟨w.heap.size, 3, none⟩ = some (.string d) ∧ w'.cell? ⟨w.heap.size, 4, none⟩ = some (.bool e) ∧ w'.cell? ⟨w.heap.size, 5, none⟩ = some (.int .i64 g) ∧ w'.cell? ⟨w.heap.size, 6, none⟩ = some (.int .i64 l) ∧ w'.cell? ⟨w.heap.size, 7, none⟩ = some (.int .i64 m) ∧ w'.cell? ⟨w.heap.size, 8, none⟩ = some (.bool true)) (first | exact hn1 | exact nine_below (by assumption) hbQ | exact nine_below (by assumption) hbK | exact nine_alloc (by assumption) _ | assumption | go_keep) (first | (go_at_call 56; refine (iKindF _ 19 rfl (by decide) _).mono ?_; rintro x wk ⟨rfl, hbK⟩; rw [HO.out]) | (go_at_call 8; refine (iEncI _ _).mono ?_; rintro x wq ⟨rfl, hbQ⟩; rw [HE.out]) | (go_at_call 57; refine (iOne _ _).mono ?_; rintro x w' ⟨rfl, rfl⟩))
  all_goals
    have hend : Below w.heap.size w _ := (by assumption : Nine w (.int .i64 18) (.int .i64 b) (.int .i64 c) (.string d) (.bool e) (.int .i64 g) (.int .i64 l) (.int .i64 m) (.bool true) _).1
    go_wp2
    go_ret
    exact ⟨rfl, hend⟩
set_option maxHeartbeats 2000000 in
theorem iEncF_20 (b : Int) (c : Int) (d : ByteArray) (e : Bool) (g : Int) (l : Int) (m : Int) (u : Bool) (hs : d.size ≤ 1048576) (hf : isFB 20 b c d e g l m u = true) (w : World) :
    Calls Try.prog 25 #[.agg #[.int .i64 20, .int .i64 b, .int .i64 c, .string d, .bool e, .int .i64 g, .int .i64 l, .int .i64 m, .bool u]] w fun x w' => x = .returned (.string (one1 20 ++ encI l)) ∧ Below w.heap.size w w' := by
  have hb0 : Below w.heap.size w (w.alloc (.cells #[.int .i64 20, .int .i64 b, .int .i64 c, .string d, .bool e, .int .i64 g, .int .i64 l, .int .i64 m, .bool u] 40)) := (Below.refl _ _).alloc (Nat.le_refl _) _
  have hk0 : Bk (w.alloc (.cells #[.int .i64 20, .int .i64 b, .int .i64 c, .string d, .bool e, .int .i64 g, .int .i64 l, .int .i64 m, .bool u] 40)) w.heap.size 40 #[.int .i64 20, .int .i64 b, .int .i64 c, .string d, .bool e, .int .i64 g, .int .i64 l, .int .i64 m, .bool u] := heap_alloc_new w _
  have hz0 : (one1 20).size = 1 := rfl
  have hz1 : (encI l).size ≤ 8 * 1 := encI_size _
  obtain ⟨E, hE⟩ : ∃ E, encI l = E := ⟨_, rfl⟩
  rw [hE] at hz1 ⊢
  have HE := Lib.hid hE; clear hE
  obtain ⟨O, hO⟩ : ∃ O, one1 20 = O := ⟨_, rfl⟩
  rw [hO] at hz0 ⊢
  have HO := Lib.hid hO; clear hO
  have hsum : (9223372036854775807 < O.size + E.size) = False := by simp; omega
  have hsum1 : (9223372036854775807 < 1 + E.size) = False := by simp; omega
  go_enter Try.func25, Try.ntmps25
  go_wp2_with fail
  refine (iIs 20 b c d e g l m u hs _).mono ?_
  rintro x w1 ⟨rfl, hb1⟩
  rw [hf]
  have hk1 := hk0.below hb1 hk0.lt
  replace hb1 := below_next hb0 hb0.size hb1
  have hn1 := nine_start hb1 hk1
  obtain ⟨c0, c1, c2, c3, c4, c5, c6, c7, c8⟩ := hk1.nine
  go_wp2_with fail
  go_region_held3 (fun w' => Below w.heap.size w w' ∧ w.heap.size < w'.heap.size ∧ w'.cell? ⟨w.heap.size, 0, none⟩ = some (.int .i64 20) ∧ w'.cell? ⟨w.heap.size, 1, none⟩ = some (.int .i64 b) ∧ w'.cell? ⟨w.heap.size, 2, none⟩ = some (.int .i64 c) ∧ w'.cell? ⟨w.heap.size, 3, none⟩ = some (.string d) ∧ w'.cell? ⟨w.heap.size, 4, none⟩ = some (.bool e) ∧ w'.cell? ⟨w.heap.size, 5, none⟩ = some (.int .i64 g) ∧ w'.cell? ⟨w.heap.size, 6, none⟩ = some (.int .i64 l) ∧ w'.cell? ⟨w.heap.size, 7, none⟩ = some (.int .i64 m) ∧ w'.cell? ⟨w.heap.size, 8, none⟩ = some (.bool u)) (first | exact hn1 | exact nine_below (by assumption) hbQ | exact nine_below (by assumption) hbK | exact nine_alloc (by assumption) _ | assumption | go_keep) (first | (go_at_call 56; refine (iKindF _ 20 rfl (by decide) _).mono ?_; rintro x wk ⟨rfl, hbK⟩; rw [HO.out]) | (go_at_call 8; refine (iEncI _ _).mono ?_; rintro x wq ⟨rfl, hbQ⟩; rw [HE.out]))
  all_goals
    have hend : Below w.heap.size w _ := (by assumption : Nine w (.int .i64 20) (.int .i64 b) (.int .i64 c) (.string d) (.bool e) (.int .i64 g) (.int .i64 l) (.int .i64 m) (.bool u) _).1
    go_wp2
    go_ret
    exact ⟨rfl, hend⟩
set_option maxHeartbeats 2000000 in
theorem iEncF_21 (b : Int) (c : Int) (d : ByteArray) (e : Bool) (g : Int) (l : Int) (m : Int) (u : Bool) (hs : d.size ≤ 1048576) (hf : isFB 21 b c d e g l m u = true) (w : World) :
    Calls Try.prog 25 #[.agg #[.int .i64 21, .int .i64 b, .int .i64 c, .string d, .bool e, .int .i64 g, .int .i64 l, .int .i64 m, .bool u]] w fun x w' => x = .returned (.string (one1 21 ++ encL [b, l])) ∧ Below w.heap.size w w' := by
  have hb0 : Below w.heap.size w (w.alloc (.cells #[.int .i64 21, .int .i64 b, .int .i64 c, .string d, .bool e, .int .i64 g, .int .i64 l, .int .i64 m, .bool u] 40)) := (Below.refl _ _).alloc (Nat.le_refl _) _
  have hk0 : Bk (w.alloc (.cells #[.int .i64 21, .int .i64 b, .int .i64 c, .string d, .bool e, .int .i64 g, .int .i64 l, .int .i64 m, .bool u] 40)) w.heap.size 40 #[.int .i64 21, .int .i64 b, .int .i64 c, .string d, .bool e, .int .i64 g, .int .i64 l, .int .i64 m, .bool u] := heap_alloc_new w _
  have hz0 : (one1 21).size = 1 := rfl
  have hz1 : (encL [b, l]).size ≤ 8 * 2 := encL_size _
  obtain ⟨E, hE⟩ : ∃ E, encL [b, l] = E := ⟨_, rfl⟩
  rw [hE] at hz1 ⊢
  have HE := Lib.hid hE; clear hE
  obtain ⟨O, hO⟩ : ∃ O, one1 21 = O := ⟨_, rfl⟩
  rw [hO] at hz0 ⊢
  have HO := Lib.hid hO; clear hO
  have hsum : (9223372036854775807 < O.size + E.size) = False := by simp; omega
  have hsum1 : (9223372036854775807 < 1 + E.size) = False := by simp; omega
  go_enter Try.func25, Try.ntmps25
  go_wp2_with fail
  refine (iIs 21 b c d e g l m u hs _).mono ?_
  rintro x w1 ⟨rfl, hb1⟩
  rw [hf]
  have hk1 := hk0.below hb1 hk0.lt
  replace hb1 := below_next hb0 hb0.size hb1
  have hn1 := nine_start hb1 hk1
  obtain ⟨c0, c1, c2, c3, c4, c5, c6, c7, c8⟩ := hk1.nine
  go_wp2_with fail
  go_region_held3 (fun w' => Below w.heap.size w w' ∧ w.heap.size < w'.heap.size ∧ w'.cell? ⟨w.heap.size, 0, none⟩ = some (.int .i64 21) ∧ w'.cell? ⟨w.heap.size, 1, none⟩ = some (.int .i64 b) ∧ w'.cell? ⟨w.heap.size, 2, none⟩ = some (.int .i64 c) ∧ w'.cell? ⟨w.heap.size, 3, none⟩ = some (.string d) ∧ w'.cell? ⟨w.heap.size, 4, none⟩ = some (.bool e) ∧ w'.cell? ⟨w.heap.size, 5, none⟩ = some (.int .i64 g) ∧ w'.cell? ⟨w.heap.size, 6, none⟩ = some (.int .i64 l) ∧ w'.cell? ⟨w.heap.size, 7, none⟩ = some (.int .i64 m) ∧ w'.cell? ⟨w.heap.size, 8, none⟩ = some (.bool u)) (first | exact hn1 | exact nine_below (by assumption) hbQ | exact nine_below (by assumption) hbK | exact nine_alloc (by assumption) _ | assumption | go_keep) (first | (go_at_call 56; refine (iKindF _ 21 rfl (by decide) _).mono ?_; rintro x wk ⟨rfl, hbK⟩; rw [HO.out]) | (go_at_call 16; refine (iEncs_at [b, l] (Nat.le_refl _) (rd_new _ [b, l]) rfl ?_).mono ?_; (simp); rintro x wq ⟨rfl, hbQ⟩; rw [HE.out]) | (go_at_call 16; refine (iEncs_at [b, l] (Nat.le_refl _) ((rd_new _ [b, l]).drew) rfl ?_).mono ?_; (simp); rintro x wq ⟨rfl, hbQ⟩; rw [HE.out]) | (go_at_call 16; refine (iEncs_at [b, l] hbK.size ((rd_new _ [b, l]).below hbK (Nat.le_refl _)) rfl ?_).mono ?_; (simp); rintro x wq ⟨rfl, hbQ⟩; rw [HE.out]) | (go_at_call 16; refine (iEncs_at [b, l] hbK.size (((rd_new _ [b, l]).drew).below hbK (Nat.le_refl _)) rfl ?_).mono ?_; (simp); rintro x wq ⟨rfl, hbQ⟩; rw [HE.out]))
  all_goals
    have hend : Below w.heap.size w _ := (by assumption : Nine w (.int .i64 21) (.int .i64 b) (.int .i64 c) (.string d) (.bool e) (.int .i64 g) (.int .i64 l) (.int .i64 m) (.bool u) _).1
    go_wp2
    go_ret
    exact ⟨rfl, hend⟩
set_option maxHeartbeats 2000000 in
theorem iEncF_22u0 (b : Int) (c : Int) (d : ByteArray) (e : Bool) (g : Int) (l : Int) (m : Int) (hs : d.size ≤ 1048576) (hf : isFB 22 b c d e g l m false = true) (w : World) :
    Calls Try.prog 25 #[.agg #[.int .i64 22, .int .i64 b, .int .i64 c, .string d, .bool e, .int .i64 g, .int .i64 l, .int .i64 m, .bool false]] w fun x w' => x = .returned (.string (one1 22 ++ encI l)) ∧ Below w.heap.size w w' := by
  have hb0 : Below w.heap.size w (w.alloc (.cells #[.int .i64 22, .int .i64 b, .int .i64 c, .string d, .bool e, .int .i64 g, .int .i64 l, .int .i64 m, .bool false] 40)) := (Below.refl _ _).alloc (Nat.le_refl _) _
  have hk0 : Bk (w.alloc (.cells #[.int .i64 22, .int .i64 b, .int .i64 c, .string d, .bool e, .int .i64 g, .int .i64 l, .int .i64 m, .bool false] 40)) w.heap.size 40 #[.int .i64 22, .int .i64 b, .int .i64 c, .string d, .bool e, .int .i64 g, .int .i64 l, .int .i64 m, .bool false] := heap_alloc_new w _
  have hz0 : (one1 22).size = 1 := rfl
  have hz1 : (encI l).size ≤ 8 * 1 := encI_size _
  obtain ⟨E, hE⟩ : ∃ E, encI l = E := ⟨_, rfl⟩
  rw [hE] at hz1 ⊢
  have HE := Lib.hid hE; clear hE
  obtain ⟨O, hO⟩ : ∃ O, one1 22 = O := ⟨_, rfl⟩
  rw [hO] at hz0 ⊢
  have HO := Lib.hid hO; clear hO
  have hsum : (9223372036854775807 < O.size + E.size) = False := by simp; omega
  have hsum1 : (9223372036854775807 < 1 + E.size) = False := by simp; omega
  go_enter Try.func25, Try.ntmps25
  go_wp2_with fail
  refine (iIs 22 b c d e g l m false hs _).mono ?_
  rintro x w1 ⟨rfl, hb1⟩
  rw [hf]
  have hk1 := hk0.below hb1 hk0.lt
  replace hb1 := below_next hb0 hb0.size hb1
  have hn1 := nine_start hb1 hk1
  obtain ⟨c0, c1, c2, c3, c4, c5, c6, c7, c8⟩ := hk1.nine
  go_wp2_with fail
  go_region_held3 (fun w' => Below w.heap.size w w' ∧ w.heap.size < w'.heap.size ∧ w'.cell? ⟨w.heap.size, 0, none⟩ = some (.int .i64 22) ∧ w'.cell? ⟨w.heap.size, 1, none⟩ = some (.int .i64 b) ∧ w'.cell? ⟨w.heap.size, 2, none⟩ = some (.int .i64 c) ∧ w'.cell? ⟨w.heap.size, 3, none⟩ = some (.string d) ∧ w'.cell? ⟨w.heap.size, 4, none⟩ = some (.bool e) ∧ w'.cell? ⟨w.heap.size, 5, none⟩ = some (.int .i64 g) ∧ w'.cell? ⟨w.heap.size, 6, none⟩ = some (.int .i64 l) ∧ w'.cell? ⟨w.heap.size, 7, none⟩ = some (.int .i64 m) ∧ w'.cell? ⟨w.heap.size, 8, none⟩ = some (.bool false)) (first | exact hn1 | exact nine_below (by assumption) hbQ | exact nine_below (by assumption) hbK | exact nine_alloc (by assumption) _ | assumption | go_keep) (first | (go_at_call 56; refine (iKindF _ 22 rfl (by decide) _).mono ?_; rintro x wk ⟨rfl, hbK⟩; rw [HO.out]) | (go_at_call 8; refine (iEncI _ _).mono ?_; rintro x wq ⟨rfl, hbQ⟩; rw [HE.out]) | (go_at_call 57; refine (iOne _ _).mono ?_; rintro x w' ⟨rfl, rfl⟩))
  all_goals
    have hend : Below w.heap.size w _ := (by assumption : Nine w (.int .i64 22) (.int .i64 b) (.int .i64 c) (.string d) (.bool e) (.int .i64 g) (.int .i64 l) (.int .i64 m) (.bool false) _).1
    go_wp2
    go_ret
    exact ⟨rfl, hend⟩
set_option maxHeartbeats 2000000 in
theorem iEncF_22u1 (b : Int) (c : Int) (d : ByteArray) (e : Bool) (g : Int) (l : Int) (m : Int) (hs : d.size ≤ 1048576) (hf : isFB 22 b c d e g l m true = true) (w : World) :
    Calls Try.prog 25 #[.agg #[.int .i64 22, .int .i64 b, .int .i64 c, .string d, .bool e, .int .i64 g, .int .i64 l, .int .i64 m, .bool true]] w fun x w' => x = .returned (.string (one1 23 ++ encI l)) ∧ Below w.heap.size w w' := by
  have hb0 : Below w.heap.size w (w.alloc (.cells #[.int .i64 22, .int .i64 b, .int .i64 c, .string d, .bool e, .int .i64 g, .int .i64 l, .int .i64 m, .bool true] 40)) := (Below.refl _ _).alloc (Nat.le_refl _) _
  have hk0 : Bk (w.alloc (.cells #[.int .i64 22, .int .i64 b, .int .i64 c, .string d, .bool e, .int .i64 g, .int .i64 l, .int .i64 m, .bool true] 40)) w.heap.size 40 #[.int .i64 22, .int .i64 b, .int .i64 c, .string d, .bool e, .int .i64 g, .int .i64 l, .int .i64 m, .bool true] := heap_alloc_new w _
  have hz0 : (one1 23).size = 1 := rfl
  have hz1 : (encI l).size ≤ 8 * 1 := encI_size _
  obtain ⟨E, hE⟩ : ∃ E, encI l = E := ⟨_, rfl⟩
  rw [hE] at hz1 ⊢
  have HE := Lib.hid hE; clear hE
  obtain ⟨O, hO⟩ : ∃ O, one1 23 = O := ⟨_, rfl⟩
  rw [hO] at hz0 ⊢
  have HO := Lib.hid hO; clear hO
  have hsum : (9223372036854775807 < O.size + E.size) = False := by simp; omega
  have hsum1 : (9223372036854775807 < 1 + E.size) = False := by simp; omega
  go_enter Try.func25, Try.ntmps25
  go_wp2_with fail
  refine (iIs 22 b c d e g l m true hs _).mono ?_
  rintro x w1 ⟨rfl, hb1⟩
  rw [hf]
  have hk1 := hk0.below hb1 hk0.lt
  replace hb1 := below_next hb0 hb0.size hb1
  have hn1 := nine_start hb1 hk1
  obtain ⟨c0, c1, c2, c3, c4, c5, c6, c7, c8⟩ := hk1.nine
  go_wp2_with fail
  go_region_held3 (fun w' => Below w.heap.size w w' ∧ w.heap.size < w'.heap.size ∧ w'.cell? ⟨w.heap.size, 0, none⟩ = some (.int .i64 22) ∧ w'.cell? ⟨w.heap.size, 1, none⟩ = some (.int .i64 b) ∧ w'.cell? ⟨w.heap.size, 2, none⟩ = some (.int .i64 c) ∧ w'.cell? ⟨w.heap.size, 3, none⟩ = some (.string d) ∧ w'.cell? ⟨w.heap.size, 4, none⟩ = some (.bool e) ∧ w'.cell? ⟨w.heap.size, 5, none⟩ = some (.int .i64 g) ∧ w'.cell? ⟨w.heap.size, 6, none⟩ = some (.int .i64 l) ∧ w'.cell? ⟨w.heap.size, 7, none⟩ = some (.int .i64 m) ∧ w'.cell? ⟨w.heap.size, 8, none⟩ = some (.bool true)) (first | exact hn1 | exact nine_below (by assumption) hbQ | exact nine_below (by assumption) hbK | exact nine_alloc (by assumption) _ | assumption | go_keep) (first | (go_at_call 56; refine (iKindF _ 23 rfl (by decide) _).mono ?_; rintro x wk ⟨rfl, hbK⟩; rw [HO.out]) | (go_at_call 8; refine (iEncI _ _).mono ?_; rintro x wq ⟨rfl, hbQ⟩; rw [HE.out]) | (go_at_call 57; refine (iOne _ _).mono ?_; rintro x w' ⟨rfl, rfl⟩))
  all_goals
    have hend : Below w.heap.size w _ := (by assumption : Nine w (.int .i64 22) (.int .i64 b) (.int .i64 c) (.string d) (.bool e) (.int .i64 g) (.int .i64 l) (.int .i64 m) (.bool true) _).1
    go_wp2
    go_ret
    exact ⟨rfl, hend⟩
end Go.Proofs.Ytadoiehgobcjcaa
