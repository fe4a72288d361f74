/- impl.EncodeFrame of a valid stream frame. No conditions. -/
import Derived.Test.YtadoiehgobcjcaaF5
namespace Go.Proofs.Ytadoiehgobcjcaa
open Go.ChangeShapes Go.WideShapes Go.ChangeAt Go.RowKit Go.Sort QM
set_option linter.unusedVariables false
set_option linter.unusedSimpArgs false
theorem iOneB (b : Bool) (w : World) : Calls Try.prog 57 #[.bool b] w fun e w' => e = .returned (.int .i64 (if b then 1 else 0)) ∧ Below w.heap.size w w' := (iOne b w).mono fun _ _ ⟨h1, h2⟩ => ⟨h1, h2 ▸ Below.refl _ _⟩
set_option maxHeartbeats 2000000 in
theorem iEncF_8e0c1 (b : Int) (d : ByteArray) (g : Int) (l : Int) (m : Int) (u : Bool) (hs : d.size ≤ 1048576) (hf : isFB 8 b 0 d false g l m u = true) (w : World) :
    Calls Try.prog 25 #[.agg #[.int .i64 8, .int .i64 b, .int .i64 0, .string d, .bool false, .int .i64 g, .int .i64 l, .int .i64 m, .bool u]] w fun x w' => x = .returned (.string (((one1 10 ++ encI b) ++ encI (d.size : Int)) ++ d)) ∧ Below w.heap.size w w' := by
  have hb0 : Below w.heap.size w (w.alloc (.cells #[.int .i64 8, .int .i64 b, .int .i64 0, .string d, .bool false, .int .i64 g, .int .i64 l, .int .i64 m, .bool u] 40)) := (Below.refl _ _).alloc (Nat.le_refl _) _
  have hk0 : Bk (w.alloc (.cells #[.int .i64 8, .int .i64 b, .int .i64 0, .string d, .bool false, .int .i64 g, .int .i64 l, .int .i64 m, .bool u] 40)) w.heap.size 40 #[.int .i64 8, .int .i64 b, .int .i64 0, .string d, .bool false, .int .i64 g, .int .i64 l, .int .i64 m, .bool u] := heap_alloc_new w _
  have hzO : (one1 10).size = 1 := rfl
  obtain ⟨O, hO⟩ : ∃ O, one1 10 = O := ⟨_, rfl⟩
  have cO : ∀ W : World, Calls Try.prog 56 #[.int .i64 10] W fun e w' => e = .returned (.string O) ∧ Below W.heap.size W w' := fun W => by rw [← hO]; exact iKindF _ 10 rfl (by decide) W
  rw [hO] at hzO ⊢
  clear hO
  have hzP : (encI b).size ≤ 8 := encI_size _
  obtain ⟨P, hP⟩ : ∃ P, encI b = P := ⟨_, rfl⟩
  have cP : ∀ W : World, Calls Try.prog 8 #[.int .i64 b] W fun e w' => e = .returned (.string P) ∧ Below W.heap.size W w' := fun W => by rw [← hP]; exact iEncI _ W
  rw [hP] at hzP ⊢
  clear hP
  have hzS : (encI (d.size : Int)).size ≤ 8 := encI_size _
  obtain ⟨S, hS⟩ : ∃ S, encI (d.size : Int) = S := ⟨_, rfl⟩
  have cS : ∀ W : World, Calls Try.prog 8 #[.int .i64 (d.size : Int)] W fun e w' => e = .returned (.string S) ∧ Below W.heap.size W w' := fun W => by rw [← hS]; exact iEncI _ W
  rw [hS] at hzS ⊢
  clear hS
  go_enter Try.func25, Try.ntmps25
  go_wp2_with fail
  refine (iIs 8 b 0 d false g l m u hs _).mono ?_
  rintro x w1 ⟨rfl, hb1⟩
  rw [hf]
  have hk1 := hk0.below hb1 hk0.lt
  replace hb1 := below_next hb0 hb0.size hb1
  obtain ⟨c0, c1, c2, c3, c4, c5, c6, c7, c8⟩ := hk1.nine
  clear hk1 hk0
  go_wp2_with fail
  have k0 := cell_regrown c0
  have k1 := cell_regrown c1
  have k2 := cell_regrown c2
  have k3 := cell_regrown c3
  have k4 := cell_regrown c4
  have k5 := cell_regrown c5
  have k6 := cell_regrown c6
  have k7 := cell_regrown c7
  have k8 := cell_regrown c8
  refine wp_region_quiet_below (by kernel_rfl) (by kernel_rfl) ?_
  repeat (go_big_quiet_step ((first | (go_at_call 57; exact Calls.regrown_of (iOneB _ _)) | (go_at_call 56; exact Calls.regrown_of (cO _)) | (go_at_call 8; exact Calls.regrown_of (cP _)))))
  refine wpQuiet_nil ?_
  intro _ hw'
  obtain ⟨⟨dq, osq⟩, hw''⟩ := hw'
  subst hw''
  replace hb1 := below_next hb1 hb1.size (below_regrown _ dq osq)
  replace c0 := k0 dq osq
  replace c1 := k1 dq osq
  replace c2 := k2 dq osq
  replace c3 := k3 dq osq
  replace c4 := k4 dq osq
  replace c5 := k5 dq osq
  replace c6 := k6 dq osq
  replace c7 := k7 dq osq
  replace c8 := k8 dq osq
  clear k0 k1 k2 k3 k4 k5 k6 k7 k8
  generalize grow (redrawn _ dq) osq = w2 at hb1 c0 c1 c2 c3 c4 c5 c6 c7 c8 ⊢
  have hX : (O ++ P).size ≤ 9 := by rw [ByteArray.size_append]; omega
  generalize hgx : O ++ P = X at hX ⊢
  go_wp2_with fail
  have hT : (X ++ S).size ≤ 25 := by rw [ByteArray.size_append]; omega
  have k0 := cell_regrown c0
  have k1 := cell_regrown c1
  have k2 := cell_regrown c2
  have k3 := cell_regrown c3
  have k4 := cell_regrown c4
  have k5 := cell_regrown c5
  have k6 := cell_regrown c6
  have k7 := cell_regrown c7
  have k8 := cell_regrown c8
  refine wp_region_quiet_below (by kernel_rfl) (by kernel_rfl) ?_
  repeat (go_big_quiet_step ((first | (go_at_call 8; exact Calls.regrown_of (cS _)))))
  refine wpQuiet_nil ?_
  intro _ hw'
  obtain ⟨⟨dq, osq⟩, hw''⟩ := hw'
  subst hw''
  replace hb1 := below_next hb1 hb1.size (below_regrown _ dq osq)
  replace c0 := k0 dq osq
  replace c1 := k1 dq osq
  replace c2 := k2 dq osq
  replace c3 := k3 dq osq
  replace c4 := k4 dq osq
  replace c5 := k5 dq osq
  replace c6 := k6 dq osq
  replace c7 := k7 dq osq
  replace c8 := k8 dq osq
  clear k0 k1 k2 k3 k4 k5 k6 k7 k8
  generalize grow (redrawn _ dq) osq = w2 at hb1 c0 c1 c2 c3 c4 c5 c6 c7 c8 ⊢
  go_wp2
  go_ret
  exact ⟨by subst hgx; rfl, hb1⟩
set_option maxHeartbeats 2000000 in
theorem iEncF_8e0c0 (b : Int) (c : Int) (d : ByteArray) (g : Int) (l : Int) (m : Int) (u : Bool) (hs : d.size ≤ 1048576) (hf : isFB 8 b c d false g l m u = true) (hc : (c == 0) = false) (w : World) :
    Calls Try.prog 25 #[.agg #[.int .i64 8, .int .i64 b, .int .i64 c, .string d, .bool false, .int .i64 g, .int .i64 l, .int .i64 m, .bool u]] w fun x w' => x = .returned (.string (((one1 14 ++ encI b) ++ encI c ++ encI (d.size : Int)) ++ d)) ∧ Below w.heap.size w w' := by
  have hb0 : Below w.heap.size w (w.alloc (.cells #[.int .i64 8, .int .i64 b, .int .i64 c, .string d, .bool false, .int .i64 g, .int .i64 l, .int .i64 m, .bool u] 40)) := (Below.refl _ _).alloc (Nat.le_refl _) _
  have hk0 : Bk (w.alloc (.cells #[.int .i64 8, .int .i64 b, .int .i64 c, .string d, .bool false, .int .i64 g, .int .i64 l, .int .i64 m, .bool u] 40)) w.heap.size 40 #[.int .i64 8, .int .i64 b, .int .i64 c, .string d, .bool false, .int .i64 g, .int .i64 l, .int .i64 m, .bool u] := heap_alloc_new w _
  have hcn : (c != 0) = true := by simp [bne, hc]
  have hzO : (one1 14).size = 1 := rfl
  obtain ⟨O, hO⟩ : ∃ O, one1 14 = O := ⟨_, rfl⟩
  have cO : ∀ W : World, Calls Try.prog 56 #[.int .i64 14] W fun e w' => e = .returned (.string O) ∧ Below W.heap.size W w' := fun W => by rw [← hO]; exact iKindF _ 14 rfl (by decide) W
  rw [hO] at hzO ⊢
  clear hO
  have hzP : (encI b).size ≤ 8 := encI_size _
  obtain ⟨P, hP⟩ : ∃ P, encI b = P := ⟨_, rfl⟩
  have cP : ∀ W : World, Calls Try.prog 8 #[.int .i64 b] W fun e w' => e = .returned (.string P) ∧ Below W.heap.size W w' := fun W => by rw [← hP]; exact iEncI _ W
  rw [hP] at hzP ⊢
  clear hP
  have hzQ : (encI c).size ≤ 8 := encI_size _
  obtain ⟨Q, hQ⟩ : ∃ Q, encI c = Q := ⟨_, rfl⟩
  have cQ : ∀ W : World, Calls Try.prog 8 #[.int .i64 c] W fun e w' => e = .returned (.string Q) ∧ Below W.heap.size W w' := fun W => by rw [← hQ]; exact iEncI _ W
  rw [hQ] at hzQ ⊢
  clear hQ
  have hzS : (encI (d.size : Int)).size ≤ 8 := encI_size _
  obtain ⟨S, hS⟩ : ∃ S, encI (d.size : Int) = S := ⟨_, rfl⟩
  have cS : ∀ W : World, Calls Try.prog 8 #[.int .i64 (d.size : Int)] W fun e w' => e = .returned (.string S) ∧ Below W.heap.size W w' := fun W => by rw [← hS]; exact iEncI _ W
  rw [hS] at hzS ⊢
  clear hS
  go_enter Try.func25, Try.ntmps25
  go_wp2_with fail
  refine (iIs 8 b c d false g l m u hs _).mono ?_
  rintro x w1 ⟨rfl, hb1⟩
  rw [hf]
  have hk1 := hk0.below hb1 hk0.lt
  replace hb1 := below_next hb0 hb0.size hb1
  obtain ⟨c0, c1, c2, c3, c4, c5, c6, c7, c8⟩ := hk1.nine
  clear hk1 hk0
  go_wp2_with fail
  have k0 := cell_regrown c0
  have k1 := cell_regrown c1
  have k2 := cell_regrown c2
  have k3 := cell_regrown c3
  have k4 := cell_regrown c4
  have k5 := cell_regrown c5
  have k6 := cell_regrown c6
  have k7 := cell_regrown c7
  have k8 := cell_regrown c8
  refine wp_region_quiet_below (by kernel_rfl) (by kernel_rfl) ?_
  repeat (go_big_quiet_step ((first | (go_at_call 57; exact Calls.regrown_of (iOneB _ _)) | (go_at_call 56; exact Calls.regrown_of (cO _)) | (go_at_call 8; exact Calls.regrown_of (cP _)))))
  refine wpQuiet_nil ?_
  intro _ hw'
  obtain ⟨⟨dq, osq⟩, hw''⟩ := hw'
  subst hw''
  replace hb1 := below_next hb1 hb1.size (below_regrown _ dq osq)
  replace c0 := k0 dq osq
  replace c1 := k1 dq osq
  replace c2 := k2 dq osq
  replace c3 := k3 dq osq
  replace c4 := k4 dq osq
  replace c5 := k5 dq osq
  replace c6 := k6 dq osq
  replace c7 := k7 dq osq
  replace c8 := k8 dq osq
  clear k0 k1 k2 k3 k4 k5 k6 k7 k8
  generalize grow (redrawn _ dq) osq = w2 at hb1 c0 c1 c2 c3 c4 c5 c6 c7 c8 ⊢
  have hX : (O ++ P).size ≤ 9 := by rw [ByteArray.size_append]; omega
  generalize hgx : O ++ P = X at hX ⊢
  go_wp2_with fail
  have hlt := World.block_lt_of_cell? _ _ c0
  refine (cQ _).mono ?_
  rintro x w3 ⟨rfl, hb3⟩
  replace c0 := (hb3.cell (p := ⟨w.heap.size, 0, none⟩) hlt).trans c0
  replace c1 := (hb3.cell (p := ⟨w.heap.size, 1, none⟩) hlt).trans c1
  replace c2 := (hb3.cell (p := ⟨w.heap.size, 2, none⟩) hlt).trans c2
  replace c3 := (hb3.cell (p := ⟨w.heap.size, 3, none⟩) hlt).trans c3
  replace c4 := (hb3.cell (p := ⟨w.heap.size, 4, none⟩) hlt).trans c4
  replace c5 := (hb3.cell (p := ⟨w.heap.size, 5, none⟩) hlt).trans c5
  replace c6 := (hb3.cell (p := ⟨w.heap.size, 6, none⟩) hlt).trans c6
  replace c7 := (hb3.cell (p := ⟨w.heap.size, 7, none⟩) hlt).trans c7
  replace c8 := (hb3.cell (p := ⟨w.heap.size, 8, none⟩) hlt).trans c8
  replace hb1 := below_next hb1 hb1.size hb3
  have hY : (X ++ Q).size ≤ 17 := by rw [ByteArray.size_append]; omega
  go_wp2_with fail
  generalize hgy : X ++ Q = Y at hY ⊢
  have hT : (Y ++ S).size ≤ 25 := by rw [ByteArray.size_append]; omega
  have k0 := cell_regrown c0
  have k1 := cell_regrown c1
  have k2 := cell_regrown c2
  have k3 := cell_regrown c3
  have k4 := cell_regrown c4
  have k5 := cell_regrown c5
  have k6 := cell_regrown c6
  have k7 := cell_regrown c7
  have k8 := cell_regrown c8
  refine wp_region_quiet_below (by kernel_rfl) (by kernel_rfl) ?_
  repeat (go_big_quiet_step ((first | (go_at_call 8; exact Calls.regrown_of (cS _)))))
  refine wpQuiet_nil ?_
  intro _ hw'
  obtain ⟨⟨dq, osq⟩, hw''⟩ := hw'
  subst hw''
  replace hb1 := below_next hb1 hb1.size (below_regrown _ dq osq)
  replace c0 := k0 dq osq
  replace c1 := k1 dq osq
  replace c2 := k2 dq osq
  replace c3 := k3 dq osq
  replace c4 := k4 dq osq
  replace c5 := k5 dq osq
  replace c6 := k6 dq osq
  replace c7 := k7 dq osq
  replace c8 := k8 dq osq
  clear k0 k1 k2 k3 k4 k5 k6 k7 k8
  generalize grow (redrawn _ dq) osq = w2 at hb1 c0 c1 c2 c3 c4 c5 c6 c7 c8 ⊢
  go_wp2
  go_ret
  exact ⟨by subst hgy; subst hgx; rfl, hb1⟩
set_option maxHeartbeats 2000000 in
theorem iEncF_8e1c1 (b : Int) (d : ByteArray) (g : Int) (l : Int) (m : Int) (u : Bool) (hs : d.size ≤ 1048576) (hf : isFB 8 b 0 d true g l m u = true) (w : World) :
    Calls Try.prog 25 #[.agg #[.int .i64 8, .int .i64 b, .int .i64 0, .string d, .bool true, .int .i64 g, .int .i64 l, .int .i64 m, .bool u]] w fun x w' => x = .returned (.string (((one1 11 ++ encI b) ++ encI (d.size : Int)) ++ d)) ∧ Below w.heap.size w w' := by
  have hb0 : Below w.heap.size w (w.alloc (.cells #[.int .i64 8, .int .i64 b, .int .i64 0, .string d, .bool true, .int .i64 g, .int .i64 l, .int .i64 m, .bool u] 40)) := (Below.refl _ _).alloc (Nat.le_refl _) _
  have hk0 : Bk (w.alloc (.cells #[.int .i64 8, .int .i64 b, .int .i64 0, .string d, .bool true, .int .i64 g, .int .i64 l, .int .i64 m, .bool u] 40)) w.heap.size 40 #[.int .i64 8, .int .i64 b, .int .i64 0, .string d, .bool true, .int .i64 g, .int .i64 l, .int .i64 m, .bool u] := heap_alloc_new w _
  have hzO : (one1 11).size = 1 := rfl
  obtain ⟨O, hO⟩ : ∃ O, one1 11 = O := ⟨_, rfl⟩
  have cO : ∀ W : World, Calls Try.prog 56 #[.int .i64 11] W fun e w' => e = .returned (.string O) ∧ Below W.heap.size W w' := fun W => by rw [← hO]; exact iKindF _ 11 rfl (by decide) W
  rw [hO] at hzO ⊢
  clear hO
  have hzP : (encI b).size ≤ 8 := encI_size _
  obtain ⟨P, hP⟩ : ∃ P, encI b = P := ⟨_, rfl⟩
  have cP : ∀ W : World, Calls Try.prog 8 #[.int .i64 b] W fun e w' => e = .returned (.string P) ∧ Below W.heap.size W w' := fun W => by rw [← hP]; exact iEncI _ W
  rw [hP] at hzP ⊢
  clear hP
  have hzS : (encI (d.size : Int)).size ≤ 8 := encI_size _
  obtain ⟨S, hS⟩ : ∃ S, encI (d.size : Int) = S := ⟨_, rfl⟩
  have cS : ∀ W : World, Calls Try.prog 8 #[.int .i64 (d.size : Int)] W fun e w' => e = .returned (.string S) ∧ Below W.heap.size W w' := fun W => by rw [← hS]; exact iEncI _ W
  rw [hS] at hzS ⊢
  clear hS
  go_enter Try.func25, Try.ntmps25
  go_wp2_with fail
  refine (iIs 8 b 0 d true g l m u hs _).mono ?_
  rintro x w1 ⟨rfl, hb1⟩
  rw [hf]
  have hk1 := hk0.below hb1 hk0.lt
  replace hb1 := below_next hb0 hb0.size hb1
  obtain ⟨c0, c1, c2, c3, c4, c5, c6, c7, c8⟩ := hk1.nine
  clear hk1 hk0
  go_wp2_with fail
  have k0 := cell_regrown c0
  have k1 := cell_regrown c1
  have k2 := cell_regrown c2
  have k3 := cell_regrown c3
  have k4 := cell_regrown c4
  have k5 := cell_regrown c5
  have k6 := cell_regrown c6
  have k7 := cell_regrown c7
  have k8 := cell_regrown c8
  refine wp_region_quiet_below (by kernel_rfl) (by kernel_rfl) ?_
  repeat (go_big_quiet_step ((first | (go_at_call 57; exact Calls.regrown_of (iOneB _ _)) | (go_at_call 56; exact Calls.regrown_of (cO _)) | (go_at_call 8; exact Calls.regrown_of (cP _)))))
  refine wpQuiet_nil ?_
  intro _ hw'
  obtain ⟨⟨dq, osq⟩, hw''⟩ := hw'
  subst hw''
  replace hb1 := below_next hb1 hb1.size (below_regrown _ dq osq)
  replace c0 := k0 dq osq
  replace c1 := k1 dq osq
  replace c2 := k2 dq osq
  replace c3 := k3 dq osq
  replace c4 := k4 dq osq
  replace c5 := k5 dq osq
  replace c6 := k6 dq osq
  replace c7 := k7 dq osq
  replace c8 := k8 dq osq
  clear k0 k1 k2 k3 k4 k5 k6 k7 k8
  generalize grow (redrawn _ dq) osq = w2 at hb1 c0 c1 c2 c3 c4 c5 c6 c7 c8 ⊢
  have hX : (O ++ P).size ≤ 9 := by rw [ByteArray.size_append]; omega
  generalize hgx : O ++ P = X at hX ⊢
  go_wp2_with fail
  have hT : (X ++ S).size ≤ 25 := by rw [ByteArray.size_append]; omega
  have k0 := cell_regrown c0
  have k1 := cell_regrown c1
  have k2 := cell_regrown c2
  have k3 := cell_regrown c3
  have k4 := cell_regrown c4
  have k5 := cell_regrown c5
  have k6 := cell_regrown c6
  have k7 := cell_regrown c7
  have k8 := cell_regrown c8
  refine wp_region_quiet_below (by kernel_rfl) (by kernel_rfl) ?_
  repeat (go_big_quiet_step ((first | (go_at_call 8; exact Calls.regrown_of (cS _)))))
  refine wpQuiet_nil ?_
  intro _ hw'
  obtain ⟨⟨dq, osq⟩, hw''⟩ := hw'
  subst hw''
  replace hb1 := below_next hb1 hb1.size (below_regrown _ dq osq)
  replace c0 := k0 dq osq
  replace c1 := k1 dq osq
  replace c2 := k2 dq osq
  replace c3 := k3 dq osq
  replace c4 := k4 dq osq
  replace c5 := k5 dq osq
  replace c6 := k6 dq osq
  replace c7 := k7 dq osq
  replace c8 := k8 dq osq
  clear k0 k1 k2 k3 k4 k5 k6 k7 k8
  generalize grow (redrawn _ dq) osq = w2 at hb1 c0 c1 c2 c3 c4 c5 c6 c7 c8 ⊢
  go_wp2
  go_ret
  exact ⟨by subst hgx; rfl, hb1⟩
set_option maxHeartbeats 2000000 in
theorem iEncF_8e1c0 (b : Int) (c : Int) (d : ByteArray) (g : Int) (l : Int) (m : Int) (u : Bool) (hs : d.size ≤ 1048576) (hf : isFB 8 b c d true g l m u = true) (hc : (c == 0) = false) (w : World) :
    Calls Try.prog 25 #[.agg #[.int .i64 8, .int .i64 b, .int .i64 c, .string d, .bool true, .int .i64 g, .int .i64 l, .int .i64 m, .bool u]] w fun x w' => x = .returned (.string (((one1 15 ++ encI b) ++ encI c ++ encI (d.size : Int)) ++ d)) ∧ Below w.heap.size w w' := by
  have hb0 : Below w.heap.size w (w.alloc (.cells #[.int .i64 8, .int .i64 b, .int .i64 c, .string d, .bool true, .int .i64 g, .int .i64 l, .int .i64 m, .bool u] 40)) := (Below.refl _ _).alloc (Nat.le_refl _) _
  have hk0 : Bk (w.alloc (.cells #[.int .i64 8, .int .i64 b, .int .i64 c, .string d, .bool true, .int .i64 g, .int .i64 l, .int .i64 m, .bool u] 40)) w.heap.size 40 #[.int .i64 8, .int .i64 b, .int .i64 c, .string d, .bool true, .int .i64 g, .int .i64 l, .int .i64 m, .bool u] := heap_alloc_new w _
  have hcn : (c != 0) = true := by simp [bne, hc]
  have hzO : (one1 15).size = 1 := rfl
  obtain ⟨O, hO⟩ : ∃ O, one1 15 = O := ⟨_, rfl⟩
  have cO : ∀ W : World, Calls Try.prog 56 #[.int .i64 15] W fun e w' => e = .returned (.string O) ∧ Below W.heap.size W w' := fun W => by rw [← hO]; exact iKindF _ 15 rfl (by decide) W
  rw [hO] at hzO ⊢
  clear hO
  have hzP : (encI b).size ≤ 8 := encI_size _
  obtain ⟨P, hP⟩ : ∃ P, encI b = P := ⟨_, rfl⟩
  have cP : ∀ W : World, Calls Try.prog 8 #[.int .i64 b] W fun e w' => e = .returned (.string P) ∧ Below W.heap.size W w' := fun W => by rw [← hP]; exact iEncI _ W
  rw [hP] at hzP ⊢
  clear hP
  have hzQ : (encI c).size ≤ 8 := encI_size _
  obtain ⟨Q, hQ⟩ : ∃ Q, encI c = Q := ⟨_, rfl⟩
  have cQ : ∀ W : World, Calls Try.prog 8 #[.int .i64 c] W fun e w' => e = .returned (.string Q) ∧ Below W.heap.size W w' := fun W => by rw [← hQ]; exact iEncI _ W
  rw [hQ] at hzQ ⊢
  clear hQ
  have hzS : (encI (d.size : Int)).size ≤ 8 := encI_size _
  obtain ⟨S, hS⟩ : ∃ S, encI (d.size : Int) = S := ⟨_, rfl⟩
  have cS : ∀ W : World, Calls Try.prog 8 #[.int .i64 (d.size : Int)] W fun e w' => e = .returned (.string S) ∧ Below W.heap.size W w' := fun W => by rw [← hS]; exact iEncI _ W
  rw [hS] at hzS ⊢
  clear hS
  go_enter Try.func25, Try.ntmps25
  go_wp2_with fail
  refine (iIs 8 b c d true g l m u hs _).mono ?_
  rintro x w1 ⟨rfl, hb1⟩
  rw [hf]
  have hk1 := hk0.below hb1 hk0.lt
  replace hb1 := below_next hb0 hb0.size hb1
  obtain ⟨c0, c1, c2, c3, c4, c5, c6, c7, c8⟩ := hk1.nine
  clear hk1 hk0
  go_wp2_with fail
  have k0 := cell_regrown c0
  have k1 := cell_regrown c1
  have k2 := cell_regrown c2
  have k3 := cell_regrown c3
  have k4 := cell_regrown c4
  have k5 := cell_regrown c5
  have k6 := cell_regrown c6
  have k7 := cell_regrown c7
  have k8 := cell_regrown c8
  refine wp_region_quiet_below (by kernel_rfl) (by kernel_rfl) ?_
  repeat (go_big_quiet_step ((first | (go_at_call 57; exact Calls.regrown_of (iOneB _ _)) | (go_at_call 56; exact Calls.regrown_of (cO _)) | (go_at_call 8; exact Calls.regrown_of (cP _)))))
  refine wpQuiet_nil ?_
  intro _ hw'
  obtain ⟨⟨dq, osq⟩, hw''⟩ := hw'
  subst hw''
  replace hb1 := below_next hb1 hb1.size (below_regrown _ dq osq)
  replace c0 := k0 dq osq
  replace c1 := k1 dq osq
  replace c2 := k2 dq osq
  replace c3 := k3 dq osq
  replace c4 := k4 dq osq
  replace c5 := k5 dq osq
  replace c6 := k6 dq osq
  replace c7 := k7 dq osq
  replace c8 := k8 dq osq
  clear k0 k1 k2 k3 k4 k5 k6 k7 k8
  generalize grow (redrawn _ dq) osq = w2 at hb1 c0 c1 c2 c3 c4 c5 c6 c7 c8 ⊢
  have hX : (O ++ P).size ≤ 9 := by rw [ByteArray.size_append]; omega
  generalize hgx : O ++ P = X at hX ⊢
  go_wp2_with fail
  have hlt := World.block_lt_of_cell? _ _ c0
  refine (cQ _).mono ?_
  rintro x w3 ⟨rfl, hb3⟩
  replace c0 := (hb3.cell (p := ⟨w.heap.size, 0, none⟩) hlt).trans c0
  replace c1 := (hb3.cell (p := ⟨w.heap.size, 1, none⟩) hlt).trans c1
  replace c2 := (hb3.cell (p := ⟨w.heap.size, 2, none⟩) hlt).trans c2
  replace c3 := (hb3.cell (p := ⟨w.heap.size, 3, none⟩) hlt).trans c3
  replace c4 := (hb3.cell (p := ⟨w.heap.size, 4, none⟩) hlt).trans c4
  replace c5 := (hb3.cell (p := ⟨w.heap.size, 5, none⟩) hlt).trans c5
  replace c6 := (hb3.cell (p := ⟨w.heap.size, 6, none⟩) hlt).trans c6
  replace c7 := (hb3.cell (p := ⟨w.heap.size, 7, none⟩) hlt).trans c7
  replace c8 := (hb3.cell (p := ⟨w.heap.size, 8, none⟩) hlt).trans c8
  replace hb1 := below_next hb1 hb1.size hb3
  have hY : (X ++ Q).size ≤ 17 := by rw [ByteArray.size_append]; omega
  go_wp2_with fail
  generalize hgy : X ++ Q = Y at hY ⊢
  have hT : (Y ++ S).size ≤ 25 := by rw [ByteArray.size_append]; omega
  have k0 := cell_regrown c0
  have k1 := cell_regrown c1
  have k2 := cell_regrown c2
  have k3 := cell_regrown c3
  have k4 := cell_regrown c4
  have k5 := cell_regrown c5
  have k6 := cell_regrown c6
  have k7 := cell_regrown c7
  have k8 := cell_regrown c8
  refine wp_region_quiet_below (by kernel_rfl) (by kernel_rfl) ?_
  repeat (go_big_quiet_step ((first | (go_at_call 8; exact Calls.regrown_of (cS _)))))
  refine wpQuiet_nil ?_
  intro _ hw'
  obtain ⟨⟨dq, osq⟩, hw''⟩ := hw'
  subst hw''
  replace hb1 := below_next hb1 hb1.size (below_regrown _ dq osq)
  replace c0 := k0 dq osq
  replace c1 := k1 dq osq
  replace c2 := k2 dq osq
  replace c3 := k3 dq osq
  replace c4 := k4 dq osq
  replace c5 := k5 dq osq
  replace c6 := k6 dq osq
  replace c7 := k7 dq osq
  replace c8 := k8 dq osq
  clear k0 k1 k2 k3 k4 k5 k6 k7 k8
  generalize grow (redrawn _ dq) osq = w2 at hb1 c0 c1 c2 c3 c4 c5 c6 c7 c8 ⊢
  go_wp2
  go_ret
  exact ⟨by subst hgy; subst hgx; rfl, hb1⟩
end Go.Proofs.Ytadoiehgobcjcaa
