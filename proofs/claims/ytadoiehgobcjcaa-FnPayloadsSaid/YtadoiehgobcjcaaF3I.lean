/- IsFrame of each kind (impl). No conditions. -/
import Derived.Test.YtadoiehgobcjcaaF3
namespace Go.Proofs.Ytadoiehgobcjcaa
open Go.ChangeShapes Go.WideShapes Go.ChangeAt Go.RowKit Go.Sort QM
set_option linter.unusedVariables false
set_option linter.unusedSimpArgs false
set_option maxHeartbeats 1000000 in
theorem iIs_4 (b c : Int) (d : ByteArray) (e : Bool) (g l m : Int) (u : Bool) (hs : d.size ≤ 1048576) (w : World) :
    Calls Try.prog 28 #[.agg #[.int .i64 4, .int .i64 b, .int .i64 c, .string d, .bool e, .int .i64 g, .int .i64 l, .int .i64 m, .bool u]] w fun x w' => x = .returned (.bool (eqFb 4 b c d e g l m u 4 b 0 ⟨#[]⟩ false g 0 m false && (qB b && (qB g && qB m)))) ∧ Below w.heap.size w w' := by
  have hkn : (kindB 4).toList.isEmpty = false := by decide +kernel
  have hne := fun W => run_neq_fr 4 b c d e g l m u 4 b 0 ⟨#[]⟩ false g 0 m false W
  cases hE : eqFb 4 b c d e g l m u 4 b 0 ⟨#[]⟩ false g 0 m false
  · rw [hE] at hne
    simp only [Bool.not_false] at hne
    have hb0 : Below w.heap.size w (w.alloc (.cells #[.int .i64 4, .int .i64 b, .int .i64 c, .string d, .bool e, .int .i64 g, .int .i64 l, .int .i64 m, .bool u] 40)) := (Below.refl _ _).alloc (Nat.le_refl _) _
    have hk0 : Bk (w.alloc (.cells #[.int .i64 4, .int .i64 b, .int .i64 c, .string d, .bool e, .int .i64 g, .int .i64 l, .int .i64 m, .bool u] 40)) w.heap.size 40 #[.int .i64 4, .int .i64 b, .int .i64 c, .string d, .bool e, .int .i64 g, .int .i64 l, .int .i64 m, .bool u] := heap_alloc_new w _
    go_enter Try.func28, Try.ntmps28
    go_wp2_with fail
    generalize w.alloc (.cells #[.int .i64 4, .int .i64 b, .int .i64 c, .string d, .bool e, .int .i64 g, .int .i64 l, .int .i64 m, .bool u] 40) = w0 at hb0 hk0 ⊢
    obtain ⟨c0, c1, c2, c3, c4, c5, c6, c7, c8⟩ := hk0.nine
    replace c0 := cell_regrown c0
    replace c1 := cell_regrown c1
    replace c2 := cell_regrown c2
    replace c3 := cell_regrown c3
    replace c4 := cell_regrown c4
    replace c5 := cell_regrown c5
    replace c6 := cell_regrown c6
    replace c7 := cell_regrown c7
    replace c8 := cell_regrown c8
    clear hk0
    refine wp_region_quiet_below (by kernel_rfl) (by kernel_rfl) ?_
    repeat (go_big_quiet_step ((first | (go_at_call 34; exact Calls.regrown_of (iKindB _ _)) | (go_at_call 59; exact Calls.regrown_of (iUsed_4 b c d e g l m u _)) | (go_at_call 50; exact Calls.regrown_of (isQuic_anyB _ _)))))
    refine wpQuiet_nil ?_
    intro _ hw'
    obtain ⟨⟨dq, osq⟩, hw''⟩ := hw'
    subst hw''
    have h01 := below_next hb0 hb0.size (below_regrown _ dq osq)
    replace c0 := c0 dq osq
    replace c1 := c1 dq osq
    replace c2 := c2 dq osq
    replace c3 := c3 dq osq
    replace c4 := c4 dq osq
    replace c5 := c5 dq osq
    replace c6 := c6 dq osq
    replace c7 := c7 dq osq
    replace c8 := c8 dq osq
    generalize grow (redrawn _ dq) osq = w2 at h01 c0 c1 c2 c3 c4 c5 c6 c7 c8 ⊢
    go_wp2
    go_ret
    exact ⟨rfl, h01⟩
  · rw [hE] at hne
    simp only [Bool.not_true] at hne
    unfold eqFb at hE
    simp only [Bool.and_eq_true, beq_iff_eq] at hE
    obtain ⟨_, _, zc, zd, ze, _, zl, _, zu⟩ := hE
    replace zd := none_of zd
    subst zc zd ze zl zu
    have q0 : qB 0 = true := rfl
    cases hqb : qB b
    · skip
      have hb0 : Below w.heap.size w (w.alloc (.cells #[.int .i64 4, .int .i64 b, .int .i64 0, .string ⟨#[]⟩, .bool false, .int .i64 g, .int .i64 0, .int .i64 m, .bool false] 40)) := (Below.refl _ _).alloc (Nat.le_refl _) _
      have hk0 : Bk (w.alloc (.cells #[.int .i64 4, .int .i64 b, .int .i64 0, .string ⟨#[]⟩, .bool false, .int .i64 g, .int .i64 0, .int .i64 m, .bool false] 40)) w.heap.size 40 #[.int .i64 4, .int .i64 b, .int .i64 0, .string ⟨#[]⟩, .bool false, .int .i64 g, .int .i64 0, .int .i64 m, .bool false] := heap_alloc_new w _
      go_enter Try.func28, Try.ntmps28
      go_wp2_with fail
      generalize w.alloc (.cells #[.int .i64 4, .int .i64 b, .int .i64 0, .string ⟨#[]⟩, .bool false, .int .i64 g, .int .i64 0, .int .i64 m, .bool false] 40) = w0 at hb0 hk0 ⊢
      obtain ⟨c0, c1, c2, c3, c4, c5, c6, c7, c8⟩ := hk0.nine
      replace c0 := cell_regrown c0
      replace c1 := cell_regrown c1
      replace c2 := cell_regrown c2
      replace c3 := cell_regrown c3
      replace c4 := cell_regrown c4
      replace c5 := cell_regrown c5
      replace c6 := cell_regrown c6
      replace c7 := cell_regrown c7
      replace c8 := cell_regrown c8
      clear hk0
      refine wp_region_quiet_below (by kernel_rfl) (by kernel_rfl) ?_
      repeat (go_big_quiet_step ((first | (go_at_call 34; exact Calls.regrown_of (iKindB _ _)) | (go_at_call 59; exact Calls.regrown_of (iUsed_4 b 0 ⟨#[]⟩ false g 0 m false _)) | (go_at_call 50; exact Calls.regrown_of (isQuic_anyB _ _)))))
      refine wpQuiet_nil ?_
      intro _ hw'
      obtain ⟨⟨dq, osq⟩, hw''⟩ := hw'
      subst hw''
      have h01 := below_next hb0 hb0.size (below_regrown _ dq osq)
      replace c0 := c0 dq osq
      replace c1 := c1 dq osq
      replace c2 := c2 dq osq
      replace c3 := c3 dq osq
      replace c4 := c4 dq osq
      replace c5 := c5 dq osq
      replace c6 := c6 dq osq
      replace c7 := c7 dq osq
      replace c8 := c8 dq osq
      generalize grow (redrawn _ dq) osq = w2 at h01 c0 c1 c2 c3 c4 c5 c6 c7 c8 ⊢
      go_wp2
      go_ret
      exact ⟨rfl, h01⟩
    cases hqg : qB g
    · skip
      have hb0 : Below w.heap.size w (w.alloc (.cells #[.int .i64 4, .int .i64 b, .int .i64 0, .string ⟨#[]⟩, .bool false, .int .i64 g, .int .i64 0, .int .i64 m, .bool false] 40)) := (Below.refl _ _).alloc (Nat.le_refl _) _
      have hk0 : Bk (w.alloc (.cells #[.int .i64 4, .int .i64 b, .int .i64 0, .string ⟨#[]⟩, .bool false, .int .i64 g, .int .i64 0, .int .i64 m, .bool false] 40)) w.heap.size 40 #[.int .i64 4, .int .i64 b, .int .i64 0, .string ⟨#[]⟩, .bool false, .int .i64 g, .int .i64 0, .int .i64 m, .bool false] := heap_alloc_new w _
      go_enter Try.func28, Try.ntmps28
      go_wp2_with fail
      generalize w.alloc (.cells #[.int .i64 4, .int .i64 b, .int .i64 0, .string ⟨#[]⟩, .bool false, .int .i64 g, .int .i64 0, .int .i64 m, .bool false] 40) = w0 at hb0 hk0 ⊢
      obtain ⟨c0, c1, c2, c3, c4, c5, c6, c7, c8⟩ := hk0.nine
      replace c0 := cell_regrown c0
      replace c1 := cell_regrown c1
      replace c2 := cell_regrown c2
      replace c3 := cell_regrown c3
      replace c4 := cell_regrown c4
      replace c5 := cell_regrown c5
      replace c6 := cell_regrown c6
      replace c7 := cell_regrown c7
      replace c8 := cell_regrown c8
      clear hk0
      refine wp_region_quiet_below (by kernel_rfl) (by kernel_rfl) ?_
      repeat (go_big_quiet_step ((first | (go_at_call 34; exact Calls.regrown_of (iKindB _ _)) | (go_at_call 59; exact Calls.regrown_of (iUsed_4 b 0 ⟨#[]⟩ false g 0 m false _)) | (go_at_call 50; exact Calls.regrown_of (isQuic_anyB _ _)))))
      refine wpQuiet_nil ?_
      intro _ hw'
      obtain ⟨⟨dq, osq⟩, hw''⟩ := hw'
      subst hw''
      have h01 := below_next hb0 hb0.size (below_regrown _ dq osq)
      replace c0 := c0 dq osq
      replace c1 := c1 dq osq
      replace c2 := c2 dq osq
      replace c3 := c3 dq osq
      replace c4 := c4 dq osq
      replace c5 := c5 dq osq
      replace c6 := c6 dq osq
      replace c7 := c7 dq osq
      replace c8 := c8 dq osq
      generalize grow (redrawn _ dq) osq = w2 at h01 c0 c1 c2 c3 c4 c5 c6 c7 c8 ⊢
      go_wp2
      go_ret
      exact ⟨rfl, h01⟩
    cases hqm : qB m
    · skip
      have hb0 : Below w.heap.size w (w.alloc (.cells #[.int .i64 4, .int .i64 b, .int .i64 0, .string ⟨#[]⟩, .bool false, .int .i64 g, .int .i64 0, .int .i64 m, .bool false] 40)) := (Below.refl _ _).alloc (Nat.le_refl _) _
      have hk0 : Bk (w.alloc (.cells #[.int .i64 4, .int .i64 b, .int .i64 0, .string ⟨#[]⟩, .bool false, .int .i64 g, .int .i64 0, .int .i64 m, .bool false] 40)) w.heap.size 40 #[.int .i64 4, .int .i64 b, .int .i64 0, .string ⟨#[]⟩, .bool false, .int .i64 g, .int .i64 0, .int .i64 m, .bool false] := heap_alloc_new w _
      go_enter Try.func28, Try.ntmps28
      go_wp2_with fail
      generalize w.alloc (.cells #[.int .i64 4, .int .i64 b, .int .i64 0, .string ⟨#[]⟩, .bool false, .int .i64 g, .int .i64 0, .int .i64 m, .bool false] 40) = w0 at hb0 hk0 ⊢
      obtain ⟨c0, c1, c2, c3, c4, c5, c6, c7, c8⟩ := hk0.nine
      replace c0 := cell_regrown c0
      replace c1 := cell_regrown c1
      replace c2 := cell_regrown c2
      replace c3 := cell_regrown c3
      replace c4 := cell_regrown c4
      replace c5 := cell_regrown c5
      replace c6 := cell_regrown c6
      replace c7 := cell_regrown c7
      replace c8 := cell_regrown c8
      clear hk0
      refine wp_region_quiet_below (by kernel_rfl) (by kernel_rfl) ?_
      repeat (go_big_quiet_step ((first | (go_at_call 34; exact Calls.regrown_of (iKindB _ _)) | (go_at_call 59; exact Calls.regrown_of (iUsed_4 b 0 ⟨#[]⟩ false g 0 m false _)) | (go_at_call 50; exact Calls.regrown_of (isQuic_anyB _ _)))))
      refine wpQuiet_nil ?_
      intro _ hw'
      obtain ⟨⟨dq, osq⟩, hw''⟩ := hw'
      subst hw''
      have h01 := below_next hb0 hb0.size (below_regrown _ dq osq)
      replace c0 := c0 dq osq
      replace c1 := c1 dq osq
      replace c2 := c2 dq osq
      replace c3 := c3 dq osq
      replace c4 := c4 dq osq
      replace c5 := c5 dq osq
      replace c6 := c6 dq osq
      replace c7 := c7 dq osq
      replace c8 := c8 dq osq
      generalize grow (redrawn _ dq) osq = w2 at h01 c0 c1 c2 c3 c4 c5 c6 c7 c8 ⊢
      go_wp2
      go_ret
      exact ⟨rfl, h01⟩
    have hb0 : Below w.heap.size w (w.alloc (.cells #[.int .i64 4, .int .i64 b, .int .i64 0, .string ⟨#[]⟩, .bool false, .int .i64 g, .int .i64 0, .int .i64 m, .bool false] 40)) := (Below.refl _ _).alloc (Nat.le_refl _) _
    have hk0 : Bk (w.alloc (.cells #[.int .i64 4, .int .i64 b, .int .i64 0, .string ⟨#[]⟩, .bool false, .int .i64 g, .int .i64 0, .int .i64 m, .bool false] 40)) w.heap.size 40 #[.int .i64 4, .int .i64 b, .int .i64 0, .string ⟨#[]⟩, .bool false, .int .i64 g, .int .i64 0, .int .i64 m, .bool false] := heap_alloc_new w _
    go_enter Try.func28, Try.ntmps28
    go_wp2_with fail
    generalize w.alloc (.cells #[.int .i64 4, .int .i64 b, .int .i64 0, .string ⟨#[]⟩, .bool false, .int .i64 g, .int .i64 0, .int .i64 m, .bool false] 40) = w0 at hb0 hk0 ⊢
    obtain ⟨c0, c1, c2, c3, c4, c5, c6, c7, c8⟩ := hk0.nine
    replace c0 := cell_regrown c0
    replace c1 := cell_regrown c1
    replace c2 := cell_regrown c2
    replace c3 := cell_regrown c3
    replace c4 := cell_regrown c4
    replace c5 := cell_regrown c5
    replace c6 := cell_regrown c6
    replace c7 := cell_regrown c7
    replace c8 := cell_regrown c8
    clear hk0
    refine wp_region_quiet_below (by kernel_rfl) (by kernel_rfl) ?_
    repeat (go_big_quiet_step ((first | (go_at_call 34; exact Calls.regrown_of (iKindB _ _)) | (go_at_call 59; exact Calls.regrown_of (iUsed_4 b 0 ⟨#[]⟩ false g 0 m false _)) | (go_at_call 50; exact Calls.regrown_of (isQuic_anyB _ _)))))
    refine wpQuiet_nil ?_
    intro _ hw'
    obtain ⟨⟨dq, osq⟩, hw''⟩ := hw'
    subst hw''
    have h01 := below_next hb0 hb0.size (below_regrown _ dq osq)
    replace c0 := c0 dq osq
    replace c1 := c1 dq osq
    replace c2 := c2 dq osq
    replace c3 := c3 dq osq
    replace c4 := c4 dq osq
    replace c5 := c5 dq osq
    replace c6 := c6 dq osq
    replace c7 := c7 dq osq
    replace c8 := c8 dq osq
    generalize grow (redrawn _ dq) osq = w2 at h01 c0 c1 c2 c3 c4 c5 c6 c7 c8 ⊢
    go_wp2
    go_ret
    exact ⟨rfl, h01⟩
set_option maxHeartbeats 1000000 in
theorem iIs_5 (b c : Int) (d : ByteArray) (e : Bool) (g l m : Int) (u : Bool) (hs : d.size ≤ 1048576) (w : World) :
    Calls Try.prog 28 #[.agg #[.int .i64 5, .int .i64 b, .int .i64 c, .string d, .bool e, .int .i64 g, .int .i64 l, .int .i64 m, .bool u]] w fun x w' => x = .returned (.bool (eqFb 5 b c d e g l m u 5 b 0 ⟨#[]⟩ false g 0 0 false && (qB b && qB g))) ∧ Below w.heap.size w w' := by
  have hkn : (kindB 5).toList.isEmpty = false := by decide +kernel
  have hne := fun W => run_neq_fr 5 b c d e g l m u 5 b 0 ⟨#[]⟩ false g 0 0 false W
  cases hE : eqFb 5 b c d e g l m u 5 b 0 ⟨#[]⟩ false g 0 0 false
  · rw [hE] at hne
    simp only [Bool.not_false] at hne
    have hb0 : Below w.heap.size w (w.alloc (.cells #[.int .i64 5, .int .i64 b, .int .i64 c, .string d, .bool e, .int .i64 g, .int .i64 l, .int .i64 m, .bool u] 40)) := (Below.refl _ _).alloc (Nat.le_refl _) _
    have hk0 : Bk (w.alloc (.cells #[.int .i64 5, .int .i64 b, .int .i64 c, .string d, .bool e, .int .i64 g, .int .i64 l, .int .i64 m, .bool u] 40)) w.heap.size 40 #[.int .i64 5, .int .i64 b, .int .i64 c, .string d, .bool e, .int .i64 g, .int .i64 l, .int .i64 m, .bool u] := heap_alloc_new w _
    go_enter Try.func28, Try.ntmps28
    go_wp2_with fail
    generalize w.alloc (.cells #[.int .i64 5, .int .i64 b, .int .i64 c, .string d, .bool e, .int .i64 g, .int .i64 l, .int .i64 m, .bool u] 40) = w0 at hb0 hk0 ⊢
    obtain ⟨c0, c1, c2, c3, c4, c5, c6, c7, c8⟩ := hk0.nine
    replace c0 := cell_regrown c0
    replace c1 := cell_regrown c1
    replace c2 := cell_regrown c2
    replace c3 := cell_regrown c3
    replace c4 := cell_regrown c4
    replace c5 := cell_regrown c5
    replace c6 := cell_regrown c6
    replace c7 := cell_regrown c7
    replace c8 := cell_regrown c8
    clear hk0
    refine wp_region_quiet_below (by kernel_rfl) (by kernel_rfl) ?_
    repeat (go_big_quiet_step ((first | (go_at_call 34; exact Calls.regrown_of (iKindB _ _)) | (go_at_call 59; exact Calls.regrown_of (iUsed_5 b c d e g l m u _)) | (go_at_call 50; exact Calls.regrown_of (isQuic_anyB _ _)))))
    refine wpQuiet_nil ?_
    intro _ hw'
    obtain ⟨⟨dq, osq⟩, hw''⟩ := hw'
    subst hw''
    have h01 := below_next hb0 hb0.size (below_regrown _ dq osq)
    replace c0 := c0 dq osq
    replace c1 := c1 dq osq
    replace c2 := c2 dq osq
    replace c3 := c3 dq osq
    replace c4 := c4 dq osq
    replace c5 := c5 dq osq
    replace c6 := c6 dq osq
    replace c7 := c7 dq osq
    replace c8 := c8 dq osq
    generalize grow (redrawn _ dq) osq = w2 at h01 c0 c1 c2 c3 c4 c5 c6 c7 c8 ⊢
    go_wp2
    go_ret
    exact ⟨rfl, h01⟩
  · rw [hE] at hne
    simp only [Bool.not_true] at hne
    unfold eqFb at hE
    simp only [Bool.and_eq_true, beq_iff_eq] at hE
    obtain ⟨_, _, zc, zd, ze, _, zl, zm, zu⟩ := hE
    replace zd := none_of zd
    subst zc zd ze zl zm zu
    have q0 : qB 0 = true := rfl
    cases hqb : qB b
    · skip
      have hb0 : Below w.heap.size w (w.alloc (.cells #[.int .i64 5, .int .i64 b, .int .i64 0, .string ⟨#[]⟩, .bool false, .int .i64 g, .int .i64 0, .int .i64 0, .bool false] 40)) := (Below.refl _ _).alloc (Nat.le_refl _) _
      have hk0 : Bk (w.alloc (.cells #[.int .i64 5, .int .i64 b, .int .i64 0, .string ⟨#[]⟩, .bool false, .int .i64 g, .int .i64 0, .int .i64 0, .bool false] 40)) w.heap.size 40 #[.int .i64 5, .int .i64 b, .int .i64 0, .string ⟨#[]⟩, .bool false, .int .i64 g, .int .i64 0, .int .i64 0, .bool false] := heap_alloc_new w _
      go_enter Try.func28, Try.ntmps28
      go_wp2_with fail
      generalize w.alloc (.cells #[.int .i64 5, .int .i64 b, .int .i64 0, .string ⟨#[]⟩, .bool false, .int .i64 g, .int .i64 0, .int .i64 0, .bool false] 40) = w0 at hb0 hk0 ⊢
      obtain ⟨c0, c1, c2, c3, c4, c5, c6, c7, c8⟩ := hk0.nine
      replace c0 := cell_regrown c0
      replace c1 := cell_regrown c1
      replace c2 := cell_regrown c2
      replace c3 := cell_regrown c3
      replace c4 := cell_regrown c4
      replace c5 := cell_regrown c5
      replace c6 := cell_regrown c6
      replace c7 := cell_regrown c7
      replace c8 := cell_regrown c8
      clear hk0
      refine wp_region_quiet_below (by kernel_rfl) (by kernel_rfl) ?_
      repeat (go_big_quiet_step ((first | (go_at_call 34; exact Calls.regrown_of (iKindB _ _)) | (go_at_call 59; exact Calls.regrown_of (iUsed_5 b 0 ⟨#[]⟩ false g 0 0 false _)) | (go_at_call 50; exact Calls.regrown_of (isQuic_anyB _ _)))))
      refine wpQuiet_nil ?_
      intro _ hw'
      obtain ⟨⟨dq, osq⟩, hw''⟩ := hw'
      subst hw''
      have h01 := below_next hb0 hb0.size (below_regrown _ dq osq)
      replace c0 := c0 dq osq
      replace c1 := c1 dq osq
      replace c2 := c2 dq osq
      replace c3 := c3 dq osq
      replace c4 := c4 dq osq
      replace c5 := c5 dq osq
      replace c6 := c6 dq osq
      replace c7 := c7 dq osq
      replace c8 := c8 dq osq
      generalize grow (redrawn _ dq) osq = w2 at h01 c0 c1 c2 c3 c4 c5 c6 c7 c8 ⊢
      go_wp2
      go_ret
      exact ⟨rfl, h01⟩
    cases hqg : qB g
    · skip
      have hb0 : Below w.heap.size w (w.alloc (.cells #[.int .i64 5, .int .i64 b, .int .i64 0, .string ⟨#[]⟩, .bool false, .int .i64 g, .int .i64 0, .int .i64 0, .bool false] 40)) := (Below.refl _ _).alloc (Nat.le_refl _) _
      have hk0 : Bk (w.alloc (.cells #[.int .i64 5, .int .i64 b, .int .i64 0, .string ⟨#[]⟩, .bool false, .int .i64 g, .int .i64 0, .int .i64 0, .bool false] 40)) w.heap.size 40 #[.int .i64 5, .int .i64 b, .int .i64 0, .string ⟨#[]⟩, .bool false, .int .i64 g, .int .i64 0, .int .i64 0, .bool false] := heap_alloc_new w _
      go_enter Try.func28, Try.ntmps28
      go_wp2_with fail
      generalize w.alloc (.cells #[.int .i64 5, .int .i64 b, .int .i64 0, .string ⟨#[]⟩, .bool false, .int .i64 g, .int .i64 0, .int .i64 0, .bool false] 40) = w0 at hb0 hk0 ⊢
      obtain ⟨c0, c1, c2, c3, c4, c5, c6, c7, c8⟩ := hk0.nine
      replace c0 := cell_regrown c0
      replace c1 := cell_regrown c1
      replace c2 := cell_regrown c2
      replace c3 := cell_regrown c3
      replace c4 := cell_regrown c4
      replace c5 := cell_regrown c5
      replace c6 := cell_regrown c6
      replace c7 := cell_regrown c7
      replace c8 := cell_regrown c8
      clear hk0
      refine wp_region_quiet_below (by kernel_rfl) (by kernel_rfl) ?_
      repeat (go_big_quiet_step ((first | (go_at_call 34; exact Calls.regrown_of (iKindB _ _)) | (go_at_call 59; exact Calls.regrown_of (iUsed_5 b 0 ⟨#[]⟩ false g 0 0 false _)) | (go_at_call 50; exact Calls.regrown_of (isQuic_anyB _ _)))))
      refine wpQuiet_nil ?_
      intro _ hw'
      obtain ⟨⟨dq, osq⟩, hw''⟩ := hw'
      subst hw''
      have h01 := below_next hb0 hb0.size (below_regrown _ dq osq)
      replace c0 := c0 dq osq
      replace c1 := c1 dq osq
      replace c2 := c2 dq osq
      replace c3 := c3 dq osq
      replace c4 := c4 dq osq
      replace c5 := c5 dq osq
      replace c6 := c6 dq osq
      replace c7 := c7 dq osq
      replace c8 := c8 dq osq
      generalize grow (redrawn _ dq) osq = w2 at h01 c0 c1 c2 c3 c4 c5 c6 c7 c8 ⊢
      go_wp2
      go_ret
      exact ⟨rfl, h01⟩
    have hb0 : Below w.heap.size w (w.alloc (.cells #[.int .i64 5, .int .i64 b, .int .i64 0, .string ⟨#[]⟩, .bool false, .int .i64 g, .int .i64 0, .int .i64 0, .bool false] 40)) := (Below.refl _ _).alloc (Nat.le_refl _) _
    have hk0 : Bk (w.alloc (.cells #[.int .i64 5, .int .i64 b, .int .i64 0, .string ⟨#[]⟩, .bool false, .int .i64 g, .int .i64 0, .int .i64 0, .bool false] 40)) w.heap.size 40 #[.int .i64 5, .int .i64 b, .int .i64 0, .string ⟨#[]⟩, .bool false, .int .i64 g, .int .i64 0, .int .i64 0, .bool false] := heap_alloc_new w _
    go_enter Try.func28, Try.ntmps28
    go_wp2_with fail
    generalize w.alloc (.cells #[.int .i64 5, .int .i64 b, .int .i64 0, .string ⟨#[]⟩, .bool false, .int .i64 g, .int .i64 0, .int .i64 0, .bool false] 40) = w0 at hb0 hk0 ⊢
    obtain ⟨c0, c1, c2, c3, c4, c5, c6, c7, c8⟩ := hk0.nine
    replace c0 := cell_regrown c0
    replace c1 := cell_regrown c1
    replace c2 := cell_regrown c2
    replace c3 := cell_regrown c3
    replace c4 := cell_regrown c4
    replace c5 := cell_regrown c5
    replace c6 := cell_regrown c6
    replace c7 := cell_regrown c7
    replace c8 := cell_regrown c8
    clear hk0
    refine wp_region_quiet_below (by kernel_rfl) (by kernel_rfl) ?_
    repeat (go_big_quiet_step ((first | (go_at_call 34; exact Calls.regrown_of (iKindB _ _)) | (go_at_call 59; exact Calls.regrown_of (iUsed_5 b 0 ⟨#[]⟩ false g 0 0 false _)) | (go_at_call 50; exact Calls.regrown_of (isQuic_anyB _ _)))))
    refine wpQuiet_nil ?_
    intro _ hw'
    obtain ⟨⟨dq, osq⟩, hw''⟩ := hw'
    subst hw''
    have h01 := below_next hb0 hb0.size (below_regrown _ dq osq)
    replace c0 := c0 dq osq
    replace c1 := c1 dq osq
    replace c2 := c2 dq osq
    replace c3 := c3 dq osq
    replace c4 := c4 dq osq
    replace c5 := c5 dq osq
    replace c6 := c6 dq osq
    replace c7 := c7 dq osq
    replace c8 := c8 dq osq
    generalize grow (redrawn _ dq) osq = w2 at h01 c0 c1 c2 c3 c4 c5 c6 c7 c8 ⊢
    go_wp2
    go_ret
    exact ⟨rfl, h01⟩
set_option maxHeartbeats 1000000 in
theorem iIs_8 (b c : Int) (d : ByteArray) (e : Bool) (g l m : Int) (u : Bool) (hs : d.size ≤ 1048576) (w : World) :
    Calls Try.prog 28 #[.agg #[.int .i64 8, .int .i64 b, .int .i64 c, .string d, .bool e, .int .i64 g, .int .i64 l, .int .i64 m, .bool u]] w fun x w' => x = .returned (.bool (eqFb 8 b c d e g l m u 8 b c d e 0 0 0 false && (qB b && (qB c && (decide ((d.size : Int) ≤ 400) && decide (c ≤ 4611686018427387903 - (d.size : Int))))))) ∧ Below w.heap.size w w' := by
  have hkn : (kindB 8).toList.isEmpty = false := by decide +kernel
  have hne := fun W => run_neq_fr 8 b c d e g l m u 8 b c d e 0 0 0 false W
  cases hE : eqFb 8 b c d e g l m u 8 b c d e 0 0 0 false
  · rw [hE] at hne
    simp only [Bool.not_false] at hne
    have hb0 : Below w.heap.size w (w.alloc (.cells #[.int .i64 8, .int .i64 b, .int .i64 c, .string d, .bool e, .int .i64 g, .int .i64 l, .int .i64 m, .bool u] 40)) := (Below.refl _ _).alloc (Nat.le_refl _) _
    have hk0 : Bk (w.alloc (.cells #[.int .i64 8, .int .i64 b, .int .i64 c, .string d, .bool e, .int .i64 g, .int .i64 l, .int .i64 m, .bool u] 40)) w.heap.size 40 #[.int .i64 8, .int .i64 b, .int .i64 c, .string d, .bool e, .int .i64 g, .int .i64 l, .int .i64 m, .bool u] := heap_alloc_new w _
    go_enter Try.func28, Try.ntmps28
    go_wp2_with fail
    generalize w.alloc (.cells #[.int .i64 8, .int .i64 b, .int .i64 c, .string d, .bool e, .int .i64 g, .int .i64 l, .int .i64 m, .bool u] 40) = w0 at hb0 hk0 ⊢
    obtain ⟨c0, c1, c2, c3, c4, c5, c6, c7, c8⟩ := hk0.nine
    replace c0 := cell_regrown c0
    replace c1 := cell_regrown c1
    replace c2 := cell_regrown c2
    replace c3 := cell_regrown c3
    replace c4 := cell_regrown c4
    replace c5 := cell_regrown c5
    replace c6 := cell_regrown c6
    replace c7 := cell_regrown c7
    replace c8 := cell_regrown c8
    clear hk0
    refine wp_region_quiet_below (by kernel_rfl) (by kernel_rfl) ?_
    repeat (go_big_quiet_step ((first | (go_at_call 34; exact Calls.regrown_of (iKindB _ _)) | (go_at_call 59; exact Calls.regrown_of (iUsed_8 b c d e g l m u _)) | (go_at_call 50; exact Calls.regrown_of (isQuic_anyB _ _)))))
    refine wpQuiet_nil ?_
    intro _ hw'
    obtain ⟨⟨dq, osq⟩, hw''⟩ := hw'
    subst hw''
    have h01 := below_next hb0 hb0.size (below_regrown _ dq osq)
    replace c0 := c0 dq osq
    replace c1 := c1 dq osq
    replace c2 := c2 dq osq
    replace c3 := c3 dq osq
    replace c4 := c4 dq osq
    replace c5 := c5 dq osq
    replace c6 := c6 dq osq
    replace c7 := c7 dq osq
    replace c8 := c8 dq osq
    generalize grow (redrawn _ dq) osq = w2 at h01 c0 c1 c2 c3 c4 c5 c6 c7 c8 ⊢
    go_wp2
    go_ret
    exact ⟨rfl, h01⟩
  · rw [hE] at hne
    simp only [Bool.not_true] at hne
    unfold eqFb at hE
    simp only [Bool.and_eq_true, beq_iff_eq] at hE
    obtain ⟨_, _, _, _, _, zg, zl, zm, zu⟩ := hE
    subst zg zl zm zu
    have q0 : qB 0 = true := rfl
    cases hqb : qB b
    · skip
      have hb0 : Below w.heap.size w (w.alloc (.cells #[.int .i64 8, .int .i64 b, .int .i64 c, .string d, .bool e, .int .i64 0, .int .i64 0, .int .i64 0, .bool false] 40)) := (Below.refl _ _).alloc (Nat.le_refl _) _
      have hk0 : Bk (w.alloc (.cells #[.int .i64 8, .int .i64 b, .int .i64 c, .string d, .bool e, .int .i64 0, .int .i64 0, .int .i64 0, .bool false] 40)) w.heap.size 40 #[.int .i64 8, .int .i64 b, .int .i64 c, .string d, .bool e, .int .i64 0, .int .i64 0, .int .i64 0, .bool false] := heap_alloc_new w _
      go_enter Try.func28, Try.ntmps28
      go_wp2_with fail
      generalize w.alloc (.cells #[.int .i64 8, .int .i64 b, .int .i64 c, .string d, .bool e, .int .i64 0, .int .i64 0, .int .i64 0, .bool false] 40) = w0 at hb0 hk0 ⊢
      obtain ⟨c0, c1, c2, c3, c4, c5, c6, c7, c8⟩ := hk0.nine
      replace c0 := cell_regrown c0
      replace c1 := cell_regrown c1
      replace c2 := cell_regrown c2
      replace c3 := cell_regrown c3
      replace c4 := cell_regrown c4
      replace c5 := cell_regrown c5
      replace c6 := cell_regrown c6
      replace c7 := cell_regrown c7
      replace c8 := cell_regrown c8
      clear hk0
      refine wp_region_quiet_below (by kernel_rfl) (by kernel_rfl) ?_
      repeat (go_big_quiet_step ((first | (go_at_call 34; exact Calls.regrown_of (iKindB _ _)) | (go_at_call 59; exact Calls.regrown_of (iUsed_8 b c d e 0 0 0 false _)) | (go_at_call 50; exact Calls.regrown_of (isQuic_anyB _ _)))))
      refine wpQuiet_nil ?_
      intro _ hw'
      obtain ⟨⟨dq, osq⟩, hw''⟩ := hw'
      subst hw''
      have h01 := below_next hb0 hb0.size (below_regrown _ dq osq)
      replace c0 := c0 dq osq
      replace c1 := c1 dq osq
      replace c2 := c2 dq osq
      replace c3 := c3 dq osq
      replace c4 := c4 dq osq
      replace c5 := c5 dq osq
      replace c6 := c6 dq osq
      replace c7 := c7 dq osq
      replace c8 := c8 dq osq
      generalize grow (redrawn _ dq) osq = w2 at h01 c0 c1 c2 c3 c4 c5 c6 c7 c8 ⊢
      go_wp2
      go_ret
      exact ⟨rfl, h01⟩
    cases hqc : qB c
    · skip
      have hb0 : Below w.heap.size w (w.alloc (.cells #[.int .i64 8, .int .i64 b, .int .i64 c, .string d, .bool e, .int .i64 0, .int .i64 0, .int .i64 0, .bool false] 40)) := (Below.refl _ _).alloc (Nat.le_refl _) _
      have hk0 : Bk (w.alloc (.cells #[.int .i64 8, .int .i64 b, .int .i64 c, .string d, .bool e, .int .i64 0, .int .i64 0, .int .i64 0, .bool false] 40)) w.heap.size 40 #[.int .i64 8, .int .i64 b, .int .i64 c, .string d, .bool e, .int .i64 0, .int .i64 0, .int .i64 0, .bool false] := heap_alloc_new w _
      go_enter Try.func28, Try.ntmps28
      go_wp2_with fail
      generalize w.alloc (.cells #[.int .i64 8, .int .i64 b, .int .i64 c, .string d, .bool e, .int .i64 0, .int .i64 0, .int .i64 0, .bool false] 40) = w0 at hb0 hk0 ⊢
      obtain ⟨c0, c1, c2, c3, c4, c5, c6, c7, c8⟩ := hk0.nine
      replace c0 := cell_regrown c0
      replace c1 := cell_regrown c1
      replace c2 := cell_regrown c2
      replace c3 := cell_regrown c3
      replace c4 := cell_regrown c4
      replace c5 := cell_regrown c5
      replace c6 := cell_regrown c6
      replace c7 := cell_regrown c7
      replace c8 := cell_regrown c8
      clear hk0
      refine wp_region_quiet_below (by kernel_rfl) (by kernel_rfl) ?_
      repeat (go_big_quiet_step ((first | (go_at_call 34; exact Calls.regrown_of (iKindB _ _)) | (go_at_call 59; exact Calls.regrown_of (iUsed_8 b c d e 0 0 0 false _)) | (go_at_call 50; exact Calls.regrown_of (isQuic_anyB _ _)))))
      refine wpQuiet_nil ?_
      intro _ hw'
      obtain ⟨⟨dq, osq⟩, hw''⟩ := hw'
      subst hw''
      have h01 := below_next hb0 hb0.size (below_regrown _ dq osq)
      replace c0 := c0 dq osq
      replace c1 := c1 dq osq
      replace c2 := c2 dq osq
      replace c3 := c3 dq osq
      replace c4 := c4 dq osq
      replace c5 := c5 dq osq
      replace c6 := c6 dq osq
      replace c7 := c7 dq osq
      replace c8 := c8 dq osq
      generalize grow (redrawn _ dq) osq = w2 at h01 c0 c1 c2 c3 c4 c5 c6 c7 c8 ⊢
      go_wp2
      go_ret
      exact ⟨rfl, h01⟩
    by_cases hsz : (d.size : Int) ≤ 400
    rotate_left
    · have hd1 : decide ((d.size : Int) ≤ 400) = false := by simpa using hsz
      have hd2 : decide ((400 : Int) < (d.size : Int)) = true := by simp; omega
      rw [hd1]
      have hb0 : Below w.heap.size w (w.alloc (.cells #[.int .i64 8, .int .i64 b, .int .i64 c, .string d, .bool e, .int .i64 0, .int .i64 0, .int .i64 0, .bool false] 40)) := (Below.refl _ _).alloc (Nat.le_refl _) _
      have hk0 : Bk (w.alloc (.cells #[.int .i64 8, .int .i64 b, .int .i64 c, .string d, .bool e, .int .i64 0, .int .i64 0, .int .i64 0, .bool false] 40)) w.heap.size 40 #[.int .i64 8, .int .i64 b, .int .i64 c, .string d, .bool e, .int .i64 0, .int .i64 0, .int .i64 0, .bool false] := heap_alloc_new w _
      go_enter Try.func28, Try.ntmps28
      go_wp2_with fail
      generalize w.alloc (.cells #[.int .i64 8, .int .i64 b, .int .i64 c, .string d, .bool e, .int .i64 0, .int .i64 0, .int .i64 0, .bool false] 40) = w0 at hb0 hk0 ⊢
      obtain ⟨c0, c1, c2, c3, c4, c5, c6, c7, c8⟩ := hk0.nine
      replace c0 := cell_regrown c0
      replace c1 := cell_regrown c1
      replace c2 := cell_regrown c2
      replace c3 := cell_regrown c3
      replace c4 := cell_regrown c4
      replace c5 := cell_regrown c5
      replace c6 := cell_regrown c6
      replace c7 := cell_regrown c7
      replace c8 := cell_regrown c8
      clear hk0
      refine wp_region_quiet_below (by kernel_rfl) (by kernel_rfl) ?_
      repeat (go_big_quiet_step ((first | (go_at_call 34; exact Calls.regrown_of (iKindB _ _)) | (go_at_call 59; exact Calls.regrown_of (iUsed_8 b c d e 0 0 0 false _)) | (go_at_call 50; exact Calls.regrown_of (isQuic_anyB _ _)))))
      refine wpQuiet_nil ?_
      intro _ hw'
      obtain ⟨⟨dq, osq⟩, hw''⟩ := hw'
      subst hw''
      have h01 := below_next hb0 hb0.size (below_regrown _ dq osq)
      replace c0 := c0 dq osq
      replace c1 := c1 dq osq
      replace c2 := c2 dq osq
      replace c3 := c3 dq osq
      replace c4 := c4 dq osq
      replace c5 := c5 dq osq
      replace c6 := c6 dq osq
      replace c7 := c7 dq osq
      replace c8 := c8 dq osq
      generalize grow (redrawn _ dq) osq = w2 at h01 c0 c1 c2 c3 c4 c5 c6 c7 c8 ⊢
      go_wp2
      go_ret
      exact ⟨rfl, h01⟩
    have hd1 : decide ((d.size : Int) ≤ 400) = true := by simpa using hsz
    have hd2 : decide ((400 : Int) < (d.size : Int)) = false := by simp; omega
    rw [hd1]
    have hb0 : Below w.heap.size w (w.alloc (.cells #[.int .i64 8, .int .i64 b, .int .i64 c, .string d, .bool e, .int .i64 0, .int .i64 0, .int .i64 0, .bool false] 40)) := (Below.refl _ _).alloc (Nat.le_refl _) _
    have hk0 : Bk (w.alloc (.cells #[.int .i64 8, .int .i64 b, .int .i64 c, .string d, .bool e, .int .i64 0, .int .i64 0, .int .i64 0, .bool false] 40)) w.heap.size 40 #[.int .i64 8, .int .i64 b, .int .i64 c, .string d, .bool e, .int .i64 0, .int .i64 0, .int .i64 0, .bool false] := heap_alloc_new w _
    go_enter Try.func28, Try.ntmps28
    go_wp2_with fail
    generalize w.alloc (.cells #[.int .i64 8, .int .i64 b, .int .i64 c, .string d, .bool e, .int .i64 0, .int .i64 0, .int .i64 0, .bool false] 40) = w0 at hb0 hk0 ⊢
    obtain ⟨c0, c1, c2, c3, c4, c5, c6, c7, c8⟩ := hk0.nine
    replace c0 := cell_regrown c0
    replace c1 := cell_regrown c1
    replace c2 := cell_regrown c2
    replace c3 := cell_regrown c3
    replace c4 := cell_regrown c4
    replace c5 := cell_regrown c5
    replace c6 := cell_regrown c6
    replace c7 := cell_regrown c7
    replace c8 := cell_regrown c8
    clear hk0
    refine wp_region_quiet_below (by kernel_rfl) (by kernel_rfl) ?_
    repeat (go_big_quiet_step ((first | (go_at_call 34; exact Calls.regrown_of (iKindB _ _)) | (go_at_call 59; exact Calls.regrown_of (iUsed_8 b c d e 0 0 0 false _)) | (go_at_call 50; exact Calls.regrown_of (isQuic_anyB _ _)))))
    refine wpQuiet_nil ?_
    intro _ hw'
    obtain ⟨⟨dq, osq⟩, hw''⟩ := hw'
    subst hw''
    have h01 := below_next hb0 hb0.size (below_regrown _ dq osq)
    replace c0 := c0 dq osq
    replace c1 := c1 dq osq
    replace c2 := c2 dq osq
    replace c3 := c3 dq osq
    replace c4 := c4 dq osq
    replace c5 := c5 dq osq
    replace c6 := c6 dq osq
    replace c7 := c7 dq osq
    replace c8 := c8 dq osq
    generalize grow (redrawn _ dq) osq = w2 at h01 c0 c1 c2 c3 c4 c5 c6 c7 c8 ⊢
    go_wp2
    go_ret
    exact ⟨rfl, h01⟩
set_option maxHeartbeats 1000000 in
theorem iIs_16 (b c : Int) (d : ByteArray) (e : Bool) (g l m : Int) (u : Bool) (hs : d.size ≤ 1048576) (w : World) :
    Calls Try.prog 28 #[.agg #[.int .i64 16, .int .i64 b, .int .i64 c, .string d, .bool e, .int .i64 g, .int .i64 l, .int .i64 m, .bool u]] w fun x w' => x = .returned (.bool (eqFb 16 b c d e g l m u 16 0 0 ⟨#[]⟩ false 0 l 0 false && qB l)) ∧ Below w.heap.size w w' := by
  have hkn : (kindB 16).toList.isEmpty = false := by decide +kernel
  have hne := fun W => run_neq_fr 16 b c d e g l m u 16 0 0 ⟨#[]⟩ false 0 l 0 false W
  cases hE : eqFb 16 b c d e g l m u 16 0 0 ⟨#[]⟩ false 0 l 0 false
  · rw [hE] at hne
    simp only [Bool.not_false] at hne
    have hb0 : Below w.heap.size w (w.alloc (.cells #[.int .i64 16, .int .i64 b, .int .i64 c, .string d, .bool e, .int .i64 g, .int .i64 l, .int .i64 m, .bool u] 40)) := (Below.refl _ _).alloc (Nat.le_refl _) _
    have hk0 : Bk (w.alloc (.cells #[.int .i64 16, .int .i64 b, .int .i64 c, .string d, .bool e, .int .i64 g, .int .i64 l, .int .i64 m, .bool u] 40)) w.heap.size 40 #[.int .i64 16, .int .i64 b, .int .i64 c, .string d, .bool e, .int .i64 g, .int .i64 l, .int .i64 m, .bool u] := heap_alloc_new w _
    go_enter Try.func28, Try.ntmps28
    go_wp2_with fail
    generalize w.alloc (.cells #[.int .i64 16, .int .i64 b, .int .i64 c, .string d, .bool e, .int .i64 g, .int .i64 l, .int .i64 m, .bool u] 40) = w0 at hb0 hk0 ⊢
    obtain ⟨c0, c1, c2, c3, c4, c5, c6, c7, c8⟩ := hk0.nine
    replace c0 := cell_regrown c0
    replace c1 := cell_regrown c1
    replace c2 := cell_regrown c2
    replace c3 := cell_regrown c3
    replace c4 := cell_regrown c4
    replace c5 := cell_regrown c5
    replace c6 := cell_regrown c6
    replace c7 := cell_regrown c7
    replace c8 := cell_regrown c8
    clear hk0
    refine wp_region_quiet_below (by kernel_rfl) (by kernel_rfl) ?_
    repeat (go_big_quiet_step ((first | (go_at_call 34; exact Calls.regrown_of (iKindB _ _)) | (go_at_call 59; exact Calls.regrown_of (iUsed_16 b c d e g l m u _)) | (go_at_call 50; exact Calls.regrown_of (isQuic_anyB _ _)))))
    refine wpQuiet_nil ?_
    intro _ hw'
    obtain ⟨⟨dq, osq⟩, hw''⟩ := hw'
    subst hw''
    have h01 := below_next hb0 hb0.size (below_regrown _ dq osq)
    replace c0 := c0 dq osq
    replace c1 := c1 dq osq
    replace c2 := c2 dq osq
    replace c3 := c3 dq osq
    replace c4 := c4 dq osq
    replace c5 := c5 dq osq
    replace c6 := c6 dq osq
    replace c7 := c7 dq osq
    replace c8 := c8 dq osq
    generalize grow (redrawn _ dq) osq = w2 at h01 c0 c1 c2 c3 c4 c5 c6 c7 c8 ⊢
    go_wp2
    go_ret
    exact ⟨rfl, h01⟩
  · rw [hE] at hne
    simp only [Bool.not_true] at hne
    unfold eqFb at hE
    simp only [Bool.and_eq_true, beq_iff_eq] at hE
    obtain ⟨_, zb, zc, zd, ze, zg, _, zm, zu⟩ := hE
    replace zd := none_of zd
    subst zb zc zd ze zg zm zu
    have q0 : qB 0 = true := rfl
    cases hql : qB l
    · skip
      have hb0 : Below w.heap.size w (w.alloc (.cells #[.int .i64 16, .int .i64 0, .int .i64 0, .string ⟨#[]⟩, .bool false, .int .i64 0, .int .i64 l, .int .i64 0, .bool false] 40)) := (Below.refl _ _).alloc (Nat.le_refl _) _
      have hk0 : Bk (w.alloc (.cells #[.int .i64 16, .int .i64 0, .int .i64 0, .string ⟨#[]⟩, .bool false, .int .i64 0, .int .i64 l, .int .i64 0, .bool false] 40)) w.heap.size 40 #[.int .i64 16, .int .i64 0, .int .i64 0, .string ⟨#[]⟩, .bool false, .int .i64 0, .int .i64 l, .int .i64 0, .bool false] := heap_alloc_new w _
      go_enter Try.func28, Try.ntmps28
      go_wp2_with fail
      generalize w.alloc (.cells #[.int .i64 16, .int .i64 0, .int .i64 0, .string ⟨#[]⟩, .bool false, .int .i64 0, .int .i64 l, .int .i64 0, .bool false] 40) = w0 at hb0 hk0 ⊢
      obtain ⟨c0, c1, c2, c3, c4, c5, c6, c7, c8⟩ := hk0.nine
      replace c0 := cell_regrown c0
      replace c1 := cell_regrown c1
      replace c2 := cell_regrown c2
      replace c3 := cell_regrown c3
      replace c4 := cell_regrown c4
      replace c5 := cell_regrown c5
      replace c6 := cell_regrown c6
      replace c7 := cell_regrown c7
      replace c8 := cell_regrown c8
      clear hk0
      refine wp_region_quiet_below (by kernel_rfl) (by kernel_rfl) ?_
      repeat (go_big_quiet_step ((first | (go_at_call 34; exact Calls.regrown_of (iKindB _ _)) | (go_at_call 59; exact Calls.regrown_of (iUsed_16 0 0 ⟨#[]⟩ false 0 l 0 false _)) | (go_at_call 50; exact Calls.regrown_of (isQuic_anyB _ _)))))
      refine wpQuiet_nil ?_
      intro _ hw'
      obtain ⟨⟨dq, osq⟩, hw''⟩ := hw'
      subst hw''
      have h01 := below_next hb0 hb0.size (below_regrown _ dq osq)
      replace c0 := c0 dq osq
      replace c1 := c1 dq osq
      replace c2 := c2 dq osq
      replace c3 := c3 dq osq
      replace c4 := c4 dq osq
      replace c5 := c5 dq osq
      replace c6 := c6 dq osq
      replace c7 := c7 dq osq
      replace c8 := c8 dq osq
      generalize grow (redrawn _ dq) osq = w2 at h01 c0 c1 c2 c3 c4 c5 c6 c7 c8 ⊢
      go_wp2
      go_ret
      exact ⟨rfl, h01⟩
    have hb0 : Below w.heap.size w (w.alloc (.cells #[.int .i64 16, .int .i64 0, .int .i64 0, .string ⟨#[]⟩, .bool false, .int .i64 0, .int .i64 l, .int .i64 0, .bool false] 40)) := (Below.refl _ _).alloc (Nat.le_refl _) _
    have hk0 : Bk (w.alloc (.cells #[.int .i64 16, .int .i64 0, .int .i64 0, .string ⟨#[]⟩, .bool false, .int .i64 0, .int .i64 l, .int .i64 0, .bool false] 40)) w.heap.size 40 #[.int .i64 16, .int .i64 0, .int .i64 0, .string ⟨#[]⟩, .bool false, .int .i64 0, .int .i64 l, .int .i64 0, .bool false] := heap_alloc_new w _
    go_enter Try.func28, Try.ntmps28
    go_wp2_with fail
    generalize w.alloc (.cells #[.int .i64 16, .int .i64 0, .int .i64 0, .string ⟨#[]⟩, .bool false, .int .i64 0, .int .i64 l, .int .i64 0, .bool false] 40) = w0 at hb0 hk0 ⊢
    obtain ⟨c0, c1, c2, c3, c4, c5, c6, c7, c8⟩ := hk0.nine
    replace c0 := cell_regrown c0
    replace c1 := cell_regrown c1
    replace c2 := cell_regrown c2
    replace c3 := cell_regrown c3
    replace c4 := cell_regrown c4
    replace c5 := cell_regrown c5
    replace c6 := cell_regrown c6
    replace c7 := cell_regrown c7
    replace c8 := cell_regrown c8
    clear hk0
    refine wp_region_quiet_below (by kernel_rfl) (by kernel_rfl) ?_
    repeat (go_big_quiet_step ((first | (go_at_call 34; exact Calls.regrown_of (iKindB _ _)) | (go_at_call 59; exact Calls.regrown_of (iUsed_16 0 0 ⟨#[]⟩ false 0 l 0 false _)) | (go_at_call 50; exact Calls.regrown_of (isQuic_anyB _ _)))))
    refine wpQuiet_nil ?_
    intro _ hw'
    obtain ⟨⟨dq, osq⟩, hw''⟩ := hw'
    subst hw''
    have h01 := below_next hb0 hb0.size (below_regrown _ dq osq)
    replace c0 := c0 dq osq
    replace c1 := c1 dq osq
    replace c2 := c2 dq osq
    replace c3 := c3 dq osq
    replace c4 := c4 dq osq
    replace c5 := c5 dq osq
    replace c6 := c6 dq osq
    replace c7 := c7 dq osq
    replace c8 := c8 dq osq
    generalize grow (redrawn _ dq) osq = w2 at h01 c0 c1 c2 c3 c4 c5 c6 c7 c8 ⊢
    go_wp2
    go_ret
    exact ⟨rfl, h01⟩
set_option maxHeartbeats 1000000 in
theorem iIs_17 (b c : Int) (d : ByteArray) (e : Bool) (g l m : Int) (u : Bool) (hs : d.size ≤ 1048576) (w : World) :
    Calls Try.prog 28 #[.agg #[.int .i64 17, .int .i64 b, .int .i64 c, .string d, .bool e, .int .i64 g, .int .i64 l, .int .i64 m, .bool u]] w fun x w' => x = .returned (.bool (eqFb 17 b c d e g l m u 17 b 0 ⟨#[]⟩ false 0 l 0 false && (qB b && qB l))) ∧ Below w.heap.size w w' := by
  have hkn : (kindB 17).toList.isEmpty = false := by decide +kernel
  have hne := fun W => run_neq_fr 17 b c d e g l m u 17 b 0 ⟨#[]⟩ false 0 l 0 false W
  cases hE : eqFb 17 b c d e g l m u 17 b 0 ⟨#[]⟩ false 0 l 0 false
  · rw [hE] at hne
    simp only [Bool.not_false] at hne
    have hb0 : Below w.heap.size w (w.alloc (.cells #[.int .i64 17, .int .i64 b, .int .i64 c, .string d, .bool e, .int .i64 g, .int .i64 l, .int .i64 m, .bool u] 40)) := (Below.refl _ _).alloc (Nat.le_refl _) _
    have hk0 : Bk (w.alloc (.cells #[.int .i64 17, .int .i64 b, .int .i64 c, .string d, .bool e, .int .i64 g, .int .i64 l, .int .i64 m, .bool u] 40)) w.heap.size 40 #[.int .i64 17, .int .i64 b, .int .i64 c, .string d, .bool e, .int .i64 g, .int .i64 l, .int .i64 m, .bool u] := heap_alloc_new w _
    go_enter Try.func28, Try.ntmps28
    go_wp2_with fail
    generalize w.alloc (.cells #[.int .i64 17, .int .i64 b, .int .i64 c, .string d, .bool e, .int .i64 g, .int .i64 l, .int .i64 m, .bool u] 40) = w0 at hb0 hk0 ⊢
    obtain ⟨c0, c1, c2, c3, c4, c5, c6, c7, c8⟩ := hk0.nine
    replace c0 := cell_regrown c0
    replace c1 := cell_regrown c1
    replace c2 := cell_regrown c2
    replace c3 := cell_regrown c3
    replace c4 := cell_regrown c4
    replace c5 := cell_regrown c5
    replace c6 := cell_regrown c6
    replace c7 := cell_regrown c7
    replace c8 := cell_regrown c8
    clear hk0
    refine wp_region_quiet_below (by kernel_rfl) (by kernel_rfl) ?_
    repeat (go_big_quiet_step ((first | (go_at_call 34; exact Calls.regrown_of (iKindB _ _)) | (go_at_call 59; exact Calls.regrown_of (iUsed_17 b c d e g l m u _)) | (go_at_call 50; exact Calls.regrown_of (isQuic_anyB _ _)))))
    refine wpQuiet_nil ?_
    intro _ hw'
    obtain ⟨⟨dq, osq⟩, hw''⟩ := hw'
    subst hw''
    have h01 := below_next hb0 hb0.size (below_regrown _ dq osq)
    replace c0 := c0 dq osq
    replace c1 := c1 dq osq
    replace c2 := c2 dq osq
    replace c3 := c3 dq osq
    replace c4 := c4 dq osq
    replace c5 := c5 dq osq
    replace c6 := c6 dq osq
    replace c7 := c7 dq osq
    replace c8 := c8 dq osq
    generalize grow (redrawn _ dq) osq = w2 at h01 c0 c1 c2 c3 c4 c5 c6 c7 c8 ⊢
    go_wp2
    go_ret
    exact ⟨rfl, h01⟩
  · rw [hE] at hne
    simp only [Bool.not_true] at hne
    unfold eqFb at hE
    simp only [Bool.and_eq_true, beq_iff_eq] at hE
    obtain ⟨_, _, zc, zd, ze, zg, _, zm, zu⟩ := hE
    replace zd := none_of zd
    subst zc zd ze zg zm zu
    have q0 : qB 0 = true := rfl
    cases hqb : qB b
    · skip
      have hb0 : Below w.heap.size w (w.alloc (.cells #[.int .i64 17, .int .i64 b, .int .i64 0, .string ⟨#[]⟩, .bool false, .int .i64 0, .int .i64 l, .int .i64 0, .bool false] 40)) := (Below.refl _ _).alloc (Nat.le_refl _) _
      have hk0 : Bk (w.alloc (.cells #[.int .i64 17, .int .i64 b, .int .i64 0, .string ⟨#[]⟩, .bool false, .int .i64 0, .int .i64 l, .int .i64 0, .bool false] 40)) w.heap.size 40 #[.int .i64 17, .int .i64 b, .int .i64 0, .string ⟨#[]⟩, .bool false, .int .i64 0, .int .i64 l, .int .i64 0, .bool false] := heap_alloc_new w _
      go_enter Try.func28, Try.ntmps28
      go_wp2_with fail
      generalize w.alloc (.cells #[.int .i64 17, .int .i64 b, .int .i64 0, .string ⟨#[]⟩, .bool false, .int .i64 0, .int .i64 l, .int .i64 0, .bool false] 40) = w0 at hb0 hk0 ⊢
      obtain ⟨c0, c1, c2, c3, c4, c5, c6, c7, c8⟩ := hk0.nine
      replace c0 := cell_regrown c0
      replace c1 := cell_regrown c1
      replace c2 := cell_regrown c2
      replace c3 := cell_regrown c3
      replace c4 := cell_regrown c4
      replace c5 := cell_regrown c5
      replace c6 := cell_regrown c6
      replace c7 := cell_regrown c7
      replace c8 := cell_regrown c8
      clear hk0
      refine wp_region_quiet_below (by kernel_rfl) (by kernel_rfl) ?_
      repeat (go_big_quiet_step ((first | (go_at_call 34; exact Calls.regrown_of (iKindB _ _)) | (go_at_call 59; exact Calls.regrown_of (iUsed_17 b 0 ⟨#[]⟩ false 0 l 0 false _)) | (go_at_call 50; exact Calls.regrown_of (isQuic_anyB _ _)))))
      refine wpQuiet_nil ?_
      intro _ hw'
      obtain ⟨⟨dq, osq⟩, hw''⟩ := hw'
      subst hw''
      have h01 := below_next hb0 hb0.size (below_regrown _ dq osq)
      replace c0 := c0 dq osq
      replace c1 := c1 dq osq
      replace c2 := c2 dq osq
      replace c3 := c3 dq osq
      replace c4 := c4 dq osq
      replace c5 := c5 dq osq
      replace c6 := c6 dq osq
      replace c7 := c7 dq osq
      replace c8 := c8 dq osq
      generalize grow (redrawn _ dq) osq = w2 at h01 c0 c1 c2 c3 c4 c5 c6 c7 c8 ⊢
      go_wp2
      go_ret
      exact ⟨rfl, h01⟩
    cases hql : qB l
    · skip
      have hb0 : Below w.heap.size w (w.alloc (.cells #[.int .i64 17, .int .i64 b, .int .i64 0, .string ⟨#[]⟩, .bool false, .int .i64 0, .int .i64 l, .int .i64 0, .bool false] 40)) := (Below.refl _ _).alloc (Nat.le_refl _) _
      have hk0 : Bk (w.alloc (.cells #[.int .i64 17, .int .i64 b, .int .i64 0, .string ⟨#[]⟩, .bool false, .int .i64 0, .int .i64 l, .int .i64 0, .bool false] 40)) w.heap.size 40 #[.int .i64 17, .int .i64 b, .int .i64 0, .string ⟨#[]⟩, .bool false, .int .i64 0, .int .i64 l, .int .i64 0, .bool false] := heap_alloc_new w _
      go_enter Try.func28, Try.ntmps28
      go_wp2_with fail
      generalize w.alloc (.cells #[.int .i64 17, .int .i64 b, .int .i64 0, .string ⟨#[]⟩, .bool false, .int .i64 0, .int .i64 l, .int .i64 0, .bool false] 40) = w0 at hb0 hk0 ⊢
      obtain ⟨c0, c1, c2, c3, c4, c5, c6, c7, c8⟩ := hk0.nine
      replace c0 := cell_regrown c0
      replace c1 := cell_regrown c1
      replace c2 := cell_regrown c2
      replace c3 := cell_regrown c3
      replace c4 := cell_regrown c4
      replace c5 := cell_regrown c5
      replace c6 := cell_regrown c6
      replace c7 := cell_regrown c7
      replace c8 := cell_regrown c8
      clear hk0
      refine wp_region_quiet_below (by kernel_rfl) (by kernel_rfl) ?_
      repeat (go_big_quiet_step ((first | (go_at_call 34; exact Calls.regrown_of (iKindB _ _)) | (go_at_call 59; exact Calls.regrown_of (iUsed_17 b 0 ⟨#[]⟩ false 0 l 0 false _)) | (go_at_call 50; exact Calls.regrown_of (isQuic_anyB _ _)))))
      refine wpQuiet_nil ?_
      intro _ hw'
      obtain ⟨⟨dq, osq⟩, hw''⟩ := hw'
      subst hw''
      have h01 := below_next hb0 hb0.size (below_regrown _ dq osq)
      replace c0 := c0 dq osq
      replace c1 := c1 dq osq
      replace c2 := c2 dq osq
      replace c3 := c3 dq osq
      replace c4 := c4 dq osq
      replace c5 := c5 dq osq
      replace c6 := c6 dq osq
      replace c7 := c7 dq osq
      replace c8 := c8 dq osq
      generalize grow (redrawn _ dq) osq = w2 at h01 c0 c1 c2 c3 c4 c5 c6 c7 c8 ⊢
      go_wp2
      go_ret
      exact ⟨rfl, h01⟩
    have hb0 : Below w.heap.size w (w.alloc (.cells #[.int .i64 17, .int .i64 b, .int .i64 0, .string ⟨#[]⟩, .bool false, .int .i64 0, .int .i64 l, .int .i64 0, .bool false] 40)) := (Below.refl _ _).alloc (Nat.le_refl _) _
    have hk0 : Bk (w.alloc (.cells #[.int .i64 17, .int .i64 b, .int .i64 0, .string ⟨#[]⟩, .bool false, .int .i64 0, .int .i64 l, .int .i64 0, .bool false] 40)) w.heap.size 40 #[.int .i64 17, .int .i64 b, .int .i64 0, .string ⟨#[]⟩, .bool false, .int .i64 0, .int .i64 l, .int .i64 0, .bool false] := heap_alloc_new w _
    go_enter Try.func28, Try.ntmps28
    go_wp2_with fail
    generalize w.alloc (.cells #[.int .i64 17, .int .i64 b, .int .i64 0, .string ⟨#[]⟩, .bool false, .int .i64 0, .int .i64 l, .int .i64 0, .bool false] 40) = w0 at hb0 hk0 ⊢
    obtain ⟨c0, c1, c2, c3, c4, c5, c6, c7, c8⟩ := hk0.nine
    replace c0 := cell_regrown c0
    replace c1 := cell_regrown c1
    replace c2 := cell_regrown c2
    replace c3 := cell_regrown c3
    replace c4 := cell_regrown c4
    replace c5 := cell_regrown c5
    replace c6 := cell_regrown c6
    replace c7 := cell_regrown c7
    replace c8 := cell_regrown c8
    clear hk0
    refine wp_region_quiet_below (by kernel_rfl) (by kernel_rfl) ?_
    repeat (go_big_quiet_step ((first | (go_at_call 34; exact Calls.regrown_of (iKindB _ _)) | (go_at_call 59; exact Calls.regrown_of (iUsed_17 b 0 ⟨#[]⟩ false 0 l 0 false _)) | (go_at_call 50; exact Calls.regrown_of (isQuic_anyB _ _)))))
    refine wpQuiet_nil ?_
    intro _ hw'
    obtain ⟨⟨dq, osq⟩, hw''⟩ := hw'
    subst hw''
    have h01 := below_next hb0 hb0.size (below_regrown _ dq osq)
    replace c0 := c0 dq osq
    replace c1 := c1 dq osq
    replace c2 := c2 dq osq
    replace c3 := c3 dq osq
    replace c4 := c4 dq osq
    replace c5 := c5 dq osq
    replace c6 := c6 dq osq
    replace c7 := c7 dq osq
    replace c8 := c8 dq osq
    generalize grow (redrawn _ dq) osq = w2 at h01 c0 c1 c2 c3 c4 c5 c6 c7 c8 ⊢
    go_wp2
    go_ret
    exact ⟨rfl, h01⟩
set_option maxHeartbeats 1000000 in
theorem iIs_18 (b c : Int) (d : ByteArray) (e : Bool) (g l m : Int) (u : Bool) (hs : d.size ≤ 1048576) (w : World) :
    Calls Try.prog 28 #[.agg #[.int .i64 18, .int .i64 b, .int .i64 c, .string d, .bool e, .int .i64 g, .int .i64 l, .int .i64 m, .bool u]] w fun x w' => x = .returned (.bool (eqFb 18 b c d e g l m u 18 0 0 ⟨#[]⟩ false 0 l 0 u && (qB l && decide (l ≤ 1152921504606846976)))) ∧ Below w.heap.size w w' := by
  have hkn : (kindB 18).toList.isEmpty = false := by decide +kernel
  have hne := fun W => run_neq_fr 18 b c d e g l m u 18 0 0 ⟨#[]⟩ false 0 l 0 u W
  cases hE : eqFb 18 b c d e g l m u 18 0 0 ⟨#[]⟩ false 0 l 0 u
  · rw [hE] at hne
    simp only [Bool.not_false] at hne
    have hb0 : Below w.heap.size w (w.alloc (.cells #[.int .i64 18, .int .i64 b, .int .i64 c, .string d, .bool e, .int .i64 g, .int .i64 l, .int .i64 m, .bool u] 40)) := (Below.refl _ _).alloc (Nat.le_refl _) _
    have hk0 : Bk (w.alloc (.cells #[.int .i64 18, .int .i64 b, .int .i64 c, .string d, .bool e, .int .i64 g, .int .i64 l, .int .i64 m, .bool u] 40)) w.heap.size 40 #[.int .i64 18, .int .i64 b, .int .i64 c, .string d, .bool e, .int .i64 g, .int .i64 l, .int .i64 m, .bool u] := heap_alloc_new w _
    go_enter Try.func28, Try.ntmps28
    go_wp2_with fail
    generalize w.alloc (.cells #[.int .i64 18, .int .i64 b, .int .i64 c, .string d, .bool e, .int .i64 g, .int .i64 l, .int .i64 m, .bool u] 40) = w0 at hb0 hk0 ⊢
    obtain ⟨c0, c1, c2, c3, c4, c5, c6, c7, c8⟩ := hk0.nine
    replace c0 := cell_regrown c0
    replace c1 := cell_regrown c1
    replace c2 := cell_regrown c2
    replace c3 := cell_regrown c3
    replace c4 := cell_regrown c4
    replace c5 := cell_regrown c5
    replace c6 := cell_regrown c6
    replace c7 := cell_regrown c7
    replace c8 := cell_regrown c8
    clear hk0
    refine wp_region_quiet_below (by kernel_rfl) (by kernel_rfl) ?_
    repeat (go_big_quiet_step ((first | (go_at_call 34; exact Calls.regrown_of (iKindB _ _)) | (go_at_call 59; exact Calls.regrown_of (iUsed_18 b c d e g l m u _)) | (go_at_call 50; exact Calls.regrown_of (isQuic_anyB _ _)))))
    refine wpQuiet_nil ?_
    intro _ hw'
    obtain ⟨⟨dq, osq⟩, hw''⟩ := hw'
    subst hw''
    have h01 := below_next hb0 hb0.size (below_regrown _ dq osq)
    replace c0 := c0 dq osq
    replace c1 := c1 dq osq
    replace c2 := c2 dq osq
    replace c3 := c3 dq osq
    replace c4 := c4 dq osq
    replace c5 := c5 dq osq
    replace c6 := c6 dq osq
    replace c7 := c7 dq osq
    replace c8 := c8 dq osq
    generalize grow (redrawn _ dq) osq = w2 at h01 c0 c1 c2 c3 c4 c5 c6 c7 c8 ⊢
    go_wp2
    go_ret
    exact ⟨rfl, h01⟩
  · rw [hE] at hne
    simp only [Bool.not_true] at hne
    unfold eqFb at hE
    simp only [Bool.and_eq_true, beq_iff_eq] at hE
    obtain ⟨_, zb, zc, zd, ze, zg, _, zm, _⟩ := hE
    replace zd := none_of zd
    subst zb zc zd ze zg zm
    have q0 : qB 0 = true := rfl
    cases hql : qB l
    · skip
      have hb0 : Below w.heap.size w (w.alloc (.cells #[.int .i64 18, .int .i64 0, .int .i64 0, .string ⟨#[]⟩, .bool false, .int .i64 0, .int .i64 l, .int .i64 0, .bool u] 40)) := (Below.refl _ _).alloc (Nat.le_refl _) _
      have hk0 : Bk (w.alloc (.cells #[.int .i64 18, .int .i64 0, .int .i64 0, .string ⟨#[]⟩, .bool false, .int .i64 0, .int .i64 l, .int .i64 0, .bool u] 40)) w.heap.size 40 #[.int .i64 18, .int .i64 0, .int .i64 0, .string ⟨#[]⟩, .bool false, .int .i64 0, .int .i64 l, .int .i64 0, .bool u] := heap_alloc_new w _
      go_enter Try.func28, Try.ntmps28
      go_wp2_with fail
      generalize w.alloc (.cells #[.int .i64 18, .int .i64 0, .int .i64 0, .string ⟨#[]⟩, .bool false, .int .i64 0, .int .i64 l, .int .i64 0, .bool u] 40) = w0 at hb0 hk0 ⊢
      obtain ⟨c0, c1, c2, c3, c4, c5, c6, c7, c8⟩ := hk0.nine
      replace c0 := cell_regrown c0
      replace c1 := cell_regrown c1
      replace c2 := cell_regrown c2
      replace c3 := cell_regrown c3
      replace c4 := cell_regrown c4
      replace c5 := cell_regrown c5
      replace c6 := cell_regrown c6
      replace c7 := cell_regrown c7
      replace c8 := cell_regrown c8
      clear hk0
      refine wp_region_quiet_below (by kernel_rfl) (by kernel_rfl) ?_
      repeat (go_big_quiet_step ((first | (go_at_call 34; exact Calls.regrown_of (iKindB _ _)) | (go_at_call 59; exact Calls.regrown_of (iUsed_18 0 0 ⟨#[]⟩ false 0 l 0 u _)) | (go_at_call 50; exact Calls.regrown_of (isQuic_anyB _ _)))))
      refine wpQuiet_nil ?_
      intro _ hw'
      obtain ⟨⟨dq, osq⟩, hw''⟩ := hw'
      subst hw''
      have h01 := below_next hb0 hb0.size (below_regrown _ dq osq)
      replace c0 := c0 dq osq
      replace c1 := c1 dq osq
      replace c2 := c2 dq osq
      replace c3 := c3 dq osq
      replace c4 := c4 dq osq
      replace c5 := c5 dq osq
      replace c6 := c6 dq osq
      replace c7 := c7 dq osq
      replace c8 := c8 dq osq
      generalize grow (redrawn _ dq) osq = w2 at h01 c0 c1 c2 c3 c4 c5 c6 c7 c8 ⊢
      go_wp2
      go_ret
      exact ⟨rfl, h01⟩
    have hb0 : Below w.heap.size w (w.alloc (.cells #[.int .i64 18, .int .i64 0, .int .i64 0, .string ⟨#[]⟩, .bool false, .int .i64 0, .int .i64 l, .int .i64 0, .bool u] 40)) := (Below.refl _ _).alloc (Nat.le_refl _) _
    have hk0 : Bk (w.alloc (.cells #[.int .i64 18, .int .i64 0, .int .i64 0, .string ⟨#[]⟩, .bool false, .int .i64 0, .int .i64 l, .int .i64 0, .bool u] 40)) w.heap.size 40 #[.int .i64 18, .int .i64 0, .int .i64 0, .string ⟨#[]⟩, .bool false, .int .i64 0, .int .i64 l, .int .i64 0, .bool u] := heap_alloc_new w _
    go_enter Try.func28, Try.ntmps28
    go_wp2_with fail
    generalize w.alloc (.cells #[.int .i64 18, .int .i64 0, .int .i64 0, .string ⟨#[]⟩, .bool false, .int .i64 0, .int .i64 l, .int .i64 0, .bool u] 40) = w0 at hb0 hk0 ⊢
    obtain ⟨c0, c1, c2, c3, c4, c5, c6, c7, c8⟩ := hk0.nine
    replace c0 := cell_regrown c0
    replace c1 := cell_regrown c1
    replace c2 := cell_regrown c2
    replace c3 := cell_regrown c3
    replace c4 := cell_regrown c4
    replace c5 := cell_regrown c5
    replace c6 := cell_regrown c6
    replace c7 := cell_regrown c7
    replace c8 := cell_regrown c8
    clear hk0
    refine wp_region_quiet_below (by kernel_rfl) (by kernel_rfl) ?_
    repeat (go_big_quiet_step ((first | (go_at_call 34; exact Calls.regrown_of (iKindB _ _)) | (go_at_call 59; exact Calls.regrown_of (iUsed_18 0 0 ⟨#[]⟩ false 0 l 0 u _)) | (go_at_call 50; exact Calls.regrown_of (isQuic_anyB _ _)))))
    refine wpQuiet_nil ?_
    intro _ hw'
    obtain ⟨⟨dq, osq⟩, hw''⟩ := hw'
    subst hw''
    have h01 := below_next hb0 hb0.size (below_regrown _ dq osq)
    replace c0 := c0 dq osq
    replace c1 := c1 dq osq
    replace c2 := c2 dq osq
    replace c3 := c3 dq osq
    replace c4 := c4 dq osq
    replace c5 := c5 dq osq
    replace c6 := c6 dq osq
    replace c7 := c7 dq osq
    replace c8 := c8 dq osq
    generalize grow (redrawn _ dq) osq = w2 at h01 c0 c1 c2 c3 c4 c5 c6 c7 c8 ⊢
    go_wp2
    go_ret
    exact ⟨rfl, h01⟩
set_option maxHeartbeats 1000000 in
theorem iIs_20 (b c : Int) (d : ByteArray) (e : Bool) (g l m : Int) (u : Bool) (hs : d.size ≤ 1048576) (w : World) :
    Calls Try.prog 28 #[.agg #[.int .i64 20, .int .i64 b, .int .i64 c, .string d, .bool e, .int .i64 g, .int .i64 l, .int .i64 m, .bool u]] w fun x w' => x = .returned (.bool (eqFb 20 b c d e g l m u 20 0 0 ⟨#[]⟩ false 0 l 0 false && qB l)) ∧ Below w.heap.size w w' := by
  have hkn : (kindB 20).toList.isEmpty = false := by decide +kernel
  have hne := fun W => run_neq_fr 20 b c d e g l m u 20 0 0 ⟨#[]⟩ false 0 l 0 false W
  cases hE : eqFb 20 b c d e g l m u 20 0 0 ⟨#[]⟩ false 0 l 0 false
  · rw [hE] at hne
    simp only [Bool.not_false] at hne
    have hb0 : Below w.heap.size w (w.alloc (.cells #[.int .i64 20, .int .i64 b, .int .i64 c, .string d, .bool e, .int .i64 g, .int .i64 l, .int .i64 m, .bool u] 40)) := (Below.refl _ _).alloc (Nat.le_refl _) _
    have hk0 : Bk (w.alloc (.cells #[.int .i64 20, .int .i64 b, .int .i64 c, .string d, .bool e, .int .i64 g, .int .i64 l, .int .i64 m, .bool u] 40)) w.heap.size 40 #[.int .i64 20, .int .i64 b, .int .i64 c, .string d, .bool e, .int .i64 g, .int .i64 l, .int .i64 m, .bool u] := heap_alloc_new w _
    go_enter Try.func28, Try.ntmps28
    go_wp2_with fail
    generalize w.alloc (.cells #[.int .i64 20, .int .i64 b, .int .i64 c, .string d, .bool e, .int .i64 g, .int .i64 l, .int .i64 m, .bool u] 40) = w0 at hb0 hk0 ⊢
    obtain ⟨c0, c1, c2, c3, c4, c5, c6, c7, c8⟩ := hk0.nine
    replace c0 := cell_regrown c0
    replace c1 := cell_regrown c1
    replace c2 := cell_regrown c2
    replace c3 := cell_regrown c3
    replace c4 := cell_regrown c4
    replace c5 := cell_regrown c5
    replace c6 := cell_regrown c6
    replace c7 := cell_regrown c7
    replace c8 := cell_regrown c8
    clear hk0
    refine wp_region_quiet_below (by kernel_rfl) (by kernel_rfl) ?_
    repeat (go_big_quiet_step ((first | (go_at_call 34; exact Calls.regrown_of (iKindB _ _)) | (go_at_call 59; exact Calls.regrown_of (iUsed_20 b c d e g l m u _)) | (go_at_call 50; exact Calls.regrown_of (isQuic_anyB _ _)))))
    refine wpQuiet_nil ?_
    intro _ hw'
    obtain ⟨⟨dq, osq⟩, hw''⟩ := hw'
    subst hw''
    have h01 := below_next hb0 hb0.size (below_regrown _ dq osq)
    replace c0 := c0 dq osq
    replace c1 := c1 dq osq
    replace c2 := c2 dq osq
    replace c3 := c3 dq osq
    replace c4 := c4 dq osq
    replace c5 := c5 dq osq
    replace c6 := c6 dq osq
    replace c7 := c7 dq osq
    replace c8 := c8 dq osq
    generalize grow (redrawn _ dq) osq = w2 at h01 c0 c1 c2 c3 c4 c5 c6 c7 c8 ⊢
    go_wp2
    go_ret
    exact ⟨rfl, h01⟩
  · rw [hE] at hne
    simp only [Bool.not_true] at hne
    unfold eqFb at hE
    simp only [Bool.and_eq_true, beq_iff_eq] at hE
    obtain ⟨_, zb, zc, zd, ze, zg, _, zm, zu⟩ := hE
    replace zd := none_of zd
    subst zb zc zd ze zg zm zu
    have q0 : qB 0 = true := rfl
    cases hql : qB l
    · skip
      have hb0 : Below w.heap.size w (w.alloc (.cells #[.int .i64 20, .int .i64 0, .int .i64 0, .string ⟨#[]⟩, .bool false, .int .i64 0, .int .i64 l, .int .i64 0, .bool false] 40)) := (Below.refl _ _).alloc (Nat.le_refl _) _
      have hk0 : Bk (w.alloc (.cells #[.int .i64 20, .int .i64 0, .int .i64 0, .string ⟨#[]⟩, .bool false, .int .i64 0, .int .i64 l, .int .i64 0, .bool false] 40)) w.heap.size 40 #[.int .i64 20, .int .i64 0, .int .i64 0, .string ⟨#[]⟩, .bool false, .int .i64 0, .int .i64 l, .int .i64 0, .bool false] := heap_alloc_new w _
      go_enter Try.func28, Try.ntmps28
      go_wp2_with fail
      generalize w.alloc (.cells #[.int .i64 20, .int .i64 0, .int .i64 0, .string ⟨#[]⟩, .bool false, .int .i64 0, .int .i64 l, .int .i64 0, .bool false] 40) = w0 at hb0 hk0 ⊢
      obtain ⟨c0, c1, c2, c3, c4, c5, c6, c7, c8⟩ := hk0.nine
      replace c0 := cell_regrown c0
      replace c1 := cell_regrown c1
      replace c2 := cell_regrown c2
      replace c3 := cell_regrown c3
      replace c4 := cell_regrown c4
      replace c5 := cell_regrown c5
      replace c6 := cell_regrown c6
      replace c7 := cell_regrown c7
      replace c8 := cell_regrown c8
      clear hk0
      refine wp_region_quiet_below (by kernel_rfl) (by kernel_rfl) ?_
      repeat (go_big_quiet_step ((first | (go_at_call 34; exact Calls.regrown_of (iKindB _ _)) | (go_at_call 59; exact Calls.regrown_of (iUsed_20 0 0 ⟨#[]⟩ false 0 l 0 false _)) | (go_at_call 50; exact Calls.regrown_of (isQuic_anyB _ _)))))
      refine wpQuiet_nil ?_
      intro _ hw'
      obtain ⟨⟨dq, osq⟩, hw''⟩ := hw'
      subst hw''
      have h01 := below_next hb0 hb0.size (below_regrown _ dq osq)
      replace c0 := c0 dq osq
      replace c1 := c1 dq osq
      replace c2 := c2 dq osq
      replace c3 := c3 dq osq
      replace c4 := c4 dq osq
      replace c5 := c5 dq osq
      replace c6 := c6 dq osq
      replace c7 := c7 dq osq
      replace c8 := c8 dq osq
      generalize grow (redrawn _ dq) osq = w2 at h01 c0 c1 c2 c3 c4 c5 c6 c7 c8 ⊢
      go_wp2
      go_ret
      exact ⟨rfl, h01⟩
    have hb0 : Below w.heap.size w (w.alloc (.cells #[.int .i64 20, .int .i64 0, .int .i64 0, .string ⟨#[]⟩, .bool false, .int .i64 0, .int .i64 l, .int .i64 0, .bool false] 40)) := (Below.refl _ _).alloc (Nat.le_refl _) _
    have hk0 : Bk (w.alloc (.cells #[.int .i64 20, .int .i64 0, .int .i64 0, .string ⟨#[]⟩, .bool false, .int .i64 0, .int .i64 l, .int .i64 0, .bool false] 40)) w.heap.size 40 #[.int .i64 20, .int .i64 0, .int .i64 0, .string ⟨#[]⟩, .bool false, .int .i64 0, .int .i64 l, .int .i64 0, .bool false] := heap_alloc_new w _
    go_enter Try.func28, Try.ntmps28
    go_wp2_with fail
    generalize w.alloc (.cells #[.int .i64 20, .int .i64 0, .int .i64 0, .string ⟨#[]⟩, .bool false, .int .i64 0, .int .i64 l, .int .i64 0, .bool false] 40) = w0 at hb0 hk0 ⊢
    obtain ⟨c0, c1, c2, c3, c4, c5, c6, c7, c8⟩ := hk0.nine
    replace c0 := cell_regrown c0
    replace c1 := cell_regrown c1
    replace c2 := cell_regrown c2
    replace c3 := cell_regrown c3
    replace c4 := cell_regrown c4
    replace c5 := cell_regrown c5
    replace c6 := cell_regrown c6
    replace c7 := cell_regrown c7
    replace c8 := cell_regrown c8
    clear hk0
    refine wp_region_quiet_below (by kernel_rfl) (by kernel_rfl) ?_
    repeat (go_big_quiet_step ((first | (go_at_call 34; exact Calls.regrown_of (iKindB _ _)) | (go_at_call 59; exact Calls.regrown_of (iUsed_20 0 0 ⟨#[]⟩ false 0 l 0 false _)) | (go_at_call 50; exact Calls.regrown_of (isQuic_anyB _ _)))))
    refine wpQuiet_nil ?_
    intro _ hw'
    obtain ⟨⟨dq, osq⟩, hw''⟩ := hw'
    subst hw''
    have h01 := below_next hb0 hb0.size (below_regrown _ dq osq)
    replace c0 := c0 dq osq
    replace c1 := c1 dq osq
    replace c2 := c2 dq osq
    replace c3 := c3 dq osq
    replace c4 := c4 dq osq
    replace c5 := c5 dq osq
    replace c6 := c6 dq osq
    replace c7 := c7 dq osq
    replace c8 := c8 dq osq
    generalize grow (redrawn _ dq) osq = w2 at h01 c0 c1 c2 c3 c4 c5 c6 c7 c8 ⊢
    go_wp2
    go_ret
    exact ⟨rfl, h01⟩
set_option maxHeartbeats 1000000 in
theorem iIs_21 (b c : Int) (d : ByteArray) (e : Bool) (g l m : Int) (u : Bool) (hs : d.size ≤ 1048576) (w : World) :
    Calls Try.prog 28 #[.agg #[.int .i64 21, .int .i64 b, .int .i64 c, .string d, .bool e, .int .i64 g, .int .i64 l, .int .i64 m, .bool u]] w fun x w' => x = .returned (.bool (eqFb 21 b c d e g l m u 21 b 0 ⟨#[]⟩ false 0 l 0 false && (qB b && qB l))) ∧ Below w.heap.size w w' := by
  have hkn : (kindB 21).toList.isEmpty = false := by decide +kernel
  have hne := fun W => run_neq_fr 21 b c d e g l m u 21 b 0 ⟨#[]⟩ false 0 l 0 false W
  cases hE : eqFb 21 b c d e g l m u 21 b 0 ⟨#[]⟩ false 0 l 0 false
  · rw [hE] at hne
    simp only [Bool.not_false] at hne
    have hb0 : Below w.heap.size w (w.alloc (.cells #[.int .i64 21, .int .i64 b, .int .i64 c, .string d, .bool e, .int .i64 g, .int .i64 l, .int .i64 m, .bool u] 40)) := (Below.refl _ _).alloc (Nat.le_refl _) _
    have hk0 : Bk (w.alloc (.cells #[.int .i64 21, .int .i64 b, .int .i64 c, .string d, .bool e, .int .i64 g, .int .i64 l, .int .i64 m, .bool u] 40)) w.heap.size 40 #[.int .i64 21, .int .i64 b, .int .i64 c, .string d, .bool e, .int .i64 g, .int .i64 l, .int .i64 m, .bool u] := heap_alloc_new w _
    go_enter Try.func28, Try.ntmps28
    go_wp2_with fail
    generalize w.alloc (.cells #[.int .i64 21, .int .i64 b, .int .i64 c, .string d, .bool e, .int .i64 g, .int .i64 l, .int .i64 m, .bool u] 40) = w0 at hb0 hk0 ⊢
    obtain ⟨c0, c1, c2, c3, c4, c5, c6, c7, c8⟩ := hk0.nine
    replace c0 := cell_regrown c0
    replace c1 := cell_regrown c1
    replace c2 := cell_regrown c2
    replace c3 := cell_regrown c3
    replace c4 := cell_regrown c4
    replace c5 := cell_regrown c5
    replace c6 := cell_regrown c6
    replace c7 := cell_regrown c7
    replace c8 := cell_regrown c8
    clear hk0
    refine wp_region_quiet_below (by kernel_rfl) (by kernel_rfl) ?_
    repeat (go_big_quiet_step ((first | (go_at_call 34; exact Calls.regrown_of (iKindB _ _)) | (go_at_call 59; exact Calls.regrown_of (iUsed_21 b c d e g l m u _)) | (go_at_call 50; exact Calls.regrown_of (isQuic_anyB _ _)))))
    refine wpQuiet_nil ?_
    intro _ hw'
    obtain ⟨⟨dq, osq⟩, hw''⟩ := hw'
    subst hw''
    have h01 := below_next hb0 hb0.size (below_regrown _ dq osq)
    replace c0 := c0 dq osq
    replace c1 := c1 dq osq
    replace c2 := c2 dq osq
    replace c3 := c3 dq osq
    replace c4 := c4 dq osq
    replace c5 := c5 dq osq
    replace c6 := c6 dq osq
    replace c7 := c7 dq osq
    replace c8 := c8 dq osq
    generalize grow (redrawn _ dq) osq = w2 at h01 c0 c1 c2 c3 c4 c5 c6 c7 c8 ⊢
    go_wp2
    go_ret
    exact ⟨rfl, h01⟩
  · rw [hE] at hne
    simp only [Bool.not_true] at hne
    unfold eqFb at hE
    simp only [Bool.and_eq_true, beq_iff_eq] at hE
    obtain ⟨_, _, zc, zd, ze, zg, _, zm, zu⟩ := hE
    replace zd := none_of zd
    subst zc zd ze zg zm zu
    have q0 : qB 0 = true := rfl
    cases hqb : qB b
    · skip
      have hb0 : Below w.heap.size w (w.alloc (.cells #[.int .i64 21, .int .i64 b, .int .i64 0, .string ⟨#[]⟩, .bool false, .int .i64 0, .int .i64 l, .int .i64 0, .bool false] 40)) := (Below.refl _ _).alloc (Nat.le_refl _) _
      have hk0 : Bk (w.alloc (.cells #[.int .i64 21, .int .i64 b, .int .i64 0, .string ⟨#[]⟩, .bool false, .int .i64 0, .int .i64 l, .int .i64 0, .bool false] 40)) w.heap.size 40 #[.int .i64 21, .int .i64 b, .int .i64 0, .string ⟨#[]⟩, .bool false, .int .i64 0, .int .i64 l, .int .i64 0, .bool false] := heap_alloc_new w _
      go_enter Try.func28, Try.ntmps28
      go_wp2_with fail
      generalize w.alloc (.cells #[.int .i64 21, .int .i64 b, .int .i64 0, .string ⟨#[]⟩, .bool false, .int .i64 0, .int .i64 l, .int .i64 0, .bool false] 40) = w0 at hb0 hk0 ⊢
      obtain ⟨c0, c1, c2, c3, c4, c5, c6, c7, c8⟩ := hk0.nine
      replace c0 := cell_regrown c0
      replace c1 := cell_regrown c1
      replace c2 := cell_regrown c2
      replace c3 := cell_regrown c3
      replace c4 := cell_regrown c4
      replace c5 := cell_regrown c5
      replace c6 := cell_regrown c6
      replace c7 := cell_regrown c7
      replace c8 := cell_regrown c8
      clear hk0
      refine wp_region_quiet_below (by kernel_rfl) (by kernel_rfl) ?_
      repeat (go_big_quiet_step ((first | (go_at_call 34; exact Calls.regrown_of (iKindB _ _)) | (go_at_call 59; exact Calls.regrown_of (iUsed_21 b 0 ⟨#[]⟩ false 0 l 0 false _)) | (go_at_call 50; exact Calls.regrown_of (isQuic_anyB _ _)))))
      refine wpQuiet_nil ?_
      intro _ hw'
      obtain ⟨⟨dq, osq⟩, hw''⟩ := hw'
      subst hw''
      have h01 := below_next hb0 hb0.size (below_regrown _ dq osq)
      replace c0 := c0 dq osq
      replace c1 := c1 dq osq
      replace c2 := c2 dq osq
      replace c3 := c3 dq osq
      replace c4 := c4 dq osq
      replace c5 := c5 dq osq
      replace c6 := c6 dq osq
      replace c7 := c7 dq osq
      replace c8 := c8 dq osq
      generalize grow (redrawn _ dq) osq = w2 at h01 c0 c1 c2 c3 c4 c5 c6 c7 c8 ⊢
      go_wp2
      go_ret
      exact ⟨rfl, h01⟩
    cases hql : qB l
    · skip
      have hb0 : Below w.heap.size w (w.alloc (.cells #[.int .i64 21, .int .i64 b, .int .i64 0, .string ⟨#[]⟩, .bool false, .int .i64 0, .int .i64 l, .int .i64 0, .bool false] 40)) := (Below.refl _ _).alloc (Nat.le_refl _) _
      have hk0 : Bk (w.alloc (.cells #[.int .i64 21, .int .i64 b, .int .i64 0, .string ⟨#[]⟩, .bool false, .int .i64 0, .int .i64 l, .int .i64 0, .bool false] 40)) w.heap.size 40 #[.int .i64 21, .int .i64 b, .int .i64 0, .string ⟨#[]⟩, .bool false, .int .i64 0, .int .i64 l, .int .i64 0, .bool false] := heap_alloc_new w _
      go_enter Try.func28, Try.ntmps28
      go_wp2_with fail
      generalize w.alloc (.cells #[.int .i64 21, .int .i64 b, .int .i64 0, .string ⟨#[]⟩, .bool false, .int .i64 0, .int .i64 l, .int .i64 0, .bool false] 40) = w0 at hb0 hk0 ⊢
      obtain ⟨c0, c1, c2, c3, c4, c5, c6, c7, c8⟩ := hk0.nine
      replace c0 := cell_regrown c0
      replace c1 := cell_regrown c1
      replace c2 := cell_regrown c2
      replace c3 := cell_regrown c3
      replace c4 := cell_regrown c4
      replace c5 := cell_regrown c5
      replace c6 := cell_regrown c6
      replace c7 := cell_regrown c7
      replace c8 := cell_regrown c8
      clear hk0
      refine wp_region_quiet_below (by kernel_rfl) (by kernel_rfl) ?_
      repeat (go_big_quiet_step ((first | (go_at_call 34; exact Calls.regrown_of (iKindB _ _)) | (go_at_call 59; exact Calls.regrown_of (iUsed_21 b 0 ⟨#[]⟩ false 0 l 0 false _)) | (go_at_call 50; exact Calls.regrown_of (isQuic_anyB _ _)))))
      refine wpQuiet_nil ?_
      intro _ hw'
      obtain ⟨⟨dq, osq⟩, hw''⟩ := hw'
      subst hw''
      have h01 := below_next hb0 hb0.size (below_regrown _ dq osq)
      replace c0 := c0 dq osq
      replace c1 := c1 dq osq
      replace c2 := c2 dq osq
      replace c3 := c3 dq osq
      replace c4 := c4 dq osq
      replace c5 := c5 dq osq
      replace c6 := c6 dq osq
      replace c7 := c7 dq osq
      replace c8 := c8 dq osq
      generalize grow (redrawn _ dq) osq = w2 at h01 c0 c1 c2 c3 c4 c5 c6 c7 c8 ⊢
      go_wp2
      go_ret
      exact ⟨rfl, h01⟩
    have hb0 : Below w.heap.size w (w.alloc (.cells #[.int .i64 21, .int .i64 b, .int .i64 0, .string ⟨#[]⟩, .bool false, .int .i64 0, .int .i64 l, .int .i64 0, .bool false] 40)) := (Below.refl _ _).alloc (Nat.le_refl _) _
    have hk0 : Bk (w.alloc (.cells #[.int .i64 21, .int .i64 b, .int .i64 0, .string ⟨#[]⟩, .bool false, .int .i64 0, .int .i64 l, .int .i64 0, .bool false] 40)) w.heap.size 40 #[.int .i64 21, .int .i64 b, .int .i64 0, .string ⟨#[]⟩, .bool false, .int .i64 0, .int .i64 l, .int .i64 0, .bool false] := heap_alloc_new w _
    go_enter Try.func28, Try.ntmps28
    go_wp2_with fail
    generalize w.alloc (.cells #[.int .i64 21, .int .i64 b, .int .i64 0, .string ⟨#[]⟩, .bool false, .int .i64 0, .int .i64 l, .int .i64 0, .bool false] 40) = w0 at hb0 hk0 ⊢
    obtain ⟨c0, c1, c2, c3, c4, c5, c6, c7, c8⟩ := hk0.nine
    replace c0 := cell_regrown c0
    replace c1 := cell_regrown c1
    replace c2 := cell_regrown c2
    replace c3 := cell_regrown c3
    replace c4 := cell_regrown c4
    replace c5 := cell_regrown c5
    replace c6 := cell_regrown c6
    replace c7 := cell_regrown c7
    replace c8 := cell_regrown c8
    clear hk0
    refine wp_region_quiet_below (by kernel_rfl) (by kernel_rfl) ?_
    repeat (go_big_quiet_step ((first | (go_at_call 34; exact Calls.regrown_of (iKindB _ _)) | (go_at_call 59; exact Calls.regrown_of (iUsed_21 b 0 ⟨#[]⟩ false 0 l 0 false _)) | (go_at_call 50; exact Calls.regrown_of (isQuic_anyB _ _)))))
    refine wpQuiet_nil ?_
    intro _ hw'
    obtain ⟨⟨dq, osq⟩, hw''⟩ := hw'
    subst hw''
    have h01 := below_next hb0 hb0.size (below_regrown _ dq osq)
    replace c0 := c0 dq osq
    replace c1 := c1 dq osq
    replace c2 := c2 dq osq
    replace c3 := c3 dq osq
    replace c4 := c4 dq osq
    replace c5 := c5 dq osq
    replace c6 := c6 dq osq
    replace c7 := c7 dq osq
    replace c8 := c8 dq osq
    generalize grow (redrawn _ dq) osq = w2 at h01 c0 c1 c2 c3 c4 c5 c6 c7 c8 ⊢
    go_wp2
    go_ret
    exact ⟨rfl, h01⟩
set_option maxHeartbeats 1000000 in
theorem iIs_22 (b c : Int) (d : ByteArray) (e : Bool) (g l m : Int) (u : Bool) (hs : d.size ≤ 1048576) (w : World) :
    Calls Try.prog 28 #[.agg #[.int .i64 22, .int .i64 b, .int .i64 c, .string d, .bool e, .int .i64 g, .int .i64 l, .int .i64 m, .bool u]] w fun x w' => x = .returned (.bool (eqFb 22 b c d e g l m u 22 0 0 ⟨#[]⟩ false 0 l 0 u && (qB l && decide (l ≤ 1152921504606846976)))) ∧ Below w.heap.size w w' := by
  have hkn : (kindB 22).toList.isEmpty = false := by decide +kernel
  have hne := fun W => run_neq_fr 22 b c d e g l m u 22 0 0 ⟨#[]⟩ false 0 l 0 u W
  cases hE : eqFb 22 b c d e g l m u 22 0 0 ⟨#[]⟩ false 0 l 0 u
  · rw [hE] at hne
    simp only [Bool.not_false] at hne
    have hb0 : Below w.heap.size w (w.alloc (.cells #[.int .i64 22, .int .i64 b, .int .i64 c, .string d, .bool e, .int .i64 g, .int .i64 l, .int .i64 m, .bool u] 40)) := (Below.refl _ _).alloc (Nat.le_refl _) _
    have hk0 : Bk (w.alloc (.cells #[.int .i64 22, .int .i64 b, .int .i64 c, .string d, .bool e, .int .i64 g, .int .i64 l, .int .i64 m, .bool u] 40)) w.heap.size 40 #[.int .i64 22, .int .i64 b, .int .i64 c, .string d, .bool e, .int .i64 g, .int .i64 l, .int .i64 m, .bool u] := heap_alloc_new w _
    go_enter Try.func28, Try.ntmps28
    go_wp2_with fail
    generalize w.alloc (.cells #[.int .i64 22, .int .i64 b, .int .i64 c, .string d, .bool e, .int .i64 g, .int .i64 l, .int .i64 m, .bool u] 40) = w0 at hb0 hk0 ⊢
    obtain ⟨c0, c1, c2, c3, c4, c5, c6, c7, c8⟩ := hk0.nine
    replace c0 := cell_regrown c0
    replace c1 := cell_regrown c1
    replace c2 := cell_regrown c2
    replace c3 := cell_regrown c3
    replace c4 := cell_regrown c4
    replace c5 := cell_regrown c5
    replace c6 := cell_regrown c6
    replace c7 := cell_regrown c7
    replace c8 := cell_regrown c8
    clear hk0
    refine wp_region_quiet_below (by kernel_rfl) (by kernel_rfl) ?_
    repeat (go_big_quiet_step ((first | (go_at_call 34; exact Calls.regrown_of (iKindB _ _)) | (go_at_call 59; exact Calls.regrown_of (iUsed_22 b c d e g l m u _)) | (go_at_call 50; exact Calls.regrown_of (isQuic_anyB _ _)))))
    refine wpQuiet_nil ?_
    intro _ hw'
    obtain ⟨⟨dq, osq⟩, hw''⟩ := hw'
    subst hw''
    have h01 := below_next hb0 hb0.size (below_regrown _ dq osq)
    replace c0 := c0 dq osq
    replace c1 := c1 dq osq
    replace c2 := c2 dq osq
    replace c3 := c3 dq osq
    replace c4 := c4 dq osq
    replace c5 := c5 dq osq
    replace c6 := c6 dq osq
    replace c7 := c7 dq osq
    replace c8 := c8 dq osq
    generalize grow (redrawn _ dq) osq = w2 at h01 c0 c1 c2 c3 c4 c5 c6 c7 c8 ⊢
    go_wp2
    go_ret
    exact ⟨rfl, h01⟩
  · rw [hE] at hne
    simp only [Bool.not_true] at hne
    unfold eqFb at hE
    simp only [Bool.and_eq_true, beq_iff_eq] at hE
    obtain ⟨_, zb, zc, zd, ze, zg, _, zm, _⟩ := hE
    replace zd := none_of zd
    subst zb zc zd ze zg zm
    have q0 : qB 0 = true := rfl
    cases hql : qB l
    · skip
      have hb0 : Below w.heap.size w (w.alloc (.cells #[.int .i64 22, .int .i64 0, .int .i64 0, .string ⟨#[]⟩, .bool false, .int .i64 0, .int .i64 l, .int .i64 0, .bool u] 40)) := (Below.refl _ _).alloc (Nat.le_refl _) _
      have hk0 : Bk (w.alloc (.cells #[.int .i64 22, .int .i64 0, .int .i64 0, .string ⟨#[]⟩, .bool false, .int .i64 0, .int .i64 l, .int .i64 0, .bool u] 40)) w.heap.size 40 #[.int .i64 22, .int .i64 0, .int .i64 0, .string ⟨#[]⟩, .bool false, .int .i64 0, .int .i64 l, .int .i64 0, .bool u] := heap_alloc_new w _
      go_enter Try.func28, Try.ntmps28
      go_wp2_with fail
      generalize w.alloc (.cells #[.int .i64 22, .int .i64 0, .int .i64 0, .string ⟨#[]⟩, .bool false, .int .i64 0, .int .i64 l, .int .i64 0, .bool u] 40) = w0 at hb0 hk0 ⊢
      obtain ⟨c0, c1, c2, c3, c4, c5, c6, c7, c8⟩ := hk0.nine
      replace c0 := cell_regrown c0
      replace c1 := cell_regrown c1
      replace c2 := cell_regrown c2
      replace c3 := cell_regrown c3
      replace c4 := cell_regrown c4
      replace c5 := cell_regrown c5
      replace c6 := cell_regrown c6
      replace c7 := cell_regrown c7
      replace c8 := cell_regrown c8
      clear hk0
      refine wp_region_quiet_below (by kernel_rfl) (by kernel_rfl) ?_
      repeat (go_big_quiet_step ((first | (go_at_call 34; exact Calls.regrown_of (iKindB _ _)) | (go_at_call 59; exact Calls.regrown_of (iUsed_22 0 0 ⟨#[]⟩ false 0 l 0 u _)) | (go_at_call 50; exact Calls.regrown_of (isQuic_anyB _ _)))))
      refine wpQuiet_nil ?_
      intro _ hw'
      obtain ⟨⟨dq, osq⟩, hw''⟩ := hw'
      subst hw''
      have h01 := below_next hb0 hb0.size (below_regrown _ dq osq)
      replace c0 := c0 dq osq
      replace c1 := c1 dq osq
      replace c2 := c2 dq osq
      replace c3 := c3 dq osq
      replace c4 := c4 dq osq
      replace c5 := c5 dq osq
      replace c6 := c6 dq osq
      replace c7 := c7 dq osq
      replace c8 := c8 dq osq
      generalize grow (redrawn _ dq) osq = w2 at h01 c0 c1 c2 c3 c4 c5 c6 c7 c8 ⊢
      go_wp2
      go_ret
      exact ⟨rfl, h01⟩
    have hb0 : Below w.heap.size w (w.alloc (.cells #[.int .i64 22, .int .i64 0, .int .i64 0, .string ⟨#[]⟩, .bool false, .int .i64 0, .int .i64 l, .int .i64 0, .bool u] 40)) := (Below.refl _ _).alloc (Nat.le_refl _) _
    have hk0 : Bk (w.alloc (.cells #[.int .i64 22, .int .i64 0, .int .i64 0, .string ⟨#[]⟩, .bool false, .int .i64 0, .int .i64 l, .int .i64 0, .bool u] 40)) w.heap.size 40 #[.int .i64 22, .int .i64 0, .int .i64 0, .string ⟨#[]⟩, .bool false, .int .i64 0, .int .i64 l, .int .i64 0, .bool u] := heap_alloc_new w _
    go_enter Try.func28, Try.ntmps28
    go_wp2_with fail
    generalize w.alloc (.cells #[.int .i64 22, .int .i64 0, .int .i64 0, .string ⟨#[]⟩, .bool false, .int .i64 0, .int .i64 l, .int .i64 0, .bool u] 40) = w0 at hb0 hk0 ⊢
    obtain ⟨c0, c1, c2, c3, c4, c5, c6, c7, c8⟩ := hk0.nine
    replace c0 := cell_regrown c0
    replace c1 := cell_regrown c1
    replace c2 := cell_regrown c2
    replace c3 := cell_regrown c3
    replace c4 := cell_regrown c4
    replace c5 := cell_regrown c5
    replace c6 := cell_regrown c6
    replace c7 := cell_regrown c7
    replace c8 := cell_regrown c8
    clear hk0
    refine wp_region_quiet_below (by kernel_rfl) (by kernel_rfl) ?_
    repeat (go_big_quiet_step ((first | (go_at_call 34; exact Calls.regrown_of (iKindB _ _)) | (go_at_call 59; exact Calls.regrown_of (iUsed_22 0 0 ⟨#[]⟩ false 0 l 0 u _)) | (go_at_call 50; exact Calls.regrown_of (isQuic_anyB _ _)))))
    refine wpQuiet_nil ?_
    intro _ hw'
    obtain ⟨⟨dq, osq⟩, hw''⟩ := hw'
    subst hw''
    have h01 := below_next hb0 hb0.size (below_regrown _ dq osq)
    replace c0 := c0 dq osq
    replace c1 := c1 dq osq
    replace c2 := c2 dq osq
    replace c3 := c3 dq osq
    replace c4 := c4 dq osq
    replace c5 := c5 dq osq
    replace c6 := c6 dq osq
    replace c7 := c7 dq osq
    replace c8 := c8 dq osq
    generalize grow (redrawn _ dq) osq = w2 at h01 c0 c1 c2 c3 c4 c5 c6 c7 c8 ⊢
    go_wp2
    go_ret
    exact ⟨rfl, h01⟩
end Go.Proofs.Ytadoiehgobcjcaa
