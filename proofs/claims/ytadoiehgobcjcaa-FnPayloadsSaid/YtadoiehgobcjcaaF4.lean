/- IsFrame of whatever frame. No conditions. -/
import Derived.Test.YtadoiehgobcjcaaF3S
import Derived.Test.YtadoiehgobcjcaaF3I
namespace Go.Proofs.Ytadoiehgobcjcaa
open Go.ChangeShapes Go.WideShapes Go.ChangeAt Go.RowKit Go.Sort QM
set_option linter.unusedVariables false
set_option linter.unusedSimpArgs false
/-- What both packages' IsFrame say. -/
def isFB (a b c : Int) (d : ByteArray) (e : Bool) (g l m : Int) (u : Bool) : Bool :=
  if a = 4 then (eqFb 4 b c d e g l m u 4 b 0 ⟨#[]⟩ false g 0 m false && (qB b && (qB g && qB m))) else if a = 5 then (eqFb 5 b c d e g l m u 5 b 0 ⟨#[]⟩ false g 0 0 false && (qB b && qB g)) else if a = 8 then (eqFb 8 b c d e g l m u 8 b c d e 0 0 0 false && (qB b && (qB c && (decide ((d.size : Int) ≤ 400) && decide (c ≤ 4611686018427387903 - (d.size : Int)))))) else if a = 16 then (eqFb 16 b c d e g l m u 16 0 0 ⟨#[]⟩ false 0 l 0 false && qB l) else if a = 17 then (eqFb 17 b c d e g l m u 17 b 0 ⟨#[]⟩ false 0 l 0 false && (qB b && qB l)) else if a = 18 then (eqFb 18 b c d e g l m u 18 0 0 ⟨#[]⟩ false 0 l 0 u && (qB l && decide (l ≤ 1152921504606846976))) else if a = 20 then (eqFb 20 b c d e g l m u 20 0 0 ⟨#[]⟩ false 0 l 0 false && qB l) else if a = 21 then (eqFb 21 b c d e g l m u 21 b 0 ⟨#[]⟩ false 0 l 0 false && (qB b && qB l)) else if a = 22 then (eqFb 22 b c d e g l m u 22 0 0 ⟨#[]⟩ false 0 l 0 u && (qB l && decide (l ≤ 1152921504606846976))) else false
theorem isFB_4 (b c : Int) (d : ByteArray) (e : Bool) (g l m : Int) (u : Bool) : isFB 4 b c d e g l m u = (eqFb 4 b c d e g l m u 4 b 0 ⟨#[]⟩ false g 0 m false && (qB b && (qB g && qB m))) := rfl
theorem isFB_5 (b c : Int) (d : ByteArray) (e : Bool) (g l m : Int) (u : Bool) : isFB 5 b c d e g l m u = (eqFb 5 b c d e g l m u 5 b 0 ⟨#[]⟩ false g 0 0 false && (qB b && qB g)) := rfl
theorem isFB_8 (b c : Int) (d : ByteArray) (e : Bool) (g l m : Int) (u : Bool) : isFB 8 b c d e g l m u = (eqFb 8 b c d e g l m u 8 b c d e 0 0 0 false && (qB b && (qB c && (decide ((d.size : Int) ≤ 400) && decide (c ≤ 4611686018427387903 - (d.size : Int)))))) := rfl
theorem isFB_16 (b c : Int) (d : ByteArray) (e : Bool) (g l m : Int) (u : Bool) : isFB 16 b c d e g l m u = (eqFb 16 b c d e g l m u 16 0 0 ⟨#[]⟩ false 0 l 0 false && qB l) := rfl
theorem isFB_17 (b c : Int) (d : ByteArray) (e : Bool) (g l m : Int) (u : Bool) : isFB 17 b c d e g l m u = (eqFb 17 b c d e g l m u 17 b 0 ⟨#[]⟩ false 0 l 0 false && (qB b && qB l)) := rfl
theorem isFB_18 (b c : Int) (d : ByteArray) (e : Bool) (g l m : Int) (u : Bool) : isFB 18 b c d e g l m u = (eqFb 18 b c d e g l m u 18 0 0 ⟨#[]⟩ false 0 l 0 u && (qB l && decide (l ≤ 1152921504606846976))) := rfl
theorem isFB_20 (b c : Int) (d : ByteArray) (e : Bool) (g l m : Int) (u : Bool) : isFB 20 b c d e g l m u = (eqFb 20 b c d e g l m u 20 0 0 ⟨#[]⟩ false 0 l 0 false && qB l) := rfl
theorem isFB_21 (b c : Int) (d : ByteArray) (e : Bool) (g l m : Int) (u : Bool) : isFB 21 b c d e g l m u = (eqFb 21 b c d e g l m u 21 b 0 ⟨#[]⟩ false 0 l 0 false && (qB b && qB l)) := rfl
theorem isFB_22 (b c : Int) (d : ByteArray) (e : Bool) (g l m : Int) (u : Bool) : isFB 22 b c d e g l m u = (eqFb 22 b c d e g l m u 22 0 0 ⟨#[]⟩ false 0 l 0 u && (qB l && decide (l ≤ 1152921504606846976))) := rfl
theorem kind_cases (a : Int) : a = 4 ∨ a = 5 ∨ a = 8 ∨ a = 16 ∨ a = 17 ∨ a = 18 ∨ a = 20 ∨ a = 21 ∨ a = 22 ∨ (a ≠ 4 ∧ a ≠ 5 ∧ a ≠ 8 ∧ a ≠ 16 ∧ a ≠ 17 ∧ a ≠ 18 ∧ a ≠ 20 ∧ a ≠ 21 ∧ a ≠ 22) := by omega
theorem isFB_no {a : Int} (h : a ≠ 4 ∧ a ≠ 5 ∧ a ≠ 8 ∧ a ≠ 16 ∧ a ≠ 17 ∧ a ≠ 18 ∧ a ≠ 20 ∧ a ≠ 21 ∧ a ≠ 22) (b c : Int) (d : ByteArray) (e : Bool) (g l m : Int) (u : Bool) : isFB a b c d e g l m u = false := by
  obtain ⟨h4, h5, h8, h16, h17, h18, h20, h21, h22⟩ := h
  unfold isFB
  rw [if_neg h4, if_neg h5, if_neg h8, if_neg h16, if_neg h17, if_neg h18, if_neg h20, if_neg h21, if_neg h22]
theorem kindB_no {a : Int} (h : a ≠ 4 ∧ a ≠ 5 ∧ a ≠ 8 ∧ a ≠ 16 ∧ a ≠ 17 ∧ a ≠ 18 ∧ a ≠ 20 ∧ a ≠ 21 ∧ a ≠ 22) : (kindB a).toList.isEmpty = true := by
  obtain ⟨h4, h5, h8, h16, h17, h18, h20, h21, h22⟩ := h
  have e : kindB a = ⟨#[]⟩ := by unfold kindB; rw [if_neg h4, if_neg h5, if_neg h8, if_neg h16, if_neg h17, if_neg h18, if_neg h20, if_neg h21, if_neg h22]
  rw [e]; decide +kernel
set_option maxHeartbeats 1000000 in
theorem sIs (a : Int) (b c : Int) (d : ByteArray) (e : Bool) (g l m : Int) (u : Bool) (hs : d.size ≤ 1048576) (w : World) :
    Calls Try.prog 29 #[.agg #[.int .i64 a, .int .i64 b, .int .i64 c, .string d, .bool e, .int .i64 g, .int .i64 l, .int .i64 m, .bool u]] w fun x w' => x = .returned (.bool (isFB a b c d e g l m u)) ∧ Below w.heap.size w w' := by
  rcases kind_cases a with rfl | rfl | rfl | rfl | rfl | rfl | rfl | rfl | rfl | h
  · rw [isFB_4]; exact sIs_4 b c d e g l m u hs w
  · rw [isFB_5]; exact sIs_5 b c d e g l m u hs w
  · rw [isFB_8]; exact sIs_8 b c d e g l m u hs w
  · rw [isFB_16]; exact sIs_16 b c d e g l m u hs w
  · rw [isFB_17]; exact sIs_17 b c d e g l m u hs w
  · rw [isFB_18]; exact sIs_18 b c d e g l m u hs w
  · rw [isFB_20]; exact sIs_20 b c d e g l m u hs w
  · rw [isFB_21]; exact sIs_21 b c d e g l m u hs w
  · rw [isFB_22]; exact sIs_22 b c d e g l m u hs w
  · rw [isFB_no h]
    have hkn := kindB_no h
    have hb0 : Below w.heap.size w (w.alloc (.cells #[.int .i64 a, .int .i64 b, .int .i64 c, .string d, .bool e, .int .i64 g, .int .i64 l, .int .i64 m, .bool u] 40)) := (Below.refl _ _).alloc (Nat.le_refl _) _
    have hk0 : Bk (w.alloc (.cells #[.int .i64 a, .int .i64 b, .int .i64 c, .string d, .bool e, .int .i64 g, .int .i64 l, .int .i64 m, .bool u] 40)) w.heap.size 40 #[.int .i64 a, .int .i64 b, .int .i64 c, .string d, .bool e, .int .i64 g, .int .i64 l, .int .i64 m, .bool u] := heap_alloc_new w _
    go_enter Try.func29, Try.ntmps29
    go_wp2_with fail
    generalize w.alloc (.cells #[.int .i64 a, .int .i64 b, .int .i64 c, .string d, .bool e, .int .i64 g, .int .i64 l, .int .i64 m, .bool u] 40) = w0 at hb0 hk0 ⊢
    obtain ⟨c0, c1, c2, c3, c4, c5, c6, c7, c8⟩ := hk0.nine
    replace c0 := cell_regrown c0
    replace c1 := cell_regrown c1
    replace c2 := cell_regrown c2
    replace c3 := cell_regrown c3
    replace c4 := cell_regrown c4
    replace c5 := cell_regrown c5
    replace c6 := cell_regrown c6
    replace c7 := cell_regrown c7
    replace c8 := cell_regrown c8
    refine wp_region_quiet_below (by kernel_rfl) (by kernel_rfl) ?_
    repeat (go_big_quiet_step ((first | (go_at_call 35; exact Calls.regrown_of (sKindB _ _)))))
    refine wpQuiet_nil ?_
    intro _ hw'
    obtain ⟨⟨dq, osq⟩, hw''⟩ := hw'
    subst hw''
    have h01 := below_next hb0 hb0.size (below_regrown _ dq osq)
    generalize grow (redrawn _ dq) osq = w2 at h01 ⊢
    go_wp2
    go_ret
    exact ⟨rfl, h01⟩
set_option maxHeartbeats 1000000 in
theorem iIs (a : Int) (b c : Int) (d : ByteArray) (e : Bool) (g l m : Int) (u : Bool) (hs : d.size ≤ 1048576) (w : World) :
    Calls Try.prog 28 #[.agg #[.int .i64 a, .int .i64 b, .int .i64 c, .string d, .bool e, .int .i64 g, .int .i64 l, .int .i64 m, .bool u]] w fun x w' => x = .returned (.bool (isFB a b c d e g l m u)) ∧ Below w.heap.size w w' := by
  rcases kind_cases a with rfl | rfl | rfl | rfl | rfl | rfl | rfl | rfl | rfl | h
  · rw [isFB_4]; exact iIs_4 b c d e g l m u hs w
  · rw [isFB_5]; exact iIs_5 b c d e g l m u hs w
  · rw [isFB_8]; exact iIs_8 b c d e g l m u hs w
  · rw [isFB_16]; exact iIs_16 b c d e g l m u hs w
  · rw [isFB_17]; exact iIs_17 b c d e g l m u hs w
  · rw [isFB_18]; exact iIs_18 b c d e g l m u hs w
  · rw [isFB_20]; exact iIs_20 b c d e g l m u hs w
  · rw [isFB_21]; exact iIs_21 b c d e g l m u hs w
  · rw [isFB_22]; exact iIs_22 b c d e g l m u hs w
  · rw [isFB_no h]
    have hkn := kindB_no h
    have hb0 : Below w.heap.size w (w.alloc (.cells #[.int .i64 a, .int .i64 b, .int .i64 c, .string d, .bool e, .int .i64 g, .int .i64 l, .int .i64 m, .bool u] 40)) := (Below.refl _ _).alloc (Nat.le_refl _) _
    have hk0 : Bk (w.alloc (.cells #[.int .i64 a, .int .i64 b, .int .i64 c, .string d, .bool e, .int .i64 g, .int .i64 l, .int .i64 m, .bool u] 40)) w.heap.size 40 #[.int .i64 a, .int .i64 b, .int .i64 c, .string d, .bool e, .int .i64 g, .int .i64 l, .int .i64 m, .bool u] := heap_alloc_new w _
    go_enter Try.func28, Try.ntmps28
    go_wp2_with fail
    generalize w.alloc (.cells #[.int .i64 a, .int .i64 b, .int .i64 c, .string d, .bool e, .int .i64 g, .int .i64 l, .int .i64 m, .bool u] 40) = w0 at hb0 hk0 ⊢
    obtain ⟨c0, c1, c2, c3, c4, c5, c6, c7, c8⟩ := hk0.nine
    replace c0 := cell_regrown c0
    replace c1 := cell_regrown c1
    replace c2 := cell_regrown c2
    replace c3 := cell_regrown c3
    replace c4 := cell_regrown c4
    replace c5 := cell_regrown c5
    replace c6 := cell_regrown c6
    replace c7 := cell_regrown c7
    replace c8 := cell_regrown c8
    refine wp_region_quiet_below (by kernel_rfl) (by kernel_rfl) ?_
    repeat (go_big_quiet_step ((first | (go_at_call 34; exact Calls.regrown_of (iKindB _ _)))))
    refine wpQuiet_nil ?_
    intro _ hw'
    obtain ⟨⟨dq, osq⟩, hw''⟩ := hw'
    subst hw''
    have h01 := below_next hb0 hb0.size (below_regrown _ dq osq)
    generalize grow (redrawn _ dq) osq = w2 at h01 ⊢
    go_wp2
    go_ret
    exact ⟨rfl, h01⟩
end Go.Proofs.Ytadoiehgobcjcaa
