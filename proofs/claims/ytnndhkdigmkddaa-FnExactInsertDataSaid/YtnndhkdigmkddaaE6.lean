/- ReadyBytes, EndOf: one contract for each package. No conditions. -/
import Derived.Test.YtnndhkdigmkddaaE5
namespace Go.Proofs.Ytnndhkdigmkddaa
open Go.ChangeShapes Go.WideShapes Go.ChangeAt Go.RowKit Go.Sort
set_option linter.unusedVariables false
set_option linter.unusedSimpArgs false
def rdB (nx : Int) (l : List Ck) : Int := if isBf nx l then (if l.length = 0 then 0 else if (l.getD 0 ck0).1 = nx then ((l.getD 0 ck0).2.size : Int) else 0) else 0
theorem rdB_no {nx : Int} {l : List Ck} (h : isBf nx l = false) : rdB nx l = 0 := by simp [rdB, h]
theorem rdB_zero {nx : Int} {l : List Ck} (h : l.length = 0) : rdB nx l = 0 := by simp [rdB, h]
theorem rdB_off {nx x : Int} {l : List Ck} {d : ByteArray} (hx : l.getD 0 ck0 = (x, d)) (h : x ≠ nx) : rdB nx l = 0 := by unfold rdB; rw [hx]; simp [h]
theorem rdB_at {nx x : Int} {l : List Ck} {d : ByteArray} (hb : isBf nx l = true) (hl : l.length ≠ 0) (hx : l.getD 0 ck0 = (x, d)) (h : x = nx) : rdB nx l = d.size := by unfold rdB; rw [hx, hb]; simp [h, hl]
def enB (nx : Int) (l : List Ck) : Int := if isBf nx l && decide (0 < l.length) then (l.getD (l.length - 1) ck0).1 + ((l.getD (l.length - 1) ck0).2.size : Int) else nx
theorem enB_no {nx : Int} {l : List Ck} (h : isBf nx l = false) : enB nx l = nx := by simp [enB, h]
theorem enB_zero {nx : Int} {l : List Ck} (h : l.length = 0) : enB nx l = nx := by simp [enB, h]
theorem enB_at {nx x : Int} {l : List Ck} {n : Nat} {d : ByteArray} (hb : isBf nx l = true) (hl : l.length = n) (hn : 0 < n) (hx : l.getD (n - 1) ck0 = (x, d)) : enB nx l = x + d.size := by
  subst hl
  unfold enB; rw [hx, hb]; simp [hn]
theorem isBf_at {nx x : Int} {l : List Ck} {k : Nat} {d : ByteArray} (hb : isBf nx l = true) (hk : k < l.length) (hx : l.getD k ck0 = (x, d)) : x ≤ 4611686018427387903 - (d.size : Int) := by
  unfold isBf at hb
  simp only [Bool.and_eq_true, List.all_eq_true] at hb
  have h := hb.2 k (List.mem_range.2 hk)
  unfold okB okC at h
  rw [hx] at h
  simp at h
  exact h.2.2
set_option maxHeartbeats 1000000 in
theorem sReady {A : Option Addr} {c n : Nat} {w : World} {B : Nat} {l : List Ck} (nx : Int) (hnx : (Lit.int .i64 nx).wf = true) (hB : B ≤ w.heap.size) (hr : Rd w B A (encC l)) (hm : n ≤ 1048576) (HL : Hid (l.length = n)) (hd : ∀ k, k < n → (l.getD k ck0).2.size ≤ 1048576) (hw : ∀ k, k < n → (Lit.int .i64 (l.getD k ck0).1).wf = true) :
    Calls Try.prog 23 #[.agg #[.int .i64 nx, .slice A n c]] w fun e w' => e = .returned (.int .i64 (rdB nx l)) ∧ Below w.heap.size w w' := by
  have hb0 := bbox w (.int .i64 nx) (.slice A n c) 28
  have hk0 : Bk (w.alloc (.cells #[.int .i64 nx, .slice A n c] 28)) w.heap.size 28 #[.int .i64 nx, .slice A n c] := heap_alloc_new w _
  obtain ⟨W, hW⟩ : ∃ W, W = w.alloc (.cells #[.int .i64 nx, .slice A n c] 28) := ⟨_, rfl⟩
  have hIS : ∀ dq osq, Calls Try.prog 18 #[.agg #[.int .i64 nx, .slice A n c]] (grow (redrawn W dq) osq) fun e w' => e = .returned (.bool (isBf nx l)) ∧ Below (grow (redrawn W dq) osq).heap.size (grow (redrawn W dq) osq) w' := fun dq osq =>
    sIsB (B := B) nx hnx (Nat.le_trans hB (Nat.le_trans (by rw [hW]; exact hb0.size) (below_regrown W dq osq).size)) ((hr.below (by rw [hW]; exact hb0) hB).below (below_regrown W dq osq) (Nat.le_trans hB (by rw [hW]; exact hb0.size))) hm HL hd hw
  have HD := Lib.hid hd; clear hd
  have HW := Lib.hid hw; clear hw
  cases hq : isBf nx l
  · have HV := Lib.hid (rdB_no hq)
    rw [hq] at hIS
    go_enter Try.func23, Try.ntmps23
    go_wp2_with fail
    rw [← hW]
    rw [← hW] at hb0 hk0
    clear hW
    obtain ⟨b0, b1⟩ := hk0.two
    clear hk0
    have e0 := cell_regrown b0
    have e1 := cell_regrown b1
    refine wp_region_quiet_below (by kernel_rfl) (by kernel_rfl) ?_
    repeat (go_big_quiet_step ((go_at_call 18; exact Calls.regrown_of (hIS _ _))))
    refine wpQuiet_nil ?_
    intro _ hw'
    obtain ⟨⟨dq, osq⟩, hw''⟩ := hw'
    subst hw''
    have hb2 := below_next hb0 hb0.size (below_regrown _ dq osq)
    replace b0 := e0 dq osq
    replace b1 := e1 dq osq
    generalize grow (redrawn _ dq) osq = w2 at hb2 b0 b1 ⊢
    go_wp2
    go_ret
    exact ⟨ret_int HV.out.symm, hb2⟩
  · rw [hq] at hIS
    by_cases hn : n = 0
    · have HV := Lib.hid (rdB_zero (nx := nx) (l := l) (by rw [HL.out]; exact hn))
      have hnz : ((n : Int) == 0) = true := by rw [beq_iff_eq]; omega
      clear hn
      go_enter Try.func23, Try.ntmps23
      go_wp2_with fail
      rw [← hW]
      rw [← hW] at hb0 hk0
      clear hW
      obtain ⟨b0, b1⟩ := hk0.two
      clear hk0
      have e0 := cell_regrown b0
      have e1 := cell_regrown b1
      refine wp_region_quiet_below (by kernel_rfl) (by kernel_rfl) ?_
      repeat (go_big_quiet_step ((go_at_call 18; exact Calls.regrown_of (hIS _ _))))
      refine wpQuiet_nil ?_
      intro _ hw'
      obtain ⟨⟨dq, osq⟩, hw''⟩ := hw'
      subst hw''
      have hb2 := below_next hb0 hb0.size (below_regrown _ dq osq)
      replace b0 := e0 dq osq
      replace b1 := e1 dq osq
      generalize grow (redrawn _ dq) osq = w2 at hb2 b0 b1 ⊢
      go_wp2
      go_ret
      exact ⟨ret_int HV.out.symm, hb2⟩
    · have hnz : ((n : Int) == 0) = false := by rw [beq_eq_false_iff_ne]; omega
      have hn0 : 0 < n := by omega
      have hni : (0 : Int) < (n : Int) := by omega
      obtain ⟨b, off1, x, d, rfl, hb, HX, c0, c1⟩ := ((hr.below (show Below w.heap.size w W by rw [hW]; exact hb0) hB)).chk (k := 0) (by rw [HL.out]; exact hn0)
      rw [Nat.zero_mul, Nat.add_zero] at c0 c1
      have hdd : d.size ≤ 1048576 := by have := HD.out 0 hn0; rw [HX.out] at this; exact this
      by_cases hx : x = nx
      · have HV := Lib.hid (rdB_at hq (by rw [HL.out]; exact hn) HX.out hx)
        have hxb : (x == nx) = true := by rw [beq_iff_eq]; exact hx
        have hxn : (x != nx) = false := by simp [bne, hxb]
        clear hx
        go_enter Try.func23, Try.ntmps23
        go_wp2_with fail
        rw [← hW]
        rw [← hW] at hb0 hk0
        clear hW
        obtain ⟨b0, b1⟩ := hk0.two
        clear hk0
        have e0 := cell_regrown b0
        have e1 := cell_regrown b1
        have g0 := cell_regrown c0
        have g1 := cell_regrown c1
        refine wp_region_quiet_below (by kernel_rfl) (by kernel_rfl) ?_
        repeat (go_big_quiet_step ((go_at_call 18; exact Calls.regrown_of (hIS _ _))))
        refine wpQuiet_nil ?_
        intro _ hw'
        obtain ⟨⟨dq, osq⟩, hw''⟩ := hw'
        subst hw''
        have hb2 := below_next hb0 hb0.size (below_regrown _ dq osq)
        replace b0 := e0 dq osq
        replace b1 := e1 dq osq
        replace c0 := g0 dq osq
        replace c1 := g1 dq osq
        clear g0 g1 e0 e1
        generalize grow (redrawn _ dq) osq = w2 at hb2 b0 b1 c0 c1 ⊢
        go_wp2
        go_ret
        exact ⟨ret_int HV.out.symm, hb2⟩
      · have HV := Lib.hid (rdB_off HX.out hx)
        have hxb : (x == nx) = false := by rw [beq_eq_false_iff_ne]; exact hx
        have hxn : (x != nx) = true := by simp [bne, hxb]
        clear hx
        go_enter Try.func23, Try.ntmps23
        go_wp2_with fail
        rw [← hW]
        rw [← hW] at hb0 hk0
        clear hW
        obtain ⟨b0, b1⟩ := hk0.two
        clear hk0
        have e0 := cell_regrown b0
        have e1 := cell_regrown b1
        have g0 := cell_regrown c0
        have g1 := cell_regrown c1
        refine wp_region_quiet_below (by kernel_rfl) (by kernel_rfl) ?_
        repeat (go_big_quiet_step ((go_at_call 18; exact Calls.regrown_of (hIS _ _))))
        refine wpQuiet_nil ?_
        intro _ hw'
        obtain ⟨⟨dq, osq⟩, hw''⟩ := hw'
        subst hw''
        have hb2 := below_next hb0 hb0.size (below_regrown _ dq osq)
        replace b0 := e0 dq osq
        replace b1 := e1 dq osq
        replace c0 := g0 dq osq
        replace c1 := g1 dq osq
        clear g0 g1 e0 e1
        generalize grow (redrawn _ dq) osq = w2 at hb2 b0 b1 c0 c1 ⊢
        go_wp2
        go_ret
        exact ⟨ret_int HV.out.symm, hb2⟩
set_option maxHeartbeats 1000000 in
theorem iReady {A : Option Addr} {c n : Nat} {w : World} {B : Nat} {l : List Ck} (nx : Int) (hnx : (Lit.int .i64 nx).wf = true) (hB : B ≤ w.heap.size) (hr : Rd w B A (encC l)) (hm : n ≤ 1048576) (HL : Hid (l.length = n)) (hd : ∀ k, k < n → (l.getD k ck0).2.size ≤ 1048576) (hw : ∀ k, k < n → (Lit.int .i64 (l.getD k ck0).1).wf = true) :
    Calls Try.prog 20 #[.agg #[.int .i64 nx, .slice A n c]] w fun e w' => e = .returned (.int .i64 (rdB nx l)) ∧ Below w.heap.size w w' := by
  have hb0 := bbox w (.int .i64 nx) (.slice A n c) 28
  have hk0 : Bk (w.alloc (.cells #[.int .i64 nx, .slice A n c] 28)) w.heap.size 28 #[.int .i64 nx, .slice A n c] := heap_alloc_new w _
  obtain ⟨W, hW⟩ : ∃ W, W = w.alloc (.cells #[.int .i64 nx, .slice A n c] 28) := ⟨_, rfl⟩
  have hIS : ∀ dq osq, Calls Try.prog 21 #[.agg #[.int .i64 nx, .slice A n c]] (grow (redrawn W dq) osq) fun e w' => e = .returned (.bool (isBf nx l)) ∧ Below (grow (redrawn W dq) osq).heap.size (grow (redrawn W dq) osq) w' := fun dq osq =>
    iIsB (B := B) nx (Nat.le_trans hB (Nat.le_trans (by rw [hW]; exact hb0.size) (below_regrown W dq osq).size)) ((hr.below (by rw [hW]; exact hb0) hB).below (below_regrown W dq osq) (Nat.le_trans hB (by rw [hW]; exact hb0.size))) hm HL hd hw
  have HD := Lib.hid hd; clear hd
  have HW := Lib.hid hw; clear hw
  cases hq : isBf nx l
  · have HV := Lib.hid (rdB_no hq)
    rw [hq] at hIS
    go_enter Try.func20, Try.ntmps20
    go_wp2_with fail
    rw [← hW]
    rw [← hW] at hb0 hk0
    clear hW
    obtain ⟨b0, b1⟩ := hk0.two
    clear hk0
    have e0 := cell_regrown b0
    have e1 := cell_regrown b1
    refine wp_region_quiet_below (by kernel_rfl) (by kernel_rfl) ?_
    repeat (go_big_quiet_step ((go_at_call 21; exact Calls.regrown_of (hIS _ _))))
    refine wpQuiet_nil ?_
    intro _ hw'
    obtain ⟨⟨dq, osq⟩, hw''⟩ := hw'
    subst hw''
    have hb2 := below_next hb0 hb0.size (below_regrown _ dq osq)
    replace b0 := e0 dq osq
    replace b1 := e1 dq osq
    generalize grow (redrawn _ dq) osq = w2 at hb2 b0 b1 ⊢
    go_wp2
    go_ret
    exact ⟨ret_int HV.out.symm, hb2⟩
  · rw [hq] at hIS
    by_cases hn : n = 0
    · have HV := Lib.hid (rdB_zero (nx := nx) (l := l) (by rw [HL.out]; exact hn))
      have hnz : ((n : Int) == 0) = true := by rw [beq_iff_eq]; omega
      clear hn
      go_enter Try.func20, Try.ntmps20
      go_wp2_with fail
      rw [← hW]
      rw [← hW] at hb0 hk0
      clear hW
      obtain ⟨b0, b1⟩ := hk0.two
      clear hk0
      have e0 := cell_regrown b0
      have e1 := cell_regrown b1
      refine wp_region_quiet_below (by kernel_rfl) (by kernel_rfl) ?_
      repeat (go_big_quiet_step ((go_at_call 21; exact Calls.regrown_of (hIS _ _))))
      refine wpQuiet_nil ?_
      intro _ hw'
      obtain ⟨⟨dq, osq⟩, hw''⟩ := hw'
      subst hw''
      have hb2 := below_next hb0 hb0.size (below_regrown _ dq osq)
      replace b0 := e0 dq osq
      replace b1 := e1 dq osq
      generalize grow (redrawn _ dq) osq = w2 at hb2 b0 b1 ⊢
      go_wp2
      go_ret
      exact ⟨ret_int HV.out.symm, hb2⟩
    · have hnz : ((n : Int) == 0) = false := by rw [beq_eq_false_iff_ne]; omega
      have hn0 : 0 < n := by omega
      have hni : (0 : Int) < (n : Int) := by omega
      obtain ⟨b, off1, x, d, rfl, hb, HX, c0, c1⟩ := ((hr.below (show Below w.heap.size w W by rw [hW]; exact hb0) hB)).chk (k := 0) (by rw [HL.out]; exact hn0)
      rw [Nat.zero_mul, Nat.add_zero] at c0 c1
      have hdd : d.size ≤ 1048576 := by have := HD.out 0 hn0; rw [HX.out] at this; exact this
      by_cases hx : x = nx
      · have HV := Lib.hid (rdB_at hq (by rw [HL.out]; exact hn) HX.out hx)
        have hxb : (x == nx) = true := by rw [beq_iff_eq]; exact hx
        have hxn : (x != nx) = false := by simp [bne, hxb]
        clear hx
        go_enter Try.func20, Try.ntmps20
        go_wp2_with fail
        rw [← hW]
        rw [← hW] at hb0 hk0
        clear hW
        obtain ⟨b0, b1⟩ := hk0.two
        clear hk0
        have e0 := cell_regrown b0
        have e1 := cell_regrown b1
        have g0 := cell_regrown c0
        have g1 := cell_regrown c1
        refine wp_region_quiet_below (by kernel_rfl) (by kernel_rfl) ?_
        repeat (go_big_quiet_step ((go_at_call 21; exact Calls.regrown_of (hIS _ _))))
        refine wpQuiet_nil ?_
        intro _ hw'
        obtain ⟨⟨dq, osq⟩, hw''⟩ := hw'
        subst hw''
        have hb2 := below_next hb0 hb0.size (below_regrown _ dq osq)
        replace b0 := e0 dq osq
        replace b1 := e1 dq osq
        replace c0 := g0 dq osq
        replace c1 := g1 dq osq
        clear g0 g1 e0 e1
        generalize grow (redrawn _ dq) osq = w2 at hb2 b0 b1 c0 c1 ⊢
        go_wp2
        go_ret
        exact ⟨ret_int HV.out.symm, hb2⟩
      · have HV := Lib.hid (rdB_off HX.out hx)
        have hxb : (x == nx) = false := by rw [beq_eq_false_iff_ne]; exact hx
        have hxn : (x != nx) = true := by simp [bne, hxb]
        clear hx
        go_enter Try.func20, Try.ntmps20
        go_wp2_with fail
        rw [← hW]
        rw [← hW] at hb0 hk0
        clear hW
        obtain ⟨b0, b1⟩ := hk0.two
        clear hk0
        have e0 := cell_regrown b0
        have e1 := cell_regrown b1
        have g0 := cell_regrown c0
        have g1 := cell_regrown c1
        refine wp_region_quiet_below (by kernel_rfl) (by kernel_rfl) ?_
        repeat (go_big_quiet_step ((go_at_call 21; exact Calls.regrown_of (hIS _ _))))
        refine wpQuiet_nil ?_
        intro _ hw'
        obtain ⟨⟨dq, osq⟩, hw''⟩ := hw'
        subst hw''
        have hb2 := below_next hb0 hb0.size (below_regrown _ dq osq)
        replace b0 := e0 dq osq
        replace b1 := e1 dq osq
        replace c0 := g0 dq osq
        replace c1 := g1 dq osq
        clear g0 g1 e0 e1
        generalize grow (redrawn _ dq) osq = w2 at hb2 b0 b1 c0 c1 ⊢
        go_wp2
        go_ret
        exact ⟨ret_int HV.out.symm, hb2⟩
end Go.Proofs.Ytnndhkdigmkddaa
