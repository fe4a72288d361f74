/- EndOf: one contract for each package. No conditions. -/
import Derived.Test.YtgccodnemcofdaaE6
namespace Go.Proofs.Ytgccodnemcofdaa
open Go.ChangeShapes Go.WideShapes Go.ChangeAt Go.RowKit Go.Sort
set_option linter.unusedVariables false
set_option linter.unusedSimpArgs false
set_option maxHeartbeats 1000000 in
theorem sEnd_ {A : Option Addr} {c n : Nat} {w : World} {B : Nat} {l : List Ck} (nx : Int) (hnx : (Lit.int .i64 nx).wf = true) (hB : B ≤ w.heap.size) (hr : Rd w B A (encC l)) (hm : n ≤ 1048576) (HL : Hid (l.length = n)) (hd : ∀ k, k < n → (l.getD k ck0).2.size ≤ 1048576) (hw : ∀ k, k < n → (Lit.int .i64 (l.getD k ck0).1).wf = true) :
    Calls Try.prog 23 #[.agg #[.int .i64 nx, .slice A n c]] w fun e w' => e = .returned (.int .i64 (enB nx l)) ∧ Below w.heap.size w w' := by
  have hb0 := bbox w (.int .i64 nx) (.slice A n c) 29
  have hk0 : Bk (w.alloc (.cells #[.int .i64 nx, .slice A n c] 29)) w.heap.size 29 #[.int .i64 nx, .slice A n c] := heap_alloc_new w _
  obtain ⟨W, hW⟩ : ∃ W, W = w.alloc (.cells #[.int .i64 nx, .slice A n c] 29) := ⟨_, rfl⟩
  have hIS : Calls Try.prog 19 #[.agg #[.int .i64 nx, .slice A n c]] W fun e w' => e = .returned (.bool (isBf nx l)) ∧ Below W.heap.size W w' :=
    sIsB (B := B) nx hnx (Nat.le_trans hB (by rw [hW]; exact hb0.size)) (hr.below (by rw [hW]; exact hb0) hB) hm HL hd hw
  have HD := Lib.hid hd; clear hd
  have HW := Lib.hid hw; clear hw
  by_cases hn : n = 0
  · have HV := Lib.hid (enB_zero (nx := nx) (l := l) (by rw [HL.out]; exact hn))
    have hnz : ((n : Int) == 0) = true := by rw [beq_iff_eq]; omega
    clear hn
    go_enter Try.func23, Try.ntmps23
    go_wp2_with fail
    rw [← hW]
    rw [← hW] at hb0 hk0
    clear hW
    have hk1 := hk0
    obtain ⟨b0, b1⟩ := hk0.two
    go_wp2
    go_ret
    exact ⟨ret_int HV.out.symm, hb0⟩
  · have hnz : ((n : Int) == 0) = false := by rw [beq_eq_false_iff_ne]; omega
    obtain ⟨p, rfl⟩ : ∃ p, n = p + 1 := ⟨n - 1, by omega⟩
    have hp0 : (0 : Int) ≤ (p : Int) := by omega
    have hp1 : (p : Int) < ((p + 1 : Nat) : Int) := by omega
    clear hn
    cases hq : isBf nx l
    · have HV := Lib.hid (enB_no hq)
      rw [hq] at hIS
      go_enter Try.func23, Try.ntmps23
      go_wp2_with fail
      rw [← hW]
      rw [← hW] at hb0 hk0
      clear hW
      have hk1 := hk0
      obtain ⟨b0, b1⟩ := hk0.two
      refine hIS.mono ?_
      rintro e w1 ⟨rfl, hb1⟩
      have hb2 := below_next hb0 hb0.size hb1
      have hkk := hk1.below hb1 hk1.lt
      clear b0 b1
      obtain ⟨b0, b1⟩ := hkk.two
      go_wp2
      go_ret
      exact ⟨ret_int HV.out.symm, hb2⟩
    · rw [hq] at hIS
      obtain ⟨b, off1, x, d, rfl, hb, HX, c0, c1⟩ := ((hr.below (show Below w.heap.size w W by rw [hW]; exact hb0) hB)).chk (k := p) (by have := HL.out; omega)
      have hdd : d.size ≤ 1048576 := by have := HD.out p (by omega); rw [HX.out] at this; exact this
      have hwx := HW.out p (by omega)
      rw [HX.out] at hwx
      have hx1 : x ≤ 9223372036854775807 ∧ -9223372036854775808 ≤ x := by simp [Lit.wf, IntKind.min, IntKind.max, IntKind.signed, IntKind.bits] at hwx; omega
      have hxb := hx1.2; clear hx1 hwx
      have hxa := isBf_at hq (by have := HL.out; omega) HX.out
      have HV := Lib.hid (enB_at (x := x) (d := d) hq HL.out (by omega) (by rw [Nat.add_sub_cancel]; exact HX.out))
      go_enter Try.func23, Try.ntmps23
      go_wp2_with fail
      rw [← hW]
      rw [← hW] at hb0 hk0
      clear hW
      have hk1 := hk0
      obtain ⟨b0, b1⟩ := hk0.two
      refine hIS.mono ?_
      rintro e w1 ⟨rfl, hb1⟩
      have hb2 := below_next hb0 hb0.size hb1
      have hkk := hk1.below hb1 hk1.lt
      clear b0 b1
      obtain ⟨b0, b1⟩ := hkk.two
      have hlb := World.block_lt_of_cell? _ _ c0
      replace c0 := (hb1.cell (p := ⟨b, off1 + p * 2, none⟩) hlb).trans c0
      replace c1 := (hb1.cell (p := ⟨b, off1 + p * 2 + 1, none⟩) hlb).trans c1
      go_wp2_with fail
      go_ret
      exact ⟨ret_int HV.out.symm, hb2.alloc hb2.size _⟩
set_option maxHeartbeats 1000000 in
theorem iEnd_ {A : Option Addr} {c n : Nat} {w : World} {B : Nat} {l : List Ck} (nx : Int) (hnx : (Lit.int .i64 nx).wf = true) (hB : B ≤ w.heap.size) (hr : Rd w B A (encC l)) (hm : n ≤ 1048576) (HL : Hid (l.length = n)) (hd : ∀ k, k < n → (l.getD k ck0).2.size ≤ 1048576) (hw : ∀ k, k < n → (Lit.int .i64 (l.getD k ck0).1).wf = true) :
    Calls Try.prog 24 #[.agg #[.int .i64 nx, .slice A n c]] w fun e w' => e = .returned (.int .i64 (enB nx l)) ∧ Below w.heap.size w w' := by
  have hb0 := bbox w (.int .i64 nx) (.slice A n c) 29
  have hk0 : Bk (w.alloc (.cells #[.int .i64 nx, .slice A n c] 29)) w.heap.size 29 #[.int .i64 nx, .slice A n c] := heap_alloc_new w _
  obtain ⟨W, hW⟩ : ∃ W, W = w.alloc (.cells #[.int .i64 nx, .slice A n c] 29) := ⟨_, rfl⟩
  have hIS : Calls Try.prog 20 #[.agg #[.int .i64 nx, .slice A n c]] W fun e w' => e = .returned (.bool (isBf nx l)) ∧ Below W.heap.size W w' :=
    iIsB (B := B) nx (Nat.le_trans hB (by rw [hW]; exact hb0.size)) (hr.below (by rw [hW]; exact hb0) hB) hm HL hd hw
  have HD := Lib.hid hd; clear hd
  have HW := Lib.hid hw; clear hw
  by_cases hn : n = 0
  · have HV := Lib.hid (enB_zero (nx := nx) (l := l) (by rw [HL.out]; exact hn))
    have hnz : ((n : Int) == 0) = true := by rw [beq_iff_eq]; omega
    clear hn
    cases hq : isBf nx l
    · rw [hq] at hIS
      go_enter Try.func24, Try.ntmps24
      go_wp2_with fail
      rw [← hW]
      rw [← hW] at hb0 hk0
      clear hW
      have hk1 := hk0
      obtain ⟨b0, b1⟩ := hk0.two
      refine hIS.mono ?_
      rintro e w1 ⟨rfl, hb1⟩
      have hb2 := below_next hb0 hb0.size hb1
      have hkk := hk1.below hb1 hk1.lt
      clear b0 b1
      obtain ⟨b0, b1⟩ := hkk.two
      go_wp2
      go_ret
      exact ⟨ret_int HV.out.symm, hb2⟩
    · rw [hq] at hIS
      go_enter Try.func24, Try.ntmps24
      go_wp2_with fail
      rw [← hW]
      rw [← hW] at hb0 hk0
      clear hW
      have hk1 := hk0
      obtain ⟨b0, b1⟩ := hk0.two
      refine hIS.mono ?_
      rintro e w1 ⟨rfl, hb1⟩
      have hb2 := below_next hb0 hb0.size hb1
      have hkk := hk1.below hb1 hk1.lt
      clear b0 b1
      obtain ⟨b0, b1⟩ := hkk.two
      go_wp2
      go_ret
      exact ⟨ret_int HV.out.symm, hb2⟩
  · have hnz : ((n : Int) == 0) = false := by rw [beq_eq_false_iff_ne]; omega
    obtain ⟨p, rfl⟩ : ∃ p, n = p + 1 := ⟨n - 1, by omega⟩
    have hp0 : (0 : Int) ≤ (p : Int) := by omega
    have hp1 : (p : Int) < ((p + 1 : Nat) : Int) := by omega
    clear hn
    cases hq : isBf nx l
    · have HV := Lib.hid (enB_no hq)
      rw [hq] at hIS
      go_enter Try.func24, Try.ntmps24
      go_wp2_with fail
      rw [← hW]
      rw [← hW] at hb0 hk0
      clear hW
      have hk1 := hk0
      obtain ⟨b0, b1⟩ := hk0.two
      refine hIS.mono ?_
      rintro e w1 ⟨rfl, hb1⟩
      have hb2 := below_next hb0 hb0.size hb1
      have hkk := hk1.below hb1 hk1.lt
      clear b0 b1
      obtain ⟨b0, b1⟩ := hkk.two
      go_wp2
      go_ret
      exact ⟨ret_int HV.out.symm, hb2⟩
    · rw [hq] at hIS
      obtain ⟨b, off1, x, d, rfl, hb, HX, c0, c1⟩ := ((hr.below (show Below w.heap.size w W by rw [hW]; exact hb0) hB)).chk (k := p) (by have := HL.out; omega)
      have hdd : d.size ≤ 1048576 := by have := HD.out p (by omega); rw [HX.out] at this; exact this
      have hwx := HW.out p (by omega)
      rw [HX.out] at hwx
      have hx1 : x ≤ 9223372036854775807 ∧ -9223372036854775808 ≤ x := by simp [Lit.wf, IntKind.min, IntKind.max, IntKind.signed, IntKind.bits] at hwx; omega
      have hxb := hx1.2; clear hx1 hwx
      have hxa := isBf_at hq (by have := HL.out; omega) HX.out
      have HV := Lib.hid (enB_at (x := x) (d := d) hq HL.out (by omega) (by rw [Nat.add_sub_cancel]; exact HX.out))
      go_enter Try.func24, Try.ntmps24
      go_wp2_with fail
      rw [← hW]
      rw [← hW] at hb0 hk0
      clear hW
      have hk1 := hk0
      obtain ⟨b0, b1⟩ := hk0.two
      refine hIS.mono ?_
      rintro e w1 ⟨rfl, hb1⟩
      have hb2 := below_next hb0 hb0.size hb1
      have hkk := hk1.below hb1 hk1.lt
      clear b0 b1
      obtain ⟨b0, b1⟩ := hkk.two
      have hlb := World.block_lt_of_cell? _ _ c0
      replace c0 := (hb1.cell (p := ⟨b, off1 + p * 2, none⟩) hlb).trans c0
      replace c1 := (hb1.cell (p := ⟨b, off1 + p * 2 + 1, none⟩) hlb).trans c1
      go_wp2_with fail
      refine (iEnd x d (by omega) (by omega) _).mono ?_
      rintro e w3 ⟨rfl, hb3⟩
      replace hb3 := below_next hb2 hb2.size hb3
      go_wp2
      go_ret
      exact ⟨ret_int HV.out.symm, hb3⟩
end Go.Proofs.Ytgccodnemcofdaa
