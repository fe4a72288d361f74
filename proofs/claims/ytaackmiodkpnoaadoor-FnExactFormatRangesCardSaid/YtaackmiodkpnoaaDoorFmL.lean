/- The walk of the law on FormatRanges, and how its argument is opened with the bounds of its numbers. No conditions. -/
import Derived.Test.YtaackmiodkpnoaaDoorFm2
import Derived.Test.YtaackmiodkpnoaaDoorRngOpen
namespace Go.Proofs.YtaackmiodkpnoaaDoor
open Go.ChangeShapes Go.WideShapes Go.ChangeAt Go.RowKit Go.Sort RM Go.Deep
set_option linter.unusedVariables false
set_option linter.unusedSimpArgs false
theorem i64_of_wf {z : Int} (h : (Lit.int .i64 z).wf = true) : I64 z := by
  simp [Lit.wf, IntKind.min, IntKind.max, IntKind.signed, IntKind.bits] at h; exact ⟨by omega, by omega⟩
set_option maxRecDepth 20000 in
theorem open_rngsB {H : Type} {enc : TypeId × Value → H} {W : World} {r : Reach} {b0 : Nat} {v : Value} {d : DataW H} {p : List MemPlace} (hv : Value.okWide Tryd.prog W r b0 22 v)
    (h : DataW.Trod enc Tryd.prog W 0 (fun _ => true) true 22 v d p) :
    ∃ (A : Option Addr) (c n : Nat) (l : List R), v = .slice A n c ∧ Rd W W.heap.size A (encR l) ∧ n ≤ 9223372036854775807 ∧ Hid (l.length = n) ∧ Hid (BdR l) := by
  obtain ⟨A, c, n, l, rfl, hr, hm, HL⟩ := open_rngs hv h
  refine ⟨A, c, n, l, rfl, hr, hm, HL, ?_⟩
  obtain ⟨fuel, hf⟩ := h
  have hf' : DataW.trod enc Tryd.prog W 0 (fun _ => true) true fuel 22 [.slice A n c] = some (d, p) := by simpa [Value.cells] using hf
  rcases open_slice_pairs Tryd.underlying22 Tryd.underlying46 cells_lR rfl rfl cells_int cells_int hf' with ⟨hcs, _⟩ | ⟨a, len, cap, m, q, V0, V1, D0, D1, P0, P1, hcs, _, hl, hm, hmm, _, hx⟩
  · simp only [List.cons.injEq, Value.slice.injEq, and_true] at hcs
    obtain ⟨rfl, rfl, rfl⟩ := hcs
    intro k hk
    rw [HL.out] at hk; omega
  · simp only [List.cons.injEq, Value.slice.injEq, and_true] at hcs
    obtain ⟨rfl, rfl, rfl⟩ := hcs
    have hlm : n ≤ m := by rw [hmm]; split <;> omega
    intro k hk
    rw [HL.out] at hk
    obtain ⟨e0, e1, t0, t1⟩ := hx k (by omega)
    obtain ⟨z0, hz0, _, w0⟩ := DataW.trod_int Tryd.underlying3 t0
    obtain ⟨z1, hz1, _, w1⟩ := DataW.trod_int Tryd.underlying3 t1
    simp only [List.cons.injEq, and_true] at hz0 hz1
    rw [hz0] at e0
    rw [hz1] at e1
    obtain ⟨b, off, x, y, hA, hb, HX, c0, c1⟩ := hr.rng (k := k) (by rw [HL.out]; exact hk)
    injection hA with hA
    subst hA
    have hAdd : ∀ k : Nat, (⟨b, off, none⟩ : Addr).add k = ⟨b, off + k, none⟩ := by
      intro k; unfold Addr.add; split <;> simp_all
    rw [hAdd] at e0 e1
    rw [e0] at c0
    rw [show off + (k * 2 + 1) = off + k * 2 + 1 by omega, c1] at e1
    injection c0 with c0
    injection c0 with _ c0
    injection e1 with e1
    injection e1 with _ e1
    rw [HX.out]
    show I64 x ∧ I64 y
    rw [← c0, e1]
    exact ⟨i64_of_wf w0, i64_of_wf w1⟩
set_option maxRecDepth 20000 in
set_option maxHeartbeats 1000000 in
theorem walk_FnExactFormatRanges {A : Option Addr} {c n : Nat} {l : List R} (w : World) (ht : Tab w) (hr : Rd w w.heap.size A (encR l)) (hm : n ≤ 9223372036854775807) (HL : Hid (l.length = n)) (HB : Hid (BdR l)) :
    Calls Tryd.prog 3 #[.slice A n c] w fun e w' => e = .returned (.bool true) ∧ Below w.heap.size w w' := by
  by_cases hn : n ≤ 1048576
  · have hsz : (if n ≤ 1048576 then 1048576 - (n : Int) else -1) = 1048576 - (n : Int) := if_pos hn
    have hself := eqRs_self l
    have htl := ht.lt
    go_enter Tryd.func3, Tryd.ntmps3
    go_wp2_with (go_at_call 5; refine (szRangeS_any hm).mono ?_; rintro e w' ⟨rfl, rfl⟩)
    refine (toRangeS_any (B := w.heap.size) (Nat.le_refl _) hr (by omega) HL).mono ?_
    rintro e w1 ⟨rfl, hb1, ho1⟩
    go_wp2_with fail
    refine (sFR (B := w1.heap.size) (Nat.le_refl _) (own_rd ho1) (by omega) HL HB).mono ?_
    rintro e w2 ⟨rfl, hb2⟩
    have h02 := below_next hb1 hb1.size hb2
    go_wp2_with fail
    refine (toRangeS_any (B := w.heap.size) h02.size (hr.below h02 (Nat.le_refl _)) (by omega) HL).mono ?_
    rintro e w3 ⟨rfl, hb3, ho3⟩
    have h03 := below_next h02 h02.size hb3
    go_wp2_with fail
    refine (iFR (B := w3.heap.size) (Nat.le_refl _) (own_rd ho3) (by omega) HL HB (ht.below h03 htl)).mono ?_
    rintro e w4 ⟨rfl, hb4⟩
    have h04 := below_next h03 h03.size hb4
    go_wp2_with fail
    refine (toRangeS_any (B := w.heap.size) h04.size (hr.below h04 (Nat.le_refl _)) (by omega) HL).mono ?_
    rintro e w5 ⟨rfl, hb5, ho5⟩
    have h05 := below_next h04 h04.size hb5
    go_wp2_with fail
    refine (eqRangeS_any l l n n _ _ _ _ w5 w5.heap.size (Nat.le_refl _) (own_rd (own_step (own_step ho3 hb4) hb5)) (own_rd ho5) (by omega) (by omega) HL.out HL.out).mono ?_
    rintro e w6 ⟨rfl, hb6⟩
    have h06 := below_next h05 h05.size hb6
    go_wp2
    go_ret
    exact ⟨rfl, h06⟩
  · have hsz : (if n ≤ 1048576 then 1048576 - (n : Int) else -1) = -1 := if_neg hn
    go_enter Tryd.func3, Tryd.ntmps3
    go_wp2_with (go_at_call 5; refine (szRangeS_any hm).mono ?_; rintro e w' ⟨rfl, rfl⟩)
    go_ret
    exact ⟨rfl, Below.refl _ _⟩
end Go.Proofs.YtaackmiodkpnoaaDoor
