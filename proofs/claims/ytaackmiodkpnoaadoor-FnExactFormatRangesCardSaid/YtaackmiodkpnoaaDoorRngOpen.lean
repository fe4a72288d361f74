/- How an argument that is a slice of ranges, or a range, is opened. No conditions. -/
import Derived.Test.YtaackmiodkpnoaaDoorRngL1
import Derived.Deep.SlicePairs
import Derived.Lib.SmallJoins
namespace Go.Proofs.YtaackmiodkpnoaaDoor
open Go.ChangeShapes Go.WideShapes Go.ChangeAt Go.RowKit Go.Sort RM Go.Deep
set_option linter.unusedVariables false
theorem cells_lR : Tryd.prog.cellsOf 46 = 2 := by kernel_rfl
theorem cells_int : Tryd.prog.cellsOf 3 = 1 := by kernel_rfl
set_option maxRecDepth 20000 in
theorem open_rngs {H : Type} {enc : TypeId × Value → H} {W : World} {r : Reach} {b0 : Nat} {v : Value} {d : DataW H} {p : List MemPlace} (hv : Value.okWide Tryd.prog W r b0 22 v)
    (h : DataW.Trod enc Tryd.prog W 0 (fun _ => true) true 22 v d p) :
    ∃ (A : Option Addr) (c n : Nat) (l : List R), v = .slice A n c ∧ Rd W W.heap.size A (encR l) ∧ n ≤ 9223372036854775807 ∧ Hid (l.length = n) := by
  obtain ⟨A, n, c, rfl⟩ := okWide_slice Tryd.underlying22 hv
  obtain ⟨fuel, hf⟩ := h
  have hf' : DataW.trod enc Tryd.prog W 0 (fun _ => true) true fuel 22 [.slice A n c] = some (d, p) := by simpa [Value.cells] using hf
  rcases open_slice_pairs Tryd.underlying22 Tryd.underlying46 cells_lR rfl rfl cells_int cells_int hf' with ⟨hcs, _⟩ | ⟨a, len, cap, m, q, V0, V1, D0, D1, P0, P1, hcs, _, hl, hm, hmm, _, hx⟩
  · simp only [List.cons.injEq, Value.slice.injEq, and_true] at hcs
    obtain ⟨rfl, rfl, rfl⟩ := hcs
    exact ⟨none, 0, 0, [], rfl, Rd.nil _ _ _, by omega, rfl⟩
  · simp only [List.cons.injEq, Value.slice.injEq, and_true] at hcs
    obtain ⟨rfl, rfl, rfl⟩ := hcs
    have hlm : n ≤ m := by rw [hmm]; split <;> omega
    refine ⟨some a, c, n, (List.range n).map fun i => (intOf (V0 i), intOf (V1 i)), rfl, ?_, by unfold maxLen at hm; omega, by simp [Hid]⟩
    have hgetl : ∀ i, i < n → ((List.range n).map fun i => (intOf (V0 i), intOf (V1 i))).getD i (0, 0) = (intOf (V0 i), intOf (V1 i)) := fun i hi => by simp [hi]
    have hlen : ((List.range n).map fun i => (intOf (V0 i), intOf (V1 i))).length = n := by simp
    generalize hL : ((List.range n).map fun i => (intOf (V0 i), intOf (V1 i))) = L at hgetl hlen
    intro j u hj
    have hj2 : j < 2 * n := by
      have := (List.getElem?_eq_some_iff.1 hj).1
      rw [encR_len, hlen] at this; exact this
    obtain ⟨e0, e1, t0, t1⟩ := hx (j / 2) (by omega)
    obtain ⟨z0, hz0, _⟩ := DataW.trod_int Tryd.underlying3 t0
    obtain ⟨z1, hz1, _⟩ := DataW.trod_int Tryd.underlying3 t1
    simp only [List.cons.injEq, and_true] at hz0 hz1
    rw [hz0] at e0
    rw [hz1] at e1
    obtain ⟨b, off, spot⟩ := a
    have hspot0 := World.cell?_spot e0
    have hadd : ∀ k : Nat, ((⟨b, off, spot⟩ : Addr).add k).spot = none → spot = none ∨ k ≠ 0 := by
      intro k hk; by_cases h0 : k = 0
      · subst h0; left; simpa [Addr.add] using hk
      · exact .inr h0
    have hspot : spot = none := by
      obtain ⟨e0', _, _, _⟩ := hx 0 (by omega)
      have := World.cell?_spot e0'
      simpa [Addr.add] using this
    subst hspot
    have hA : ∀ k : Nat, (⟨b, off, none⟩ : Addr).add k = ⟨b, off + k, none⟩ := by
      intro k; unfold Addr.add; split <;> simp_all
    rw [hA] at e0 e1
    have hblt : b < W.heap.size := World.block_lt_of_cell? W _ e0
    refine ⟨b, off, rfl, hblt, ?_⟩
    rcases Nat.mod_two_eq_zero_or_one j with h2 | h2
    · have hjj : j = 2 * (j / 2) := by omega
      have := encR_lo L (j / 2) (by rw [hlen]; omega)
      rw [← hjj, hj, hgetl _ (by omega), hz0] at this
      injection this with this
      rw [show off + j = off + j / 2 * 2 by omega, e0, this]; rfl
    · have hjj : j = 2 * (j / 2) + 1 := by omega
      have := encR_hi L (j / 2) (by rw [hlen]; omega)
      rw [← hjj, hj, hgetl _ (by omega), hz1] at this
      injection this with this
      rw [show off + j = off + (j / 2 * 2 + 1) by omega, e1, this]; rfl
end Go.Proofs.YtaackmiodkpnoaaDoor
