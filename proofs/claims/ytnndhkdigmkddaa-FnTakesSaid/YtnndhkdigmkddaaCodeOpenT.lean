/- How an argument that is a slice of bytes is opened. No conditions. -/
import Derived.Test.YtnndhkdigmkddaaDT
import Derived.ChangeSlices
import Derived.OpenShut
namespace Go.Proofs.Ytnndhkdigmkddaa
open Go.ChangeShapes Go.WideShapes Go.ChangeAt Go.RowKit Go.Sort Go.Deep
set_option linter.unusedVariables false
set_option linter.unusedSimpArgs false
theorem cells_u8 : Try.prog.cellsOf 5 = 1 := by kernel_rfl
set_option maxRecDepth 20000 in
theorem open_code {H : Type} {enc : TypeId × Value → H} {W : World} {r : Reach} {b0 : Nat} {v : Value} {d : DataW H} {p : List MemPlace} (hv : Value.okWide Try.prog W r b0 37 v)
    (h : DataW.Trod enc Try.prog W 0 (fun _ => true) true 37 v d p) :
    ∃ (A : Option Addr) (c n : Nat) (l : List Int), v = .slice A n c ∧ Rd W W.heap.size A (bys l) ∧ n ≤ maxLen ∧ Hid (l.length = n) := by
  obtain ⟨A, n, c, rfl⟩ := okWide_slice Try.underlying37 hv
  obtain ⟨fuel, hf⟩ := h
  have hf' : DataW.trod enc Try.prog W 0 (fun _ => true) true fuel 37 [.slice A n c] = some (d, p) := by simpa [Value.cells] using hf
  rcases open_ints Try.underlying37 Try.underlying5 cells_u8 hf' with ⟨hcs, _⟩ | ⟨a, len, cap, zs, hcs, _, hl, hm, hz, _, hc, _⟩
  · simp only [List.cons.injEq, Value.slice.injEq, and_true] at hcs
    obtain ⟨rfl, rfl, rfl⟩ := hcs
    exact ⟨none, 0, 0, [], rfl, Rd.nil _ _ _, Nat.zero_le _, rfl⟩
  · simp only [List.cons.injEq, Value.slice.injEq, and_true] at hcs
    obtain ⟨rfl, rfl, rfl⟩ := hcs
    have hzc : zs.length = c := by simpa using hz
    have hll : (zs.take n).length = n := by rw [List.length_take]; omega
    refine ⟨some a, c, n, zs.take n, rfl, ?_, Nat.le_trans hl hm, hll⟩
    intro j u hj
    have hjn : j < n := by
      have := (List.getElem?_eq_some_iff.1 hj).1
      rw [bys_len, hll] at this; exact this
    obtain ⟨b, off, rfl, hat⟩ := ints_at hc (by omega)
    have e0 := hat j (by omega)
    refine ⟨b, off, rfl, World.block_lt_of_cell? W _ e0, ?_⟩
    rw [bys_get _ j (by rw [hll]; exact hjn)] at hj
    injection hj with hj
    rw [e0, ← hj]
    congr 2
    rw [List.getD_eq_getElem?_getD, List.getD_eq_getElem?_getD, List.getElem?_take_of_lt hjn]
end Go.Proofs.Ytnndhkdigmkddaa
