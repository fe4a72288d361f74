/- How an argument that is a buffer is opened. No conditions. -/
import Derived.Test.YtnndhkdigmkddaaE3
import Derived.Deep.SlicePairs
import Derived.Lib.SmallJoins
namespace Go.Proofs.Ytnndhkdigmkddaa
open Go.ChangeShapes Go.WideShapes Go.ChangeAt Go.RowKit Go.Sort Go.Deep Go.Joins
set_option linter.unusedVariables false
theorem cells_lB : Try.prog.cellsOf 24 = 2 := by kernel_rfl
theorem cells_lC : Try.prog.cellsOf 67 = 2 := by kernel_rfl
theorem cells_i : Try.prog.cellsOf 3 = 1 := by kernel_rfl
theorem cells_s : Try.prog.cellsOf 9 = 1 := by kernel_rfl
def bsOf : Value → ByteArray | .string s => s | _ => ⟨#[]⟩
set_option maxRecDepth 20000 in
theorem open_buffer {H : Type} {enc : TypeId × Value → H} {W : World} {r : Reach} {b0 : Nat} {v : Value} {d : DataW H} {p : List MemPlace} (hv : Value.okWide Try.prog W r b0 24 v)
    (h : DataW.Trod enc Try.prog W 0 (fun _ => true) true 24 v d p) :
    ∃ (nx : Int) (A : Option Addr) (c n : Nat) (l : List Ck), v = .agg #[.int .i64 nx, .slice A n c] ∧ Rd W W.heap.size A (encC l) ∧ n ≤ 9223372036854775807 ∧ l.length = n ∧ (∀ k, k < n → (l.getD k ck0).2.size ≤ maxLen) ∧ (∀ k, k < n → (Lit.int .i64 (l.getD k ck0).1).wf = true) ∧ (Lit.int .i64 nx).wf = true := by
  obtain ⟨c0, c1, y0, y1, fuel, rfl, rfl, rfl, hy0, hy1⟩ := open_agg2 Try.underlying24 (by kernel_rfl) cells_lB hv h
  obtain ⟨z0, hz0, _, wz0⟩ := DataW.trod_int Try.underlying3 hy0
  simp only [List.cons.injEq, and_true] at hz0
  subst hz0
  refine ⟨z0, ?_⟩
  rcases open_slice_pairs Try.underlying22 Try.underlying67 cells_lC rfl rfl cells_i cells_s hy1 with ⟨hcs, _⟩ | ⟨a, len, cap, m, q, V0, V1, D0, D1, P0, P1, hcs, _, hl, hm, hmm, _, hx⟩
  · simp only [List.cons.injEq, and_true] at hcs
    subst hcs
    exact ⟨none, 0, 0, [], rfl, Rd.nil _ _ _, by omega, rfl, fun k hk => by omega, fun k hk => by omega, wz0⟩
  · simp only [List.cons.injEq, and_true] at hcs
    subst hcs
    have hlm : len ≤ m := by rw [hmm]; split <;> omega
    have hgetl : ∀ i, i < len → ((List.range len).map fun i => ((intOf (V0 i), bsOf (V1 i)) : Ck)).getD i ck0 = (intOf (V0 i), bsOf (V1 i)) := fun i hi => by simp [hi]
    have hstr : ∀ i, i < len → ∃ (z : Int) (s : ByteArray), V0 i = .int .i64 z ∧ V1 i = .string s ∧ s.size ≤ maxLen ∧ (Lit.int .i64 z).wf = true := by
      intro i hi
      obtain ⟨e0, e1, t0, t1⟩ := hx i (by omega)
      obtain ⟨z, hz, _, wz⟩ := DataW.trod_int Try.underlying3 t0
      obtain ⟨s, hs, _, hw⟩ := DataW.trod_string Try.underlying9 t1
      simp only [List.cons.injEq, and_true] at hz hs
      exact ⟨z, s, hz, hs, hw, wz⟩
    refine ⟨some a, cap, len, (List.range len).map fun i => (intOf (V0 i), bsOf (V1 i)), rfl, ?_, by have : maxLen = 9223372036854775807 := rfl; omega, by simp, ?_, ?_, wz0⟩
    · have hlen : ((List.range len).map fun i => ((intOf (V0 i), bsOf (V1 i)) : Ck)).length = len := by simp
      generalize hL : ((List.range len).map fun i => ((intOf (V0 i), bsOf (V1 i)) : Ck)) = L at hgetl hlen
      intro j u hj
      have hj2 : j < 2 * len := by
        have := (List.getElem?_eq_some_iff.1 hj).1
        rw [encC_len, hlen] at this; exact this
      obtain ⟨e0, e1, t0, t1⟩ := hx (j / 2) (by omega)
      obtain ⟨z0, s1, hz0, hz1, _, _⟩ := hstr (j / 2) (by omega)
      rw [hz0] at e0
      rw [hz1] at e1
      obtain ⟨b, off, spot⟩ := a
      have hspot : spot = none := by
        obtain ⟨e0', _, _, _⟩ := hx 0 (by omega)
        have := World.cell?_spot e0'
        simpa [Addr.add] using this
      subst hspot
      have hA : ∀ k : Nat, (⟨b, off, none⟩ : Addr).add k = ⟨b, off + k, none⟩ := by
        intro k; unfold Addr.add; split <;> simp_all
      rw [hA] at e0 e1
      have hblt : b < W.heap.size := World.block_lt_of_cell? W _ e0
      refine ⟨b, off, rfl, hblt, ?_⟩
      rcases Nat.mod_two_eq_zero_or_one j with h2 | h2
      · have hjj : j = 2 * (j / 2) := by omega
        have := encC_lo L (j / 2) (by rw [hlen]; omega)
        rw [← hjj, hj, hgetl _ (by omega), hz0] at this
        injection this with this
        rw [show off + j = off + j / 2 * 2 by omega, e0, this]; rfl
      · have hjj : j = 2 * (j / 2) + 1 := by omega
        have := encC_hi L (j / 2) (by rw [hlen]; omega)
        rw [← hjj, hj, hgetl _ (by omega), hz1] at this
        injection this with this
        rw [show off + j = off + (j / 2 * 2 + 1) by omega, e1, this]; rfl
    · intro k hk
      obtain ⟨z, s, hz, hs, hw, wz⟩ := hstr k hk
      rw [hgetl k hk, hs]; exact hw
    · intro k hk
      obtain ⟨z, s, hz, hs, hw, wz⟩ := hstr k hk
      rw [hgetl k hk, hz]; exact wz
end Go.Proofs.Ytnndhkdigmkddaa
