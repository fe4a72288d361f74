/- How an argument that is a slice of frames is opened. No conditions. -/
import Derived.Test.YthobnpifndnopaaP1
import Derived.Test.YthobnpifndnopaaFOpen
import Derived.Deep.SlicePairs
namespace Go.Proofs.Ythobnpifndnopaa
open Go.ChangeShapes Go.WideShapes Go.ChangeAt Go.RowKit Go.Sort Go.Deep Go.Joins
set_option linter.unusedVariables false
set_option linter.unusedSimpArgs false
set_option maxRecDepth 20000 in
theorem open_frame1 {H : Type} {enc : TypeId × Value → H} {W : World} {b : Nat} {sp : Nat → Bool} {hd : Bool} {cs : List Value} {n : Nat} {y : DataW H × List MemPlace} (hlen : cs.length = 9)
    (h : DataW.trod enc Try.prog W b sp hd n 37 cs = some y) : ∃ f : Fr, cs = frC f ∧ f.d.size ≤ maxLen := by
  match cs, hlen with
  | [c0, c1, c2, c3, c4, c5, c6, c7, c8], _ =>
    obtain ⟨xs, n, _, _, hl, hlen, hf⟩ := DataW.trod_struct Try.underlying37 h
    match xs, hlen with
    | [y0, y1, y2, y3, y4, y5, y6, y7, y8], _ =>
      have t0 := hf 0 _ rfl
      have t1 := hf 1 _ rfl
      have t2 := hf 2 _ rfl
      have t3 := hf 3 _ rfl
      have t4 := hf 4 _ rfl
      have t5 := hf 5 _ rfl
      have t6 := hf 6 _ rfl
      have t7 := hf 7 _ rfl
      have t8 := hf 8 _ rfl
      simp [Value.cells, cells_i1, cells_s1, cells_b1] at t0 t1 t2 t3 t4 t5 t6 t7 t8
      obtain ⟨a, e0, _, w0⟩ := DataW.trod_int Try.underlying3 t0
      obtain ⟨b, e1, _, w1⟩ := DataW.trod_int Try.underlying3 t1
      obtain ⟨c, e2, _, w2⟩ := DataW.trod_int Try.underlying3 t2
      obtain ⟨d, e3, _, w3⟩ := DataW.trod_string Try.underlying9 t3
      obtain ⟨e, e4, _⟩ := DataW.trod_bool Try.underlying4 t4
      obtain ⟨g, e5, _, w5⟩ := DataW.trod_int Try.underlying3 t5
      obtain ⟨l, e6, _, w6⟩ := DataW.trod_int Try.underlying3 t6
      obtain ⟨m, e7, _, w7⟩ := DataW.trod_int Try.underlying3 t7
      obtain ⟨u, e8, _⟩ := DataW.trod_bool Try.underlying4 t8
      simp at e0 e1 e2 e3 e4 e5 e6 e7 e8
      subst e0 e1 e2 e3 e4 e5 e6 e7 e8
      exact ⟨⟨a, b, c, d, e, g, l, m, u⟩, rfl, w3⟩
set_option maxRecDepth 20000 in
theorem open_frames {H : Type} {enc : TypeId × Value → H} {W : World} {r : Reach} {b0 : Nat} {v : Value} {d : DataW H} {p : List MemPlace} (hv : Value.okWide Try.prog W r b0 48 v)
    (h : DataW.Trod enc Try.prog W 0 (fun _ => true) true 48 v d p) :
    ∃ (A : Option Addr) (c n : Nat) (l : List Fr), v = .slice A n c ∧ Rd W W.heap.size A (encF9 l) ∧ n ≤ 9223372036854775807 ∧ l.length = n ∧ (∀ k, k < n → (l.getD k fr0).d.size ≤ maxLen) := by
  obtain ⟨A, n0, c0, rfl⟩ := okWide_slice Try.underlying48 hv
  obtain ⟨fuel, hf⟩ := h
  have hf' : DataW.trod enc Try.prog W 0 (fun _ => true) true fuel 48 [.slice A n0 c0] = some (d, p) := by simpa [Value.cells] using hf
  rcases open_slice Try.underlying48 hf' with ⟨hcs, _⟩ | ⟨a, len, cap, m, n, D, Pl, hcs, hb, hl, hm, hmm, _, hx⟩
  · simp only [List.cons.injEq, Value.slice.injEq, and_true] at hcs
    obtain ⟨rfl, rfl, rfl⟩ := hcs
    exact ⟨none, 0, 0, [], rfl, Rd.nil _ _ _, by omega, rfl, fun k hk => by omega⟩
  · simp only [List.cons.injEq, Value.slice.injEq, and_true] at hcs
    obtain ⟨rfl, rfl, rfl⟩ := hcs
    have hlm : n0 ≤ m := by rw [hmm]; split <;> omega
    have each : ∀ i, i < n0 → ∃ f : Fr, f.d.size ≤ maxLen ∧ ∀ j, j < 9 → W.cell? ((a.add (i * 9)).add j) = (frC f)[j]? := by
      intro i hi
      obtain ⟨cs', h1, h2⟩ := hx i (by omega)
      rw [cells_lF] at h1
      obtain ⟨_, hlen, hcell⟩ := World.cells?_some h1
      obtain ⟨f, rfl, hd⟩ := open_frame1 hlen h2
      exact ⟨f, hd, fun j hj => hcell j (by omega)⟩
    haveI : Inhabited Fr := ⟨fr0⟩
    obtain ⟨q, hq⟩ := choose_lt each
    have hgetl : ∀ i, i < n0 → ((List.range n0).map q).getD i fr0 = q i := fun i hi => by simp [hi]
    refine ⟨some a, c0, n0, (List.range n0).map q, rfl, ?_, by have : maxLen = 9223372036854775807 := rfl; omega, by simp, fun k hk => by rw [hgetl k hk]; exact (hq k hk).1⟩
    intro j u hj
    have hlen : ((List.range n0).map q).length = n0 := by simp
    have hj2 : j < 9 * n0 := by
      have := (List.getElem?_eq_some_iff.1 hj).1
      rw [encF9_len, hlen] at this; exact this
    have e := (hq (j / 9) (by omega)).2 (j % 9) (by omega)
    have e0 := (hq 0 (by omega)).2 0 (by omega)
    have hx9 := encF9_at ((List.range n0).map q) (j / 9) (j % 9) (by rw [hlen]; omega) (by omega)
    rw [show 9 * (j / 9) + j % 9 = j by omega, hgetl _ (by omega), hj] at hx9
    rw [← hx9] at e
    obtain ⟨b, off, spot⟩ := a
    have hspot : spot = none := by
      have := World.cell?_spot (e0.trans (show (frC (q 0))[0]? = some _ from rfl))
      simpa [Addr.add] using this
    subst hspot
    have hA : ∀ k : Nat, (⟨b, off, none⟩ : Addr).add k = ⟨b, off + k, none⟩ := by
      intro k; unfold Addr.add; split <;> simp_all
    have hA2 : ∀ o k : Nat, (⟨b, o, none⟩ : Addr).add k = ⟨b, o + k, none⟩ := by
      intro o k; unfold Addr.add; split <;> simp_all
    rw [hA, hA2] at e
    refine ⟨b, off, rfl, World.block_lt_of_cell? W _ e, ?_⟩
    rw [show off + j = off + j / 9 * 9 + j % 9 by omega]; exact e
end Go.Proofs.Ythobnpifndnopaa
