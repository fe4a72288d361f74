/- How an argument that is one frame is opened. No conditions. -/
import Derived.Test.YthobnpifndnopaaF1
namespace Go.Proofs.Ythobnpifndnopaa
open Go.ChangeShapes Go.WideShapes Go.ChangeAt Go.RowKit Go.Sort Go.Deep Go.Joins
set_option linter.unusedVariables false
set_option linter.unusedSimpArgs false
theorem cells_lF : Try.prog.cellsOf 37 = 9 := by kernel_rfl
theorem cells_i1 : Try.prog.cellsOf 3 = 1 := by kernel_rfl
theorem cells_s1 : Try.prog.cellsOf 9 = 1 := by kernel_rfl
theorem cells_b1 : Try.prog.cellsOf 4 = 1 := by kernel_rfl
theorem open_frame {H : Type} {enc : TypeId × Value → H} {W : World} {r : Reach} {b0 : Nat} {v : Value} {d : DataW H} {p : List MemPlace} (hv : Value.okWide Try.prog W r b0 37 v)
    (h : DataW.Trod enc Try.prog W 0 (fun _ => true) true 37 v d p) : ∃ (a b c : Int) (d : ByteArray) (e : Bool) (g l m : Int) (u : Bool), v = .agg #[.int .i64 a, .int .i64 b, .int .i64 c, .string d, .bool e, .int .i64 g, .int .i64 l, .int .i64 m, .bool u] ∧ d.size ≤ maxLen := by
  obtain ⟨cs, rfl, hsz⟩ := okWide_struct Try.underlying37 hv
  rw [cells_lF] at hsz
  obtain ⟨L⟩ := cs
  match L, hsz with
  | [c0, c1, c2, c3, c4, c5, c6, c7, c8], _ =>
    obtain ⟨fuel, hf⟩ := h
    obtain ⟨xs, n, _, _, hl, hlen, hf⟩ := DataW.trod_struct Try.underlying37 hf
    match xs, hlen with
    | [y0, y1, y2, y3, y4, y5, y6, y7, y8], _ =>
      have t0 := hf 0 _ rfl
      have t1 := hf 1 _ rfl
      have t2 := hf 2 _ rfl
      have t3 := hf 3 _ rfl
      have t4 := hf 4 _ rfl
      have t5 := hf 5 _ rfl
      have t6 := hf 6 _ rfl
      have t7 := hf 7 _ rfl
      have t8 := hf 8 _ rfl
      simp [Value.cells, cells_i1, cells_s1, cells_b1] at t0 t1 t2 t3 t4 t5 t6 t7 t8
      obtain ⟨a, e0, _, w0⟩ := DataW.trod_int Try.underlying3 t0
      obtain ⟨b, e1, _, w1⟩ := DataW.trod_int Try.underlying3 t1
      obtain ⟨c, e2, _, w2⟩ := DataW.trod_int Try.underlying3 t2
      obtain ⟨d, e3, _, w3⟩ := DataW.trod_string Try.underlying9 t3
      obtain ⟨e, e4, _⟩ := DataW.trod_bool Try.underlying4 t4
      obtain ⟨g, e5, _, w5⟩ := DataW.trod_int Try.underlying3 t5
      obtain ⟨l, e6, _, w6⟩ := DataW.trod_int Try.underlying3 t6
      obtain ⟨m, e7, _, w7⟩ := DataW.trod_int Try.underlying3 t7
      obtain ⟨u, e8, _⟩ := DataW.trod_bool Try.underlying4 t8
      simp at e0 e1 e2 e3 e4 e5 e6 e7 e8
      subst e0 e1 e2 e3 e4 e5 e6 e7 e8
      exact ⟨a, b, c, d, e, g, l, m, u, rfl, w3⟩
end Go.Proofs.Ythobnpifndnopaa
