/- How an argument that is one range is opened. No conditions. -/
import Derived.Test.YtoeegpgbgepgkaaRngOpen
namespace Go.Proofs.Ytoeegpgbgepgkaa
open Go.ChangeShapes Go.WideShapes Go.ChangeAt Go.RowKit Go.Sort RM Go.Deep Go.Joins
theorem open_rng {H : Type} {enc : TypeId × Value → H} {W : World} {r : Reach} {b0 : Nat} {v : Value} {d : DataW H} {p : List MemPlace} (hv : Value.okWide Try.prog W r b0 36 v)
    (h : DataW.Trod enc Try.prog W 0 (fun _ => true) true 36 v d p) : ∃ a b : Int, v = .agg #[.int .i64 a, .int .i64 b] := by
  obtain ⟨c0, c1, y0, y1, m, rfl, rfl, rfl, hy0, hy1⟩ := open_agg2 Try.underlying36 (by kernel_rfl) cells_lR hv h
  obtain ⟨z0, hz0, _⟩ := DataW.trod_int Try.underlying3 hy0
  obtain ⟨z1, hz1, _⟩ := DataW.trod_int Try.underlying3 hy1
  simp only [List.cons.injEq, and_true] at hz0 hz1
  exact ⟨z0, z1, by rw [hz0, hz1]⟩
end Go.Proofs.Ytoeegpgbgepgkaa
