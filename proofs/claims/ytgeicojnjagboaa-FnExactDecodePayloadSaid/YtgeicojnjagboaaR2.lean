/- What reading a frame says. No conditions. -/
import Derived.Test.YtgeicojnjagboaaR1
import Derived.Laws.Rows
namespace Go.Proofs.Ytgeicojnjagboaa
open Go.ChangeShapes Go.WideShapes Go.ChangeAt Go.RowKit Go.Sort QM
set_option linter.unusedVariables false
set_option linter.unusedSimpArgs false
theorem results_frame3 {fn : Func} {p u v : Tmp} (h : fn.results = #[.cell p 23, .tmp u, .tmp v]) (tmps : Array Value) (w : World) (g : Nat) (cs : Array Value)
    (hp : tmps.getD p undef = .pointer (some ⟨g, 0, none⟩)) (hg : Bk w g 23 cs) (hs : cs.size = 9) :
    (results fn tmps).run Try.prog w = .ok (.tuple #[.agg cs, tmps.getD u undef, tmps.getD v undef]) w := by
  have hp' : tmps[p]?.getD undef = .pointer (some ⟨g, 0, none⟩) := by simpa using hp
  have hl := run_loadVar_row (P := Try.prog) w g 23 23 cs (0, 0) _ hg Try.underlying23 rfl (by rw [hs]; kernel_rfl)
  simp [results, h, hp', asAddr, hl]
def frA (f : Fr) : Array Value := #[.int .i64 f.a, .int .i64 f.b, .int .i64 f.c, .string f.d, .bool f.e, .int .i64 f.g, .int .i64 f.l, .int .i64 f.m, .bool f.u]
/-- The value handed back for what was read. -/
def dfVal : Option (Fr × Int) → Value
  | none => .tuple #[.agg #[.int .i64 0, .int .i64 0, .int .i64 0, .string ⟨#[]⟩, .bool false, .int .i64 0, .int .i64 0, .int .i64 0, .bool false], .int .i64 0, .bool false]
  | some (f, q) => .tuple #[.agg (frA f), .int .i64 q, .bool true]
/-- A stream frame behind its type, not yet tested. -/
def stO (s : ByteArray) (fin off len : Bool) (p : Int) : Option (Fr × Int) :=
  match rdN s (if off then 2 else 1) p with
  | none => none
  | some (L, q) =>
    if len then match dq s q with
      | none => none
      | some (n, k) => if (s.size : Int) < q + k + n then none else some (⟨8, L.getD 0 0, if off then L.getD 1 0 else 0, s.extract (q.toNat + k) (q.toNat + k + n), fin, 0, 0, 0, false⟩, q + k + n)
    else some (⟨8, L.getD 0 0, if off then L.getD 1 0 else 0, s.extract q.toNat s.size, fin, 0, 0, 0, false⟩, s.size)
theorem one_of {L : List Int} (h : L.length = 1) : ∃ x, L = [x] := by
  match L, h with
  | [x], _ => exact ⟨x, rfl⟩
theorem two_of {L : List Int} (h : L.length = 2) : ∃ x y, L = [x, y] := by
  match L, h with
  | [x, y], _ => exact ⟨x, y, rfl⟩
theorem three_of {L : List Int} (h : L.length = 3) : ∃ x y z, L = [x, y, z] := by
  match L, h with
  | [x, y, z], _ => exact ⟨x, y, z, rfl⟩
theorem okF_none (P : Fr × Int → Bool) : (none : Option (Fr × Int)).filter P = none := rfl
theorem filter_yes {P : Fr × Int → Bool} {x : Fr × Int} (h : P x = true) : (some x).filter P = some x := by simp [Option.filter, h]
theorem filter_no {P : Fr × Int → Bool} {x : Fr × Int} (h : P x = false) : (some x).filter P = none := by simp [Option.filter, h]
theorem ext_size (s : ByteArray) (a b : Nat) (h : s.size ≤ 1048576) : (s.extract a b).size ≤ 1048576 := by
  rw [ByteArray.size_extract]; omega
theorem ret_tup {a b : Value} (h : b = a) : Ending.returned a = Ending.returned b := by rw [h]
end Go.Proofs.Ytgeicojnjagboaa
