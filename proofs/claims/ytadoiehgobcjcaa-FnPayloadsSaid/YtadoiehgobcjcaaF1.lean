/- Frames: IsAboutStream, sizes and copies of a frame. One contract for each function. No conditions. -/
import Derived.Test.YtadoiehgobcjcaaA4
import Derived.Lib.SmallJoins
import Derived.ChangeSlices
namespace Go.Proofs.Ytadoiehgobcjcaa
open Go.ChangeShapes Go.WideShapes Go.ChangeAt Go.RowKit Go.Sort QM
set_option linter.unusedVariables false
set_option linter.unusedSimpArgs false
/-- A frame's value. -/
@[reducible] def frV (a b c : Int) (d : ByteArray) (e : Bool) (g l m : Int) (u : Bool) : Value := .agg #[.int .i64 a, .int .i64 b, .int .i64 c, .string d, .bool e, .int .i64 g, .int .i64 l, .int .i64 m, .bool u]
def abB (k : Int) : Bool := k == 4 || k == 5 || k == 8 || k == 17 || k == 21
theorem sAbout (a b c : Int) (d : ByteArray) (e : Bool) (g l m : Int) (u : Bool) (w : World) :
    Calls Try.prog 37 #[.agg #[.int .i64 a, .int .i64 b, .int .i64 c, .string d, .bool e, .int .i64 g, .int .i64 l, .int .i64 m, .bool u]] w fun x w' => x = .returned (.bool (abB a)) ∧ w' = w.alloc (.cells #[.int .i64 a, .int .i64 b, .int .i64 c, .string d, .bool e, .int .i64 g, .int .i64 l, .int .i64 m, .bool u] 40) := by
  go_enter Try.func37, Try.ntmps37
  unfold abB
  go_wp2
  all_goals go_ret
  all_goals exact ⟨by simp_all, rfl⟩
theorem iAbout (a b c : Int) (d : ByteArray) (e : Bool) (g l m : Int) (u : Bool) (w : World) :
    Calls Try.prog 36 #[.agg #[.int .i64 a, .int .i64 b, .int .i64 c, .string d, .bool e, .int .i64 g, .int .i64 l, .int .i64 m, .bool u]] w fun x w' => x = .returned (.bool (abB a)) ∧ w' = w.alloc (.cells #[.int .i64 a, .int .i64 b, .int .i64 c, .string d, .bool e, .int .i64 g, .int .i64 l, .int .i64 m, .bool u] 40) := by
  go_enter Try.func36, Try.ntmps36
  unfold abB
  go_wp2
  all_goals go_ret
  all_goals exact ⟨by simp_all, rfl⟩
theorem Bk.nine {w : World} {g : Nat} {T : TypeId} {x0 x1 x2 x3 x4 x5 x6 x7 x8 : Value} (h : Bk w g T #[x0, x1, x2, x3, x4, x5, x6, x7, x8]) :
    w.cell? ⟨g, 0, none⟩ = some x0 ∧ w.cell? ⟨g, 1, none⟩ = some x1 ∧ w.cell? ⟨g, 2, none⟩ = some x2 ∧ w.cell? ⟨g, 3, none⟩ = some x3 ∧ w.cell? ⟨g, 4, none⟩ = some x4 ∧ w.cell? ⟨g, 5, none⟩ = some x5 ∧ w.cell? ⟨g, 6, none⟩ = some x6 ∧ w.cell? ⟨g, 7, none⟩ = some x7 ∧ w.cell? ⟨g, 8, none⟩ = some x8 :=
  ⟨(h.cell 0).trans rfl, (h.cell 1).trans rfl, (h.cell 2).trans rfl, (h.cell 3).trans rfl, (h.cell 4).trans rfl, (h.cell 5).trans rfl, (h.cell 6).trans rfl, (h.cell 7).trans rfl, (h.cell 8).trans rfl⟩
theorem sAboutB (a b c : Int) (d : ByteArray) (e : Bool) (g l m : Int) (u : Bool) (hs : d.size ≤ 1048576) (w : World) :
    Calls Try.prog 37 #[.agg #[.int .i64 a, .int .i64 b, .int .i64 c, .string d, .bool e, .int .i64 g, .int .i64 l, .int .i64 m, .bool u]] w fun x w' => x = .returned (.bool (abB a)) ∧ Below w.heap.size w w' :=
  (sAbout a b c d e g l m u w).mono fun x w' ⟨h1, h2⟩ => ⟨h1, h2 ▸ (Below.refl _ _).alloc (Nat.le_refl _) _⟩
theorem iAboutB (a b c : Int) (d : ByteArray) (e : Bool) (g l m : Int) (u : Bool) (hs : d.size ≤ 1048576) (w : World) :
    Calls Try.prog 36 #[.agg #[.int .i64 a, .int .i64 b, .int .i64 c, .string d, .bool e, .int .i64 g, .int .i64 l, .int .i64 m, .bool u]] w fun x w' => x = .returned (.bool (abB a)) ∧ Below w.heap.size w w' :=
  (iAbout a b c d e g l m u w).mono fun x w' ⟨h1, h2⟩ => ⟨h1, h2 ▸ (Below.refl _ _).alloc (Nat.le_refl _) _⟩
end Go.Proofs.Ytadoiehgobcjcaa
