/- Walk of the law on FrameSize. -/
import Derived.Test.YthobnpifndnopaaF6
import Derived.Test.YthobnpifndnopaaFOpen
namespace Go.Proofs.Ythobnpifndnopaa
open Go.ChangeShapes Go.WideShapes Go.ChangeAt Go.RowKit Go.Sort QM
set_option linter.unusedVariables false
set_option linter.unusedSimpArgs false
set_option maxHeartbeats 1000000 in
theorem walk_FnExactFrameSize (a b c : Int) (d : ByteArray) (e : Bool) (g l m : Int) (u : Bool) (hd : d.size ≤ maxLen) (w : World) :
    Calls Try.prog 11 #[.agg #[.int .i64 a, .int .i64 b, .int .i64 c, .string d, .bool e, .int .i64 g, .int .i64 l, .int .i64 m, .bool u]] w fun e w' => e = .returned (.bool true) ∧ Below w.heap.size w w' := by
  have hb0 : Below w.heap.size w (w.alloc (.cells #[.int .i64 a, .int .i64 b, .int .i64 c, .string d, .bool e, .int .i64 g, .int .i64 l, .int .i64 m, .bool u] 37)) := (Below.refl _ _).alloc (Nat.le_refl _) _
  have hk0 : Bk (w.alloc (.cells #[.int .i64 a, .int .i64 b, .int .i64 c, .string d, .bool e, .int .i64 g, .int .i64 l, .int .i64 m, .bool u] 37)) w.heap.size 37 #[.int .i64 a, .int .i64 b, .int .i64 c, .string d, .bool e, .int .i64 g, .int .i64 l, .int .i64 m, .bool u] := heap_alloc_new w _
  by_cases hs : d.size ≤ 1048576
  · have hsz : (if (1048576 : Int) < d.size then (-1 : Int) else 1048576 - d.size) = 1048576 - (d.size : Int) := if_neg (by omega)
    have hd1 : decide ((1048576 : Int) - (d.size : Int) < 0) = false := by simp; omega
    have htr : True := trivial
    go_enter Try.func11, Try.ntmps11
    go_wp2_with fail
    generalize w.alloc (.cells #[.int .i64 a, .int .i64 b, .int .i64 c, .string d, .bool e, .int .i64 g, .int .i64 l, .int .i64 m, .bool u] 37) = w0 at hb0 hk0 ⊢
    refine (szFrame_any a b c d e g l m u _ (by omega) (by omega) hd _).mono ?_
    rintro x w1 ⟨rfl, hw1⟩
    have hb1 : Below w.heap.size w w1 := by rw [hw1]; exact hb0.alloc hb0.size _
    have hk1 : Bk w1 w.heap.size 37 #[.int .i64 a, .int .i64 b, .int .i64 c, .string d, .bool e, .int .i64 g, .int .i64 l, .int .i64 m, .bool u] := by rw [hw1]; exact hk0.below ((Below.refl _ _).alloc (Nat.le_refl _) _) hk0.lt
    clear hw1
    obtain ⟨c0, c1, c2, c3, c4, c5, c6, c7, c8⟩ := hk1.nine
    go_wp2_with fail
    refine (toFrame_any a b c d e g l m u _).mono ?_
    rintro x w2 ⟨rfl, hb2⟩
    have hk2 := hk1.below hb2 hk1.lt
    replace hb2 := below_next hb1 hb1.size hb2
    clear c0 c1 c2 c3 c4 c5 c6 c7 c8
    go_wp2_with fail
    refine (sFS a b c d e g l m u hs _).mono ?_
    rintro x w3 ⟨rfl, hb3⟩
    have hk3 := hk2.below hb3 hk2.lt
    replace hb3 := below_next hb2 hb2.size hb3
    obtain ⟨c0, c1, c2, c3, c4, c5, c6, c7, c8⟩ := hk3.nine
    go_wp2_with fail
    refine (toFrame_any a b c d e g l m u _).mono ?_
    rintro x w4 ⟨rfl, hb4⟩
    replace hb4 := below_next hb3 hb3.size hb4
    clear c0 c1 c2 c3 c4 c5 c6 c7 c8
    go_wp2_with fail
    refine (iFS a b c d e g l m u hs _).mono ?_
    rintro x w5 ⟨rfl, hb5⟩
    replace hb5 := below_next hb4 hb4.size hb5
    go_wp2
    go_ret
    exact ⟨rfl, hb5⟩
  · have hsz : (if (1048576 : Int) < d.size then (-1 : Int) else 1048576 - d.size) = -1 := if_pos (by omega)
    go_enter Try.func11, Try.ntmps11
    go_wp2_with fail
    refine (szFrame_any a b c d e g l m u _ (by omega) (by omega) hd _).mono ?_
    rintro x w1 ⟨rfl, rfl⟩
    go_wp2
    go_ret
    exact ⟨rfl, (hb0.alloc hb0.size _)⟩
end Go.Proofs.Ythobnpifndnopaa
