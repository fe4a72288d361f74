/- The walk of the law on DecodeFrame. No conditions. -/
import Derived.Test.YtgeicojnjagboaaR9
import Derived.Deep.Cut
namespace Go.Proofs.Ytgeicojnjagboaa
open Go.ChangeShapes Go.WideShapes Go.ChangeAt Go.RowKit Go.Sort QM
set_option linter.unusedVariables false
set_option linter.unusedSimpArgs false
theorem dfVal_form (o : Option (Fr × Int)) : ∃ (f : Fr) (q : Int) (t : Bool), dfVal o = .tuple #[.agg (frA f), .int .i64 q, .bool t] := by
  cases o with
  | none => exact ⟨fr0, 0, false, rfl⟩
  | some x => exact ⟨x.1, x.2, true, rfl⟩
set_option maxRecDepth 20000 in
set_option maxHeartbeats 4000000 in
theorem walk_FnExactDecodeFrame (s : ByteArray) (_w0 : s.size ≤ maxLen) (p : Int) (_w : (Lit.int .i64 p).wf = true) (w : World) : Calls Try.prog 3 #[.string s, .int .i64 p] w fun e w' => e = .returned (.bool true) ∧ Below w.heap.size w w' := by
  by_cases hs : s.size ≤ 1048576
  · have hd : decide ((1048576 : Int) < (s.size : Int)) = false := by simp; omega
    obtain ⟨f, q, t, hv⟩ := dfVal_form (dfO s p)
    obtain ⟨xa, xb, xc, xd, xe, xg, xl, xm, xu⟩ := f
    simp only [frA] at hv
    have hS := fun W => sDF s hs p W
    have hI := fun W => iDF' s hs p W
    simp only [hv] at hS hI
    clear hv
    have hE := fun W => eqFrame_self (⟨xa, xb, xc, xd, xe, xg, xl, xm, xu⟩ : Fr) W
    simp only at hE
    go_enter Try.func3, Try.ntmps3
    go_wp2_with fail
    refine (hS _).mono ?_
    rintro e w1 ⟨hb1, rfl⟩
    go_wp2_with fail
    have kA : Bk (w1.alloc (.cells #[.int .i64 xa, .int .i64 xb, .int .i64 xc, .string xd, .bool xe, .int .i64 xg, .int .i64 xl, .int .i64 xm, .bool xu] 23)) w1.heap.size 23 #[.int .i64 xa, .int .i64 xb, .int .i64 xc, .string xd, .bool xe, .int .i64 xg, .int .i64 xl, .int .i64 xm, .bool xu] := heap_alloc_new w1 _
    have h01 := hb1.alloc hb1.size (.cells #[.int .i64 xa, .int .i64 xb, .int .i64 xc, .string xd, .bool xe, .int .i64 xg, .int .i64 xl, .int .i64 xm, .bool xu] 23)
    generalize w1.alloc (.cells #[.int .i64 xa, .int .i64 xb, .int .i64 xc, .string xd, .bool xe, .int .i64 xg, .int .i64 xl, .int .i64 xm, .bool xu] 23) = W1 at kA h01 ⊢
    generalize w1.heap.size = gA at kA ⊢
    refine (hI _).mono ?_
    rintro e w2 ⟨hb2, rfl⟩
    replace kA := kA.below hb2 kA.lt
    replace h01 := below_next h01 h01.size hb2
    clear hb1 hb2
    have hlA := kA.lt
    go_upto_region 5 with (fail)
    have kB : Bk (w2.alloc (.cells #[.int .i64 xa, .int .i64 xb, .int .i64 xc, .string xd, .bool xe, .int .i64 xg, .int .i64 xl, .int .i64 xm, .bool xu] 23)) w2.heap.size 23 #[.int .i64 xa, .int .i64 xb, .int .i64 xc, .string xd, .bool xe, .int .i64 xg, .int .i64 xl, .int .i64 xm, .bool xu] := heap_alloc_new w2 _
    replace kA := kA.below ((Below.refl w2.heap.size w2).alloc (Nat.le_refl _) (.cells #[.int .i64 xa, .int .i64 xb, .int .i64 xc, .string xd, .bool xe, .int .i64 xg, .int .i64 xl, .int .i64 xm, .bool xu] 23)) kA.lt
    replace h01 := h01.alloc h01.size (.cells #[.int .i64 xa, .int .i64 xb, .int .i64 xc, .string xd, .bool xe, .int .i64 xg, .int .i64 xl, .int .i64 xm, .bool xu] 23)
    generalize w2.alloc (.cells #[.int .i64 xa, .int .i64 xb, .int .i64 xc, .string xd, .bool xe, .int .i64 xg, .int .i64 xl, .int .i64 xm, .bool xu] 23) = W2 at kA kB h01 ⊢
    generalize w2.heap.size = gB at kB hlA ⊢
    obtain ⟨q0, q1, q2, q3, q4, q5, q6, q7, q8⟩ := kA.nine
    obtain ⟨j0, j1, j2, j3, j4, j5, j6, j7, j8⟩ := kB.nine
    go_wp2_with fail
    refine (hE _).mono ?_
    rintro e w3 ⟨rfl, hb3⟩
    have h02 := below_next h01 h01.size hb3
    go_wp2
    go_ret
    exact ⟨rfl, h02⟩
  · have hd : decide ((1048576 : Int) < (s.size : Int)) = true := by simp; omega
    go_enter Try.func3, Try.ntmps3
    go_wp2
    go_ret
    exact ⟨rfl, Below.refl _ _⟩
end Go.Proofs.Ytgeicojnjagboaa
