/- Contracts of CommonRanges of the implementation. No conditions. -/
import Derived.Test.YtaackmiodkpnoaaDoorRngC
import Derived.Maps.AppendAt
namespace Go.Proofs.YtaackmiodkpnoaaDoor
open Go.ChangeShapes Go.WideShapes Go.ChangeAt Go.RowKit Go.Sort RM
set_option linter.unusedVariables false
/-- The state of a call that builds a slice of ranges. -/
structure Own (w wr : World) (v : Value) (L : List R) : Prop where
  own : wr.ownsRow w.heap.size 32 2 v L.length (encR L)
  bel : Below w.heap.size w wr
theorem Own.below {w wr w1 : World} {v : Value} {L : List R} (h : Own w wr v L) (hb : Below wr.heap.size wr w1) : Own w w1 v L :=
  ⟨own_step h.own hb, below_next h.bel h.bel.size hb⟩
theorem Own.app {w wr Wp w1 : World} {x y : Int} {v v' : Value} {L : List R} {m : Nat} (h : Own w wr v L) (hp : Below wr.heap.size wr Wp) (hm : m = L.length + 1) (ho : w1.ownsRow w.heap.size 32 2 v' m (encR L ++ [.int .i64 x, .int .i64 y])) (hg : Wp.grownBy w1 v.ownBlock) : Own w w1 v' (L ++ [(x, y)]) := by
  have h1 := h.below hp
  subst hm
  refine ⟨by rw [encR_snoc]; simpa using ho, h1.bel.grown hg h1.bel.size (fun k hk => (h.own.lt _ hk).1)⟩
theorem Own.fin {w wr : World} {v : Value} {L : List R} (h : Own w wr v L) : OutR w L (.returned v) wr := OutR.of_own h.bel h.own rfl
/-- A box beside the row that is built. -/
structure Box (wr : World) (v : Value) (g : Nat) (x y : Int) : Prop where
  bk : Bk wr g 32 #[.int .i64 x, .int .i64 y]
  ne : v.ownBlock ≠ some g
theorem Box.below {wr w1 : World} {v : Value} {g : Nat} {x y : Int} (h : Box wr v g x y) (hb : Below wr.heap.size wr w1) : Box w1 v g x y := ⟨h.bk.below hb h.bk.lt, h.ne⟩
theorem Box.app {wr Wp w1 : World} {v v' : Value} {g : Nat} {x y : Int} (h : Box wr v g x y) (hp : Below wr.heap.size wr Wp) (hg : Wp.grownBy w1 v.ownBlock) (hat : v'.ownBlock = v.ownBlock ∨ v'.ownBlock = some Wp.heap.size) : Box w1 v' g x y := by
  refine ⟨(h.bk.below hp h.bk.lt).grown hg (fun e => h.ne e.symm), fun e => ?_⟩
  rcases hat with k | k
  · exact h.ne (k.symm.trans e)
  · have := h.bk.lt
    have := hp.size
    rw [k] at e
    injection e with e
    omega
theorem com_snoc {l : List R} {k : Nat} {x y : Int} (f : R → List R) (hk : k < l.length) (h : l.getD k (0, 0) = (x, y)) : (l.take (k + 1)).flatMap f = (l.take k).flatMap f ++ f (x, y) := by
  rw [take_snoc hk h, List.flatMap_append]; simp
theorem com_len (a b : List R) (k j n n' : Nat) (x : R) (ha : a.length = n) (hb : b.length = n') (hk : k < n) (hn : n ≤ 1048576) (hn' : n' ≤ 1048576) :
    ((a.take k).flatMap (fun x => b.flatMap fun y => comOne x y)).length + ((b.take j).flatMap fun y => comOne x y).length ≤ 1099511627776 := by
  have h1 := comAll_len (a.take k) b
  unfold comAll at h1
  have h2 := comRow_len x (b.take j)
  have h3 : (a.take k).length ≤ n - 1 := by rw [List.length_take]; omega
  have h4 : (b.take j).length ≤ n' := by rw [List.length_take]; omega
  have h5 : (a.take k).length * b.length ≤ (n - 1) * n' := by rw [hb]; exact Nat.mul_le_mul_right _ h3
  have h6 : (n - 1) * n' + n' = n * n' := by rw [← Nat.succ_mul]; congr 1; omega
  have h7 : n * n' ≤ 1048576 * 1048576 := Nat.mul_le_mul hn hn'
  omega
theorem Own.drewN {w wr : World} {v : Value} {L : List R} (h : Own w wr v L) (n : Nat) : Own w (wr.drewN n) v L := ⟨h.own, below_drewN h.bel n⟩
theorem Box.drewN {wr : World} {v : Value} {g : Nat} {x y : Int} (h : Box wr v g x y) (n : Nat) : Box (wr.drewN n) v g x y := ⟨h.bk, h.ne⟩
theorem comOne_if {x y x2 y2 lo hi : Int} (h1 : (if x < x2 then x2 else x) = lo) (h2 : (if y2 < y then y2 else y) = hi) : comOne (x, y) (x2, y2) = if lo < hi then [(lo, hi)] else [] := by
  unfold comOne
  rw [max_if, min_if, h1, h2]
end Go.Proofs.YtaackmiodkpnoaaDoor
