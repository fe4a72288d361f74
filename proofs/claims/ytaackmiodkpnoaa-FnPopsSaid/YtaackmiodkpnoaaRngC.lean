/- Contracts of the functions that build a slice of ranges: AddRange of the implementation. No conditions. -/
import Derived.Test.YtaackmiodkpnoaaRngB
namespace Go.Proofs.Ytaackmiodkpnoaa
open Go.ChangeShapes Go.WideShapes Go.ChangeAt Go.RowKit Go.Sort RM
set_option linter.unusedVariables false
theorem as_lo {o : List R} {p : Bool} {a b x y : Int} (h : y < a) : addStep ⟨o, p, (a, b)⟩ (x, y) = ⟨o ++ [(x, y)], p, (a, b)⟩ := by simp [addStep, h]
theorem as_hi {o : List R} {a b x y : Int} (h : ¬ y < a) (h1 : b < x) : addStep ⟨o, true, (a, b)⟩ (x, y) = ⟨o ++ [(x, y)], true, (a, b)⟩ := by simp [addStep, h, h1]
theorem as_put {o : List R} {a b x y : Int} (h : ¬ y < a) (h1 : b < x) : addStep ⟨o, false, (a, b)⟩ (x, y) = ⟨o ++ [(a, b)] ++ [(x, y)], true, (a, b)⟩ := by simp [addStep, h, h1]
theorem as_mid {o : List R} {p : Bool} {a b x y : Int} (h : ¬ y < a) (h1 : ¬ b < x) : addStep ⟨o, p, (a, b)⟩ (x, y) = ⟨o, p, (min a x, max b y)⟩ := by simp [addStep, h, h1]
theorem add_snoc {l : List R} {k : Nat} {x y : Int} (s : AS) (hk : k < l.length) (h : l.getD k (0, 0) = (x, y)) : (l.take (k + 1)).foldl addStep s = addStep ((l.take k).foldl addStep s) (x, y) := by
  rw [take_snoc hk h, List.foldl_append]; rfl
theorem add_len {l : List R} {k n : Nat} {a b a' b' : Int} {o : List R} {p : Bool} (hl : l.length = n) (h : (l.take k).foldl addStep ⟨[], false, (a, b)⟩ = ⟨o, p, (a', b')⟩) : o.length ≤ n + 1 := by
  have h1 := addFold_len (l.take k) ⟨[], false, (a, b)⟩
  rw [h] at h1
  have h2 : (l.take k).length ≤ n := by rw [List.length_take]; omega
  simp [AS.sz] at h1
  omega
theorem Inv.store {w wr : World} {a b : Int} {v : Value} {L : List R} (h : Inv w wr a b v L) (a' b' : Int) : Inv w ((wr.setCell ⟨w.heap.size, 0, none⟩ (.int .i64 a')).setCell ⟨w.heap.size, 1, none⟩ (.int .i64 b')) a' b' v L :=
  ⟨ownsRow_setCell_below (ownsRow_setCell_below h.own (by show w.heap.size < _; omega) _) (by show w.heap.size < _; omega) _, by simpa using (h.box.set_ 0 (.int .i64 a')).set_ 1 (.int .i64 b'), (h.bel.setCell (p := ⟨w.heap.size, 0, none⟩) (Nat.le_refl _) _).setCell (p := ⟨w.heap.size, 1, none⟩) (Nat.le_refl _) _⟩
end Go.Proofs.Ytaackmiodkpnoaa
