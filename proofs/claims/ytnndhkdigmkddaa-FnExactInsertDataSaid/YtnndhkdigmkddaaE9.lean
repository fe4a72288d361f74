/- Slices of ranges in this seat: eqRangeS, markRangeS, heldRangeS. No conditions. -/
import Derived.Test.YtnndhkdigmkddaaE4
namespace Go.Proofs.Ytnndhkdigmkddaa
open Go.ChangeShapes Go.WideShapes Go.ChangeAt Go.RowKit Go.Sort
set_option linter.unusedVariables false
set_option linter.unusedSimpArgs false
abbrev R := Int × Int
def eqRb (a b c d : Int) : Bool := a == c && b == d
theorem eqRb_true {a b c d : Int} (h : eqRb a b c d = true) : (a, b) = (c, d) := by simpa [eqRb] using h
theorem eqRb_false {a b c d : Int} (h : eqRb a b c d = false) : (a, b) ≠ (c, d) := by
  rintro e; injection e with e1 e2; subst e1 e2; simp [eqRb] at h
def encR (l : List R) : List Value := l.flatMap fun r => [.int .i64 r.1, .int .i64 r.2]
theorem encR_len (l : List R) : (encR l).length = 2 * l.length := by
  induction l with
  | nil => rfl
  | cons r l ih => show (_ :: _ :: encR l).length = _; simp [ih]; omega
theorem encR_lo (l : List R) : ∀ k, k < l.length → (encR l)[2 * k]? = some (.int .i64 (l.getD k (0, 0)).1) := by
  induction l with
  | nil => intro k h; simp at h
  | cons r l ih =>
    intro k h
    cases k with
    | zero => rfl
    | succ k => show (_ :: _ :: encR l)[2 * k + 1 + 1]? = _; simpa using ih k (by simpa using h)
theorem encR_hi (l : List R) : ∀ k, k < l.length → (encR l)[2 * k + 1]? = some (.int .i64 (l.getD k (0, 0)).2) := by
  induction l with
  | nil => intro k h; simp at h
  | cons r l ih =>
    intro k h
    cases k with
    | zero => rfl
    | succ k => show (_ :: _ :: encR l)[2 * k + 1 + 1 + 1]? = _; simpa using ih k (by simpa using h)
/-- The two cells of element k. -/
theorem Rd.rng {w : World} {B : Nat} {A : Option Addr} {l : List R} (h : Rd w B A (encR l)) {k : Nat} (hk : k < l.length) :
    ∃ b off x y, A = some ⟨b, off, none⟩ ∧ b < B ∧ Hid (l.getD k (0, 0) = (x, y)) ∧ w.cell? ⟨b, off + k * 2, none⟩ = some (.int .i64 x) ∧ w.cell? ⟨b, off + k * 2 + 1, none⟩ = some (.int .i64 y) := by
  obtain ⟨b, off, e, hb, hc⟩ := h _ _ (encR_lo l k hk)
  have h2 := h.cell e (encR_hi l k hk)
  refine ⟨b, off, _, _, e, hb, Lib.hid rfl, ?_, ?_⟩
  · rw [Nat.mul_comm]; exact hc
  · rw [Nat.mul_comm, Nat.add_assoc]; exact h2
theorem rlist_eq_getD {l m : List R} {n : Nat} (h1 : l.length = n) (h2 : m.length = n) (h : ∀ j, j < n → l.getD j (0,0) = m.getD j (0,0)) : l = m := by
  apply List.ext_getElem (by omega)
  intro i hi hi'
  have := h i (by omega)
  simpa [List.getD, hi, hi'] using this
theorem rgetD_ne {l m : List R} {k : Nat} (h : l.getD k (0,0) ≠ m.getD k (0,0)) : (l == m) = false := by
  rw [beq_eq_false_iff_ne]
  rintro rfl
  exact h rfl
def eqRs (l m : List R) : Bool := l == m
theorem eqRs_self (l : List R) : eqRs l l = true := by simp [eqRs]
theorem eqRs_iff {l m : List R} : eqRs l m = true ↔ l = m := by simp [eqRs]
/-- The numbers that the marking writes. -/
def mk (k0 : Int) (n : Nat) : List R := (List.range n).map fun (i : Nat) => (k0 + 2 * (i : Int), k0 + 2 * (i : Int) + 1)
theorem mk_len (k0 : Int) (n : Nat) : (mk k0 n).length = n := by simp [mk]
theorem mk_get (k0 : Int) (n k : Nat) (h : k < n) : (mk k0 n).getD k (0, 0) = (k0 + 2 * (k : Int), k0 + 2 * (k : Int) + 1) := by simp [mk, h]
theorem grown_refl (w : World) (row : Option Nat) : w.grownBy w row := ⟨rfl, rfl, rfl, Nat.le_refl _, fun _ _ _ => rfl⟩
theorem own_far {w w' : World} {base : Nat} {e : TypeId} {size n : Nat} {v : Value} {xs : List Value} {row : Option Nat} (h : w.ownsRow base e size v n xs) (hg : w.grownBy w' row) (hr : ∀ k, row = some k → k < base) : w'.ownsRow base e size v n xs :=
  h.kept hg (by
    cases hv : v.ownBlock with
    | none => exact .inl rfl
    | some g => exact .inr (fun e => by have := hr g e.symm; have := (h.lt g hv).1; omega))
theorem own_other {w w' : World} {base : Nat} {e : TypeId} {size n : Nat} {v : Value} {xs : List Value} {row : Option Nat} (h : w.ownsRow base e size v n xs) (hg : w.grownBy w' row) (hr : ∀ k, row = some k → v.ownBlock ≠ some k) : w'.ownsRow base e size v n xs :=
  h.kept hg (by
    cases hv : v.ownBlock with
    | none => exact .inl rfl
    | some g => exact .inr (fun e => hr g e.symm hv))
theorem below_only {a w w' : World} {B : Nat} {row : Option Nat} (h : Below B a w) (hg : w.grownBy w' row) (hB : B ≤ w.heap.size) (hr : ∀ k, row = some k → B ≤ k) : Below B a w' := h.grown hg hB hr
end Go.Proofs.Ytnndhkdigmkddaa
