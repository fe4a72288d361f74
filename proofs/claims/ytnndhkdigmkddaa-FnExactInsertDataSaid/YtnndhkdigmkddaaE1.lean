/- Chunks: their cells, and the contracts of the laws' functions on them. No conditions. -/
import Derived.Test.YtnndhkdigmkddaaMemQ
namespace Go.Proofs.Ytnndhkdigmkddaa
open Go.ChangeShapes Go.WideShapes Go.ChangeAt Go.RowKit Go.Sort
set_option linter.unusedVariables false
set_option linter.unusedSimpArgs false
theorem own_rd {w : World} {base : Nat} {e : TypeId} {size n c : Nat} {A : Option Addr} {xs : List Value} (h : w.ownsRow base e size (.slice A n c) n xs) : Rd w w.heap.size A xs := by
  obtain ⟨A', c', hv, _, hr⟩ := Rd.of_own h
  injection hv with e1 e2 e3
  rw [e1]; exact hr
theorem gb_of_below {w w' : World} (h : Below w.heap.size w w') (row : Option Nat) : w.grownBy w' row := ⟨h.os, h.tape, h.output, h.size, fun k hk _ => h.block k hk⟩
theorem own_step {w w' : World} {base : Nat} {e : TypeId} {size n : Nat} {v : Value} {xs : List Value} (h : w.ownsRow base e size v n xs) (hb : Below w.heap.size w w') : w'.ownsRow base e size v n xs :=
  h.kept (gb_of_below hb none) (by cases hv : v.ownBlock <;> simp)
theorem cell_new2 (w : World) (x y : Value) (T : TypeId) : (w.alloc (.cells #[x, y] T)).cell? ⟨w.heap.size, 0, none⟩ = some x ∧ (w.alloc (.cells #[x, y] T)).cell? ⟨w.heap.size, 1, none⟩ = some y := by
  constructor <;> simp [go_sem]
theorem bytes_of {d d' : ByteArray} (h : d.toList = d'.toList) : d = d' := by
  rw [ByteArray.toList_eq, ByteArray.toList_eq] at h
  exact bytes_inj h
/-- A chunk. -/
abbrev Ck := Int × ByteArray
def ck0 : Ck := (0, ⟨#[]⟩)
def encC (l : List Ck) : List Value := l.flatMap fun r => [.int .i64 r.1, .string r.2]
theorem encC_len (l : List Ck) : (encC l).length = 2 * l.length := by
  induction l with
  | nil => rfl
  | cons r l ih => show (_ :: _ :: encC l).length = _; simp [ih]; omega
theorem encC_lo (l : List Ck) : ∀ k, k < l.length → (encC l)[2 * k]? = some (.int .i64 (l.getD k ck0).1) := by
  induction l with
  | nil => intro k h; simp at h
  | cons r l ih =>
    intro k h
    cases k with
    | zero => rfl
    | succ k => show (_ :: _ :: encC l)[2 * k + 1 + 1]? = _; simpa using ih k (by simpa using h)
theorem encC_hi (l : List Ck) : ∀ k, k < l.length → (encC l)[2 * k + 1]? = some (.string (l.getD k ck0).2) := by
  induction l with
  | nil => intro k h; simp at h
  | cons r l ih =>
    intro k h
    cases k with
    | zero => rfl
    | succ k => show (_ :: _ :: encC l)[2 * k + 1 + 1 + 1]? = _; simpa using ih k (by simpa using h)
/-- The two cells of element k. -/
theorem Rd.chk {w : World} {B : Nat} {A : Option Addr} {l : List Ck} (h : Rd w B A (encC l)) {k : Nat} (hk : k < l.length) :
    ∃ b off x d, A = some ⟨b, off, none⟩ ∧ b < B ∧ Hid (l.getD k ck0 = (x, d)) ∧ w.cell? ⟨b, off + k * 2, none⟩ = some (.int .i64 x) ∧ w.cell? ⟨b, off + k * 2 + 1, none⟩ = some (.string d) := by
  obtain ⟨b, off, e, hb, hc⟩ := h _ _ (encC_lo l k hk)
  have h2 := h.cell e (encC_hi l k hk)
  refine ⟨b, off, _, _, e, hb, Lib.hid rfl, ?_, ?_⟩
  · rw [Nat.mul_comm]; exact hc
  · rw [Nat.mul_comm, Nat.add_assoc]; exact h2
theorem list_eq_getD {l m : List Ck} {n : Nat} (h1 : l.length = n) (h2 : m.length = n) (h : ∀ j, j < n → l.getD j ck0 = m.getD j ck0) : l = m := by
  apply List.ext_getElem (by omega)
  intro i hi hi'
  have := h i (by omega)
  simpa [List.getD, hi, hi'] using this
theorem getD_ne {l m : List Ck} {k : Nat} (h : l.getD k ck0 ≠ m.getD k ck0) : decide (l = m) = false := by
  rw [decide_eq_false_iff_not]
  rintro rfl
  exact h rfl
def eqCs (l m : List Ck) : Bool := decide (l = m)
theorem eqCs_self (l : List Ck) : eqCs l l = true := by simp [eqCs]
theorem eqCs_iff {l m : List Ck} : eqCs l m = true ↔ l = m := by simp [eqCs]
def eqCb (a : Int) (b : ByteArray) (c : Int) (d : ByteArray) : Bool := a == c && b.toList == d.toList
theorem eqCb_true {a c : Int} {b d : ByteArray} (h : eqCb a b c d = true) : (a, b) = (c, d) := by
  unfold eqCb at h
  simp only [Bool.and_eq_true, beq_iff_eq] at h
  rw [h.1, bytes_of h.2]
theorem eqCb_false {a c : Int} {b d : ByteArray} (h : eqCb a b c d = false) : (a, b) ≠ (c, d) := by
  rintro e; injection e with e1 e2; subst e1 e2; simp [eqCb] at h
theorem eqChunk_any (a : Int) (b : ByteArray) (c : Int) (d : ByteArray) (w : World) : Calls Try.prog 45 #[.agg #[.int .i64 a, .string b], .agg #[.int .i64 c, .string d]] w fun e w' => e = .returned (.bool (eqCb a b c d)) ∧ Below w.heap.size w w' := by
  cases h1 : (a == c)
  · go_enter Try.func45, Try.ntmps45
    go_wp2
    go_ret
    exact ⟨ret_bool (by simp [eqCb, h1]), ((Below.refl _ _).alloc (Nat.le_refl _) _).alloc (by simp) _⟩
  · cases h2 : (b.toList == d.toList)
    · go_enter Try.func45, Try.ntmps45
      go_wp2
      go_ret
      exact ⟨ret_bool (by simp [eqCb, h1, h2]), ((Below.refl _ _).alloc (Nat.le_refl _) _).alloc (by simp) _⟩
    · go_enter Try.func45, Try.ntmps45
      go_wp2
      go_ret
      exact ⟨ret_bool (by simp [eqCb, h1, h2]), ((Below.refl _ _).alloc (Nat.le_refl _) _).alloc (by simp) _⟩
theorem toChunk_any (a : Int) (b : ByteArray) (w : World) : Calls Try.prog 44 #[.agg #[.int .i64 a, .string b]] w fun e w' => e = .returned (.agg #[.int .i64 a, .string b]) ∧ Below w.heap.size w w' := by
  go_enter Try.func44, Try.ntmps44
  go_wp2
  refine bodyPost_ret (v := .agg #[.int .i64 a, .string b]) (by simp [results, Try.results44, go_sem]) rfl ⟨rfl, ?_⟩
  go_grown
theorem szChunk_any (a : Int) (d : ByteArray) (left : Int) (hl : 0 ≤ left) (hl2 : left ≤ 1048576) (hd : d.size ≤ maxLen) (w : World) :
    Calls Try.prog 43 #[.agg #[.int .i64 a, .string d], .int .i64 left] w fun x w' => x = .returned (.int .i64 (if left < d.size then -1 else left - d.size)) ∧ Below w.heap.size w w' := by
  by_cases h : left < (d.size : Int)
  · rw [if_pos h]
    have h1 : decide (left - (d.size : Int) < 0) = true := by simp; omega
    unfold maxLen at hd
    go_enter Try.func43, Try.ntmps43
    go_wp2
    go_ret
    exact ⟨rfl, (Below.refl _ _).alloc (Nat.le_refl _) _⟩
  · rw [if_neg h]
    have h1 : decide (left - (d.size : Int) < 0) = false := by simp; omega
    have h2 : d.size ≤ 1048576 := by omega
    go_enter Try.func43, Try.ntmps43
    go_wp2
    go_ret
    exact ⟨rfl, (Below.refl _ _).alloc (Nat.le_refl _) _⟩
end Go.Proofs.Ytnndhkdigmkddaa
