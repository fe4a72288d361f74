/- Plain laws of the quic numbers. No program in sight. -/
import Derived.Below
namespace Go.Proofs.Ytnndhkdigmkddaa.QM
def maxQ : Nat := 4611686018427387903
theorem ofNat_toNat (m : Nat) : (UInt8.ofNat m).toNat = m % 256 := by simp
/-- big-endian bytes of n, k of them -/
def be (n : Nat) : Nat → List UInt8
  | 0 => []
  | k + 1 => UInt8.ofNat (n / 256 ^ k) :: be n k
theorem be_len (n k : Nat) : (be n k).length = k := by induction k with
  | zero => rfl
  | succ k ih => simp [be, ih]
def val (a : Nat) (l : List UInt8) : Nat := l.foldl (fun n c => n * 256 + c.toNat) a
theorem val_nil (a : Nat) : val a [] = a := rfl
theorem val_cons (a : Nat) (c : UInt8) (l : List UInt8) : val a (c :: l) = val (a * 256 + c.toNat) l := rfl
theorem val_snoc (a : Nat) (l : List UInt8) (c : UInt8) : val a (l ++ [c]) = val a l * 256 + c.toNat := by simp [val]
theorem val_lt (l : List UInt8) : ∀ a, val a l < (a + 1) * 256 ^ l.length := by
  induction l with
  | nil => intro a; simp [val]
  | cons c l ih =>
    intro a
    rw [val_cons]
    have h := ih (a * 256 + c.toNat)
    have hc := c.toNat_lt
    have : (a * 256 + c.toNat + 1) * 256 ^ l.length ≤ ((a + 1) * 256) * 256 ^ l.length := Nat.mul_le_mul_right _ (by omega)
    rw [List.length_cons, Nat.pow_succ, Nat.mul_comm (256 ^ l.length) 256, ← Nat.mul_assoc]
    omega
theorem val_be (n : Nat) (k : Nat) : ∀ a, val a (be n k) = a * 256 ^ k + n % 256 ^ k := by
  induction k with
  | zero => intro a; simp [be, val, Nat.mod_one]
  | succ k ih =>
    intro a
    rw [be, val_cons, ih, ofNat_toNat]
    have h1 := Nat.mod_pow_succ (b := 256) (k := k) (x := n)
    rw [h1, Nat.pow_succ]
    rw [Nat.add_mul, Nat.mul_assoc, Nat.mul_comm 256 (256 ^ k), Nat.mul_comm (n / 256 ^ k % 256) (256 ^ k)]
    omega

def sizeQ (n : Nat) : Nat := if n < 64 then 1 else if n < 16384 then 2 else if n < 1073741824 then 4 else 8
def tag (k : Nat) : Nat := if k = 2 then 64 else if k = 4 then 128 else if k = 8 then 192 else 0
def encQ (n : Nat) : List UInt8 := UInt8.ofNat (n / 256 ^ (sizeQ n - 1) + tag (sizeQ n)) :: be n (sizeQ n - 1)
theorem sizeQ_pos (n : Nat) : 1 ≤ sizeQ n ∧ sizeQ n ≤ 8 := by unfold sizeQ; (repeat' split) <;> omega
theorem encQ_len (n : Nat) : (encQ n).length = sizeQ n := by
  have := sizeQ_pos n
  simp [encQ, be_len]; omega
/-- a form at the head of a list: its value and its size -/
def deq : List UInt8 → Option (Nat × Nat)
  | [] => none
  | b :: t => let k := 2 ^ (b.toNat / 64); if t.length + 1 < k then none else some (val (b.toNat % 64) (t.take (k - 1)), k)
theorem deq_encQ (n : Nat) (h : n ≤ maxQ) (t : List UInt8) : deq (encQ n ++ t) = some (n, sizeQ n) := by
  unfold maxQ at h
  have key : ∀ k j, k = sizeQ n → k = 2 ^ j → tag k = 64 * j → j < 4 → n / 256 ^ (k - 1) < 64 → deq (encQ n ++ t) = some (n, sizeQ n) := by
    intro k j hk hj ht hj4 hlt
    have hp := sizeQ_pos n
    have hb : (UInt8.ofNat (n / 256 ^ (k - 1) + tag k)).toNat = n / 256 ^ (k - 1) + tag k := by
      rw [ofNat_toNat]
      generalize n / 256 ^ (k - 1) = q at hlt ⊢
      exact Nat.mod_eq_of_lt (by omega)
    simp only [encQ, ← hk, List.cons_append, deq]
    rw [hb]
    have e1 : (n / 256 ^ (k - 1) + tag k) / 64 = j := by generalize n / 256 ^ (k - 1) = q at hlt ⊢; omega
    have e2 : (n / 256 ^ (k - 1) + tag k) % 64 = n / 256 ^ (k - 1) := by generalize n / 256 ^ (k - 1) = q at hlt ⊢; omega
    rw [e1, e2, ← hj]
    have hl : (be n (k - 1) ++ t).length + 1 ≥ k := by simp [be_len]; omega
    rw [if_neg (by omega)]
    have et : (be n (k - 1) ++ t).take (k - 1) = be n (k - 1) := by
      have := be_len n (k - 1)
      rw [List.take_append_of_le_length (by omega), List.take_of_length_le (by omega)]
    rw [et, val_be, Nat.mul_comm, Nat.div_add_mod]
  by_cases c1 : n < 64
  · have hs : sizeQ n = 1 := by unfold sizeQ; rw [if_pos c1]
    exact key 1 0 hs.symm rfl rfl (by omega) (by simpa using c1)
  · by_cases c2 : n < 16384
    · have hs : sizeQ n = 2 := by unfold sizeQ; rw [if_neg c1, if_pos c2]
      exact key 2 1 hs.symm rfl rfl (by omega) (by simp; omega)
    · by_cases c3 : n < 1073741824
      · have hs : sizeQ n = 4 := by unfold sizeQ; rw [if_neg c1, if_neg c2, if_pos c3]
        exact key 4 2 hs.symm rfl rfl (by omega) (by simp; omega)
      · have hs : sizeQ n = 8 := by unfold sizeQ; rw [if_neg c1, if_neg c2, if_neg c3]
        exact key 8 3 hs.symm rfl rfl (by omega) (by simp; omega)
theorem deq_some {l : List UInt8} {n k : Nat} (h : deq l = some (n, k)) : (k = 1 ∨ k = 2 ∨ k = 4 ∨ k = 8) ∧ k ≤ l.length ∧ n ≤ maxQ ∧ sizeQ n ≤ k := by
  cases l with
  | nil => cases h
  | cons b t =>
    simp only [deq] at h
    split at h
    · cases h
    · rename_i hc
      injection h with h
      simp only [Prod.mk.injEq] at h
      obtain ⟨h1, h2⟩ := h
      have hb := b.toNat_lt
      have hv := val_lt (t.take (k - 1)) (b.toNat % 64)
      rw [h2] at h1 hc
      rw [h1] at hv
      have hl : (t.take (k - 1)).length = k - 1 := by rw [List.length_take]; omega
      rw [hl] at hv
      have hj : b.toNat / 64 = 0 ∨ b.toNat / 64 = 1 ∨ b.toNat / 64 = 2 ∨ b.toNat / 64 = 3 := by omega
      have h64 : (b.toNat % 64 + 1) * 256 ^ (k - 1) ≤ 64 * 256 ^ (k - 1) := Nat.mul_le_mul_right _ (by omega)
      unfold maxQ sizeQ
      rcases hj with hj | hj | hj | hj <;> rw [hj] at h2 <;> subst h2 <;> simp only [Nat.reducePow, Nat.reduceSub, Nat.reduceMul] at hv h64 hc ⊢ <;> refine ⟨by simp, by rw [List.length_cons]; omega, by omega, ?_⟩ <;> (by_cases c1 : n < 64 <;> by_cases c2 : n < 16384 <;> by_cases c3 : n < 1073741824 <;> simp only [c1, c2, c3, if_true, if_false] <;> omega)
theorem encQ_ne (n : Nat) : encQ n ≠ [] := by simp [encQ]

/-- all forms of a list -/
def encs (l : List Nat) : List UInt8 := l.flatMap encQ
def deqs : Nat → List UInt8 → Option (List Nat)
  | _, [] => some []
  | 0, _ :: _ => none
  | f + 1, l => match deq l with
    | none => none
    | some (n, k) => (deqs f (l.drop k)).map (n :: ·)
theorem deqs_encs (l : List Nat) : (∀ n ∈ l, n ≤ maxQ) → ∀ f, l.length ≤ f → deqs f (encs l) = some l := by
  induction l with
  | nil => intro _ f _; simp [encs, deqs]
  | cons n l ih =>
    intro hm f hf
    have e : encs (n :: l) = encQ n ++ encs l := rfl
    cases f with
    | zero => simp at hf
    | succ f =>
      rw [e]
      have hne : encQ n ++ encs l ≠ [] := by simp [encQ]
      have hd := deq_encQ n (hm n (by simp)) (encs l)
      have hdr : (encQ n ++ encs l).drop (sizeQ n) = encs l := by
        rw [← encQ_len n]; simp
      cases hl : encQ n ++ encs l with
      | nil => exact absurd hl hne
      | cons b t =>
        simp only [deqs]
        rw [← hl, hd]
        simp only [hdr, ih (fun m hm' => hm m (List.mem_cons_of_mem _ hm')) f (by simpa using hf)]
        rfl
end Go.Proofs.Ytnndhkdigmkddaa.QM
