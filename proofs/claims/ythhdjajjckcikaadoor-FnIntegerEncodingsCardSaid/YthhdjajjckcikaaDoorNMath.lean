/- Plain laws on decimal texts. No conditions. -/
import Derived.Lib.ItoaNum
import Derived.Lib.AtoiAll
namespace NM
open Go Go.Lib

/- FormatInt: digits from the least -/
theorem decDigits_small {u : Nat} (h : u < 10) : decDigits u = [UInt8.ofNat (48 + u)] := by rw [decDigits, dif_pos h]
theorem decDigits_big {u : Nat} (h : ¬ u < 10) : decDigits u = decDigits (u / 10) ++ [UInt8.ofNat (48 + u % 10)] := by rw [decDigits, dif_neg h]
theorem decDigits_ne (u : Nat) : decDigits u ≠ [] := by
  by_cases h : u < 10
  · rw [decDigits_small h]; simp
  · rw [decDigits_big h]; simp
/-- what is still to come of a magnitude: nothing of 0 -/
def rest (u : Nat) : List UInt8 := if u = 0 then [] else decDigits u
theorem rest_step {u : Nat} (h : u ≠ 0) : rest u = rest (u / 10) ++ [UInt8.ofNat (48 + u % 10)] := by
  unfold rest
  rw [if_neg h]
  by_cases c : u < 10
  · rw [if_pos (by omega), decDigits_small c, Nat.mod_eq_of_lt c]; rfl
  · rw [if_neg (by omega), decDigits_big c]

/- parse -/
def isDig (c : UInt8) : Bool := decide (48 ≤ c.toNat ∧ c.toNat ≤ 57)
def pv (a : Nat) : List UInt8 → Nat
  | [] => a
  | c :: l => pv (if isDig c then a * 10 + (c.toNat - 48) else a) l
theorem pv_append (l m : List UInt8) : ∀ a, pv a (l ++ m) = pv (pv a l) m := by
  induction l with
  | nil => intro a; rfl
  | cons c l ih => intro a; simp only [List.cons_append, pv]; exact ih _
def pk : List UInt8 → Nat
  | [] => 0
  | c :: l => (if isDig c then 1 else 0) + pk l
theorem pk_append (l m : List UInt8) : pk (l ++ m) = pk l + pk m := by
  induction l with
  | nil => simp [pk]
  | cons c l ih => simp only [List.cons_append, pk, ih]; omega
theorem ofNat_dig {d : Nat} (h : d < 10) : (UInt8.ofNat (48 + d)).toNat = 48 + d := by
  rw [UInt8.toNat_ofNat']; exact Nat.mod_eq_of_lt (by omega)
theorem isDig_ofNat {d : Nat} (h : d < 10) : isDig (UInt8.ofNat (48 + d)) = true := by
  unfold isDig; rw [ofNat_dig h]; simp; omega
theorem pv_dec (u : Nat) : pv 0 (decDigits u) = u := by
  induction u using Nat.strongRecOn with
  | _ u ih =>
    by_cases h : u < 10
    · rw [decDigits_small h]; simp only [pv, isDig_ofNat h, if_true, ofNat_dig h]; omega
    · rw [decDigits_big h, pv_append, ih (u / 10) (by omega)]
      have h10 : u % 10 < 10 := by omega
      simp only [pv, isDig_ofNat h10, if_true, ofNat_dig h10]; omega
theorem all_dec (u : Nat) : ∀ c ∈ decDigits u, isDig c = true := by
  induction u using Nat.strongRecOn with
  | _ u ih =>
    intro c hc
    by_cases h : u < 10
    · rw [decDigits_small h] at hc; simp only [List.mem_singleton] at hc; subst hc; exact isDig_ofNat h
    · rw [decDigits_big h] at hc
      simp only [List.mem_append, List.mem_singleton] at hc
      rcases hc with hc | hc
      · exact ih (u / 10) (by omega) c hc
      · subst hc; exact isDig_ofNat (by omega)
theorem pk_all (l : List UInt8) (h : ∀ c ∈ l, isDig c = true) : pk l = l.length := by
  induction l with
  | nil => rfl
  | cons c l ih => simp only [pk, h c (by simp), if_true, ih (fun x hx => h x (List.mem_cons_of_mem _ hx)), List.length_cons]; omega
theorem pk_dec (u : Nat) : pk (decDigits u) = nDigits u := by rw [pk_all _ (all_dec u), decDigits_length]
theorem nDigits_le_nine (u : Nat) : nDigits u ≤ 9 ↔ u ≤ 999999999 := by
  constructor
  · intro h
    have h1 := lt_pow_nDigits u
    have h2 : 10 ^ nDigits u ≤ 10 ^ 9 := Nat.pow_le_pow_right (by omega) h
    have : (10 : Nat) ^ 9 = 1000000000 := rfl
    omega
  · intro h
    rcases Nat.lt_or_ge 9 (nDigits u) with hc | hc
    · exfalso
      have : ∀ (k u : Nat), k + 1 ≤ nDigits u → 10 ^ k ≤ u ∨ k = 0 := by
        intro k
        induction k with
        | zero => intros; exact .inr rfl
        | succ k ih =>
          intro u hu
          by_cases hs : u < 10
          · rw [nDigits_small hs] at hu; omega
          · rw [nDigits_big hs] at hu
            rcases ih (u / 10) (by omega) with h | h
            · left; rw [Nat.pow_succ]; omega
            · subst h; left; simp; omega
      rcases this 9 u (by omega) with h' | h'
      · have : (10 : Nat) ^ 9 = 1000000000 := rfl
        omega
      · cases h'
    · exact hc
/-- the sign byte is no digit -/
theorem isDig_minus : isDig 45 = false := by decide

/-- what spec.ParseInt reckons of a string -/
def signed (l : List UInt8) : Int := if l.head? = some 45 then -(pv 0 l : Int) else pv 0 l
theorem head_dec (u : Nat) : (decDigits u).head? ≠ some 45 := by
  intro h
  cases hd : decDigits u with
  | nil => rw [hd] at h; cases h
  | cons c l =>
    rw [hd] at h
    simp at h
    have := all_dec u c (by rw [hd]; simp)
    subst h; rw [isDig_minus] at this; cases this
theorem signed_itoa (n : Int) : signed (itoa n) = n := by
  unfold itoa
  split
  · unfold signed
    rw [if_pos (by rfl)]
    show -(pv (if isDig 45 then _ else 0) (decDigits n.natAbs) : Int) = n
    rw [isDig_minus]
    simp only [Bool.false_eq_true, if_false, pv_dec]
    omega
  · unfold signed
    rw [if_neg (head_dec _), pv_dec]
    omega
theorem pk_itoa (n : Int) : pk (itoa n) = nDigits n.natAbs := by
  unfold itoa
  split
  · simp only [pk, isDig_minus, Bool.false_eq_true, if_false, Nat.zero_add, pk_dec]
  · rw [pk_dec]; congr 1; omega
theorem len_itoa (n : Int) : (itoa n).length = nDigits n.natAbs + if n < 0 then 1 else 0 := by
  unfold itoa
  split
  · simp [decDigits_length]
  · rw [decDigits_length]; simp; congr 1; omega
/-- the one meaning of ParseInt -/
def parses (l : List UInt8) (n : Int) : Prop := itoa n = l ∧ -999999999 ≤ n ∧ n ≤ 999999999
theorem parses_signed {l : List UInt8} {n : Int} (h : parses l n) : n = signed l := by rw [← h.1, signed_itoa]
/-- spec's test -/
def specOk (l : List UInt8) : Prop := pk l ≤ 9 ∧ l.length ≤ 10 ∧ itoa (signed l) = l
theorem specOk_iff (l : List UInt8) : specOk l ↔ parses l (signed l) := by
  unfold specOk parses
  constructor
  · rintro ⟨h1, h2, h3⟩
    rw [← h3, pk_itoa, nDigits_le_nine] at h1
    exact ⟨h3, by omega, by omega⟩
  · rintro ⟨h1, h2, h3⟩
    have hn := (nDigits_le_nine (signed l).natAbs).2 (by omega)
    refine ⟨?_, ?_, h1⟩
    · rw [← h1, pk_itoa]; exact hn
    · rw [← h1, len_itoa]; split <;> omega
/- Atoi -/
theorem parseUint10_pv (l : List UInt8) : ∀ a, (∀ c ∈ l, isDig c = true) → (∀ k, pv a (l.take k) ≤ 999999999) → a ≤ 999999999 → parseUint10 a l = .ok (pv a l) := by
  induction l with
  | nil => intro a _ _ _; rfl
  | cons c l ih =>
    intro a hd hb ha
    have hc := hd c (by simp)
    have h1 := hb 1
    simp only [List.take_succ_cons, List.take_zero, pv, hc, if_true] at h1
    simp only [parseUint10, pv, hc, if_true]
    unfold isDig at hc
    rw [if_pos (by simpa using hc), if_neg (by omega), if_neg (by omega)]
    refine ih _ (fun x hx => hd x (List.mem_cons_of_mem _ hx)) (fun k => ?_) h1
    have h2 := hb (k + 1)
    simp only [List.take_succ_cons, pv, hd c (by simp), if_true] at h2
    exact h2
theorem pv_mono (l : List UInt8) : ∀ a, a ≤ pv a l := by
  induction l with
  | nil => intro a; exact Nat.le_refl _
  | cons c l ih =>
    intro a
    simp only [pv]
    refine Nat.le_trans ?_ (ih _)
    split <;> omega
theorem pv_take (l : List UInt8) (a k : Nat) : pv a (l.take k) ≤ pv a l := by
  have h := pv_append (l.take k) (l.drop k) a
  rw [List.take_append_drop] at h
  rw [h]
  exact pv_mono _ _
theorem mag_dec {u : Nat} (h : u ≤ 999999999) : parseMag (decDigits u) = .ok u := by
  unfold parseMag
  rw [if_neg (decDigits_ne u), parseUint10_pv _ 0 (all_dec u) (fun k => ?_) (by omega), pv_dec]
  have := pv_take (decDigits u) 0 k
  rw [pv_dec] at this
  omega
theorem atoi_itoa {n : Int} (h1 : -999999999 ≤ n) (h2 : n ≤ 999999999) : atoiAll (itoa n) = .ok n := by
  unfold itoa
  split
  · simp only [atoiAll]
    rw [if_pos (by decide), mag_dec (by omega)]
    simp
    rw [if_neg (by omega)]
    congr 1
    omega
  · cases hd : decDigits n.toNat with
    | nil => exact absurd hd (decDigits_ne _)
    | cons c l =>
      have hc := all_dec n.toNat c (by rw [hd]; simp)
      unfold isDig at hc
      simp at hc
      simp only [atoiAll]
      rw [if_neg (by omega), ← hd, mag_dec (by omega)]
      have : ¬ c.toNat = 45 := by omega
      simp [this]
      rw [if_neg (by omega)]
      congr 1
      omega
/-- impl's test: Atoi came to n, Itoa gives the string back, n is within. -/
theorem impl_iff (l : List UInt8) (n : Int) : (atoiAll l = .ok n ∧ itoa n = l ∧ -999999999 ≤ n ∧ n ≤ 999999999) ↔ parses l n := by
  constructor
  · rintro ⟨_, h2, h3, h4⟩; exact ⟨h2, h3, h4⟩
  · rintro ⟨h1, h2, h3⟩
    refine ⟨?_, h1, h2, h3⟩
    rw [← h1]; exact atoi_itoa h2 h3
end NM
