/- Plain laws of varints and hexadecimal text. No program in sight. -/
import Derived.Below
namespace Go.Proofs.YthhdjajjckcikaaDoor.VM
theorem ofNat_toNat (m : Nat) : (UInt8.ofNat m).toNat = m % 256 := by simp
theorem u8_ext {a b : UInt8} (h : a.toNat = b.toNat) : a = b := UInt8.toNat_inj.1 h
/- varints -/
def encV : Nat → Nat → List UInt8
  | 0, n => [UInt8.ofNat n]
  | f + 1, n => if n < 128 then [UInt8.ofNat n] else UInt8.ofNat (n % 128 + 128) :: encV f (n / 128)
theorem encV_small {f n : Nat} (h : n < 128) : encV f n = [UInt8.ofNat n] := by
  cases f with
  | zero => rfl
  | succ f => simp [encV, h]
theorem encV_big {f n : Nat} (h : ¬ n < 128) : encV (f + 1) n = UInt8.ofNat (n % 128 + 128) :: encV f (n / 128) := by simp [encV, h]
/-- value of the first k bytes, least first -/
def acc (l : List UInt8) : Nat → Nat
  | 0 => 0
  | k + 1 => (match l with | [] => 0 | c :: t => c.toNat % 128 + 128 * acc t k)
def accG : Nat → List UInt8 → Nat
  | _, [] => 0
  | 0, _ => 0
  | k + 1, c :: t => c.toNat % 128 + 128 * accG k t
theorem accG_zero (l : List UInt8) : accG 0 l = 0 := by cases l <;> rfl
theorem accG_snoc (k : Nat) : ∀ (l : List UInt8) (c : UInt8), l[k]? = some c → accG (k + 1) l = accG k l + 128 ^ k * (c.toNat % 128) := by
  induction k with
  | zero =>
    intro l c h
    cases l with
    | nil => cases h
    | cons d t => simp at h; subst h; simp [accG, accG_zero]
  | succ k ih =>
    intro l c h
    cases l with
    | nil => cases h
    | cons d t =>
      simp only [List.getElem?_cons_succ] at h
      have := ih t c h
      simp only [accG] at this ⊢
      rw [this, Nat.mul_add, Nat.pow_succ, ← Nat.mul_assoc, Nat.mul_comm 128 (128 ^ k)]
      omega
theorem accG_lt (k : Nat) : ∀ (l : List UInt8), accG k l < 128 ^ k := by
  induction k with
  | zero => intro l; rw [accG_zero]; decide
  | succ k ih =>
    intro l
    cases l with
    | nil => simp only [accG]; exact Nat.pow_pos (by decide)
    | cons c t =>
      have := ih t
      simp only [accG]
      rw [Nat.pow_succ]
      omega
/-- the form at the head: value, length -/
def decV : Nat → List UInt8 → Option (Nat × Nat)
  | 0, _ => none
  | _, [] => none
  | f + 1, c :: t => if c.toNat < 128 then some (c.toNat, 1) else (decV f t).map fun p => (c.toNat % 128 + 128 * p.1, p.2 + 1)
/-- place of the first small byte among the first f -/
def stop : Nat → List UInt8 → Option Nat
  | 0, _ => none
  | _, [] => none
  | f + 1, c :: t => if c.toNat < 128 then some 0 else (stop f t).map (· + 1)
theorem stop_none {f : Nat} : ∀ {l : List UInt8}, stop f l = none → ∀ i c, i < f → l[i]? = some c → 128 ≤ c.toNat := by
  induction f with
  | zero => intro l _ i c hi; omega
  | succ f ih =>
    intro l h i c hi hc
    cases l with
    | nil => cases hc
    | cons d t =>
      simp only [stop] at h
      split at h
      · cases h
      · rename_i hd
        cases i with
        | zero => simp at hc; subst hc; omega
        | succ i =>
          exact ih (by simpa using h) i c (by omega) (by simpa using hc)
theorem stop_some {f : Nat} : ∀ {l : List UInt8} {i : Nat}, stop f l = some i → i < f ∧ (∃ c, l[i]? = some c ∧ c.toNat < 128) ∧ ∀ j c, j < i → l[j]? = some c → 128 ≤ c.toNat := by
  induction f with
  | zero => intro l i h; cases h
  | succ f ih =>
    intro l i h
    cases l with
    | nil => cases h
    | cons d t =>
      simp only [stop] at h
      split at h
      · rename_i hd
        injection h with h; subst h
        exact ⟨by omega, ⟨d, rfl, hd⟩, fun j c hj => by omega⟩
      · rename_i hd
        simp only [Option.map_eq_some_iff] at h
        obtain ⟨i', h1, rfl⟩ := h
        obtain ⟨a, ⟨c, b1, b2⟩, e⟩ := ih h1
        refine ⟨by omega, ⟨c, by simpa using b1, b2⟩, fun j c' hj hc' => ?_⟩
        cases j with
        | zero => simp at hc'; subst hc'; omega
        | succ j => exact e j c' (by omega) (by simpa using hc')
theorem stop_of {f : Nat} : ∀ {l : List UInt8} {i : Nat} {c : UInt8}, i < f → l[i]? = some c → c.toNat < 128 → (∀ j c, j < i → l[j]? = some c → 128 ≤ c.toNat) → stop f l = some i := by
  induction f with
  | zero => intro l i c h; omega
  | succ f ih =>
    intro l i c hi hc hlt hb
    cases l with
    | nil => cases hc
    | cons d t =>
      simp only [stop]
      cases i with
      | zero => simp at hc; subst hc; rw [if_pos hlt]
      | succ i =>
        have h0 := hb 0 d (by omega) rfl
        rw [if_neg (by omega), ih (i := i) (by omega) (by simpa using hc) hlt (fun j c' hj hc' => hb (j + 1) c' (by omega) (by simpa using hc'))]
        rfl
/-- what DecodeVarint returns -/
def dv (l : List UInt8) : Nat × Nat :=
  match stop 7 l with
  | none => (0, 0)
  | some i => if 0 < i ∧ (l.getD i 0).toNat = 0 then (0, 0) else (accG (i + 1) l, i + 1)

/-- encV of an accumulated value: the same bytes just where the form is shortest -/
theorem encV_acc (k : Nat) : ∀ (f : Nat) (l : List UInt8), k ≤ f → k < l.length →
    (encV f (accG (k + 1) l) = l.take (k + 1) ↔ (∀ j c, j < k → l[j]? = some c → 128 ≤ c.toNat) ∧ (l.getD k 0).toNat < 128 ∧ (0 < k → (l.getD k 0).toNat ≠ 0)) := by
  induction k with
  | zero =>
    intro f l _ hl
    cases l with
    | nil => simp at hl
    | cons c t =>
      have hc := c.toNat_lt
      simp only [accG, accG_zero, Nat.mul_zero, Nat.add_zero]
      rw [encV_small (by omega)]
      simp
      constructor
      · intro h
        have := congrArg UInt8.toNat h
        rw [ofNat_toNat] at this
        omega
      · intro h
        apply u8_ext
        rw [ofNat_toNat]; omega
  | succ k ih =>
    intro f l hf hl
    cases l with
    | nil => simp at hl
    | cons c t =>
      have hc := c.toNat_lt
      obtain ⟨f, rfl⟩ : ∃ g, f = g + 1 := ⟨f - 1, by omega⟩
      have ih' := ih f t (by omega) (by simpa using hl)
      have hlt := accG_lt (k + 1) t
      have hlk : k < t.length := by simpa using hl
      have hget : (c :: t).getD (k + 1) 0 = t.getD k 0 := by simp
      have hacc : accG (k + 1 + 1) (c :: t) = c.toNat % 128 + 128 * accG (k + 1) t := rfl
      rw [hget, hacc, List.take_succ_cons]
      by_cases hz : accG (k + 1) t = 0
      · rw [hz, Nat.mul_zero, Nat.add_zero, encV_small (by omega)]
        constructor
        · intro h
          exfalso
          have := congrArg List.length h
          rw [List.length_singleton, List.length_cons, List.length_take] at this
          omega
        · rintro ⟨h1, h2, h3⟩
          exfalso
          have hs := accG_snoc k t (t.getD k 0) (by simp [hlk])
          rw [hz] at hs
          have hne := h3 (by omega)
          have : (t.getD k 0).toNat % 128 = (t.getD k 0).toNat := Nat.mod_eq_of_lt h2
          have hs2 : accG k t + 128 ^ k * (t.getD k 0).toNat = 0 := by rw [← this]; omega
          have hp : 0 < 128 ^ k * (t.getD k 0).toNat := Nat.mul_pos (Nat.pow_pos (by decide)) (by omega)
          generalize 128 ^ k * (t.getD k 0).toNat = z at hs2 hp
          omega
      · rw [encV_big (by omega)]
        have e1 : (c.toNat % 128 + 128 * accG (k + 1) t) % 128 = c.toNat % 128 := by omega
        have e2 : (c.toNat % 128 + 128 * accG (k + 1) t) / 128 = accG (k + 1) t := by omega
        rw [e1, e2, List.cons.injEq, ih']
        constructor
        · rintro ⟨h0, h1, h2, h3⟩
          have h0' := congrArg UInt8.toNat h0
          rw [ofNat_toNat] at h0'
          refine ⟨fun j d hj hd => ?_, h2, fun _ => ?_⟩
          · cases j with
            | zero => simp at hd; subst hd; omega
            | succ j => exact h1 j d (by omega) (by simpa using hd)
          · intro hzero
            by_cases hk : 0 < k
            · exact h3 hk hzero
            · have : k = 0 := by omega
              subst this
              cases t with
              | nil => simp at hlk
              | cons d t => simp [accG, accG_zero] at hz hzero; omega
        · rintro ⟨h1, h2, h3⟩
          refine ⟨?_, fun j d hj hd => h1 (j + 1) d (by omega) (by simpa using hd), h2, fun _ => h3 (by omega)⟩
          apply u8_ext
          rw [ofNat_toNat]
          have := h1 0 c (by omega) rfl
          omega
/-- spec's search: the first k with encV (acc k) = take k gives dv; none: (0,0) -/
theorem dv_hit {l : List UInt8} {k : Nat} (hk : k < 7) (hl : k < l.length) (h : encV 7 (accG (k + 1) l) = l.take (k + 1)) : dv l = (accG (k + 1) l, k + 1) := by
  rw [encV_acc k 7 l (by omega) hl] at h
  obtain ⟨h1, h2, h3⟩ := h
  have hs : stop 7 l = some k := stop_of (c := l.getD k 0) hk (by simp [hl]) h2 h1
  unfold dv
  rw [hs]
  simp only
  rw [if_neg (by rintro ⟨a, b⟩; exact h3 a b)]
theorem dv_miss {l : List UInt8} (h : ∀ k, k < 7 → k < l.length → encV 7 (accG (k + 1) l) ≠ l.take (k + 1)) : dv l = (0, 0) := by
  unfold dv
  split
  · rfl
  · rename_i i hs
    obtain ⟨h1, ⟨c, h2, h3⟩, h4⟩ := stop_some hs
    have hl : i < l.length := by rw [List.getElem?_eq_some_iff] at h2; exact h2.1
    have := h i h1 hl
    rw [ne_eq, encV_acc i 7 l (by omega) hl] at this
    have hg : l.getD i 0 = c := by simp [h2]
    split
    · rfl
    · rename_i hc
      exfalso
      apply this
      refine ⟨h4, by rw [hg]; exact h3, fun hi hz => hc ⟨hi, hz⟩⟩
/- the round trip -/
theorem encV_len (f : Nat) : ∀ n, 1 ≤ (encV f n).length ∧ (encV f n).length ≤ f + 1 := by
  induction f with
  | zero => intro n; simp [encV]
  | succ f ih =>
    intro n
    by_cases h : n < 128
    · rw [encV_small h]; simp
    · rw [encV_big h]; have := ih (n / 128); simp; omega
theorem encV_round (f : Nat) : ∀ (n : Nat) (t : List UInt8), n < 128 ^ (f + 1) → (∀ j, j < (encV f n).length - 1 → 128 ≤ ((encV f n ++ t).getD j 0).toNat) ∧ ((encV f n ++ t).getD ((encV f n).length - 1) 0).toNat < 128 ∧
    (128 ≤ n → ((encV f n ++ t).getD ((encV f n).length - 1) 0).toNat ≠ 0) ∧ accG (encV f n).length (encV f n ++ t) = n ∧ (128 ≤ n ↔ 2 ≤ (encV f n).length) := by
  induction f with
  | zero =>
    intro n t h
    simp at h
    have e : encV 0 n = [UInt8.ofNat n] := rfl
    rw [e]
    have hn : (UInt8.ofNat n).toNat = n := by rw [ofNat_toNat]; omega
    simp [accG, accG_zero, hn]
    omega
  | succ f ih =>
    intro n t h
    by_cases hs : n < 128
    · rw [encV_small hs]
      have hn : (UInt8.ofNat n).toNat = n := by rw [ofNat_toNat]; omega
      simp [accG, accG_zero, hn]
      omega
    · rw [encV_big hs]
      have hq : n / 128 < 128 ^ (f + 1) := by rw [Nat.pow_succ] at h; omega
      obtain ⟨i1, i2, i3, i4, i5⟩ := ih (n / 128) t hq
      have hl := encV_len f (n / 128)
      have hb : (UInt8.ofNat (n % 128 + 128)).toNat = n % 128 + 128 := by rw [ofNat_toNat]; omega
      have hL : (UInt8.ofNat (n % 128 + 128) :: encV f (n / 128)).length - 1 = (encV f (n / 128)).length - 1 + 1 := by simp; omega
      refine ⟨fun j hj => ?_, ?_, fun _ => ?_, ?_, ?_⟩
      · cases j with
        | zero => simp only [List.cons_append, List.getD_cons_zero, hb]; omega
        | succ j => simpa using i1 j (by simp at hj; omega)
      · rw [hL]; simpa using i2
      · rw [hL]
        simp only [List.cons_append, List.getD_cons_succ]
        by_cases hn : 128 ≤ n / 128
        · exact i3 hn
        · have e : encV f (n / 128) = [UInt8.ofNat (n / 128)] := encV_small (by omega)
          rw [e]
          simp only [List.length_singleton, Nat.sub_self, List.cons_append, List.getD_cons_zero, ofNat_toNat]
          omega
      · rw [List.length_cons, List.cons_append]
        simp only [accG, i4, hb]; omega
      · simp; omega
theorem encV_len_pow (k : Nat) : ∀ f n, n < 128 ^ (k + 1) → (encV f n).length ≤ k + 1 := by
  induction k with
  | zero => intro f n h; rw [encV_small (by simpa using h)]; simp
  | succ k ih =>
    intro f n h
    by_cases hs : n < 128
    · rw [encV_small hs]; simp
    · cases f with
      | zero => simp [encV]
      | succ f =>
        rw [encV_big hs]
        have := ih f (n / 128) (by rw [Nat.pow_succ] at h; omega)
        simp; omega
theorem dv_encV {n : Nat} (h : n ≤ 562949953421311) (t : List UInt8) : dv (encV 7 n ++ t) = (n, (encV 7 n).length) := by
  have hl7 : (encV 7 n).length ≤ 7 := encV_len_pow 6 7 n (by simp; omega)
  have hl1 := (encV_len 7 n).1
  obtain ⟨i1, i2, i3, i4, i5⟩ := encV_round 7 n t (by simp; omega)
  generalize hL : encV 7 n ++ t = L at i1 i2 i3 i4 ⊢
  have hLl : (encV 7 n).length - 1 < L.length := by rw [← hL]; simp; omega
  have hs : stop 7 L = some ((encV 7 n).length - 1) := by
    refine stop_of (c := L.getD ((encV 7 n).length - 1) 0) (by omega) (by simp [hLl]) i2 (fun j c hj hc => ?_)
    have := i1 j hj
    simpa [hc] using this
  unfold dv
  rw [hs]
  simp only
  have e : (encV 7 n).length - 1 + 1 = (encV 7 n).length := by omega
  rw [e, i4, if_neg]
  rintro ⟨a, b⟩
  exact i3 (by omega) b
/- hex -/
def digs : List UInt8 := [48, 49, 50, 51, 52, 53, 54, 55, 56, 57, 97, 98, 99, 100, 101, 102]
def dig (k : Nat) : UInt8 := digs.getD k 0
def hexV (c : UInt8) : Int := if 48 ≤ c.toNat ∧ c.toNat ≤ 57 then c.toNat - 48 else if 97 ≤ c.toNat ∧ c.toNat ≤ 102 then c.toNat - 87 else -1
theorem hexV_dig : ∀ k : Fin 16, hexV (dig k.val) = k.val := by decide
theorem dig_hexV : ∀ n : Fin 256, 0 ≤ hexV (UInt8.ofNat n.val) → dig (hexV (UInt8.ofNat n.val)).toNat = UInt8.ofNat n.val := by decide +kernel
theorem hexV_lt : ∀ n : Fin 256, hexV (UInt8.ofNat n.val) < 16 ∧ -1 ≤ hexV (UInt8.ofNat n.val) := by decide +kernel
theorem hexV_bd (c : UInt8) : hexV c < 16 ∧ -1 ≤ hexV c := by
  have := hexV_lt ⟨c.toNat, c.toNat_lt⟩
  simpa using this
theorem dig_eq {c : UInt8} {k : Nat} (hk : k < 16) : dig k = c ↔ hexV c = k := by
  constructor
  · intro h; rw [← h]; exact hexV_dig ⟨k, hk⟩
  · intro h
    have := dig_hexV ⟨c.toNat, c.toNat_lt⟩
    simp at this
    have := this (by omega)
    rw [h] at this
    simpa using this
def encH (l : List UInt8) : List UInt8 := l.flatMap fun c => [dig (c.toNat / 16), dig (c.toNat % 16)]
theorem encH_len (l : List UInt8) : (encH l).length = 2 * l.length := by
  induction l with
  | nil => rfl
  | cons c l ih => show (_ :: _ :: encH l).length = _; simp [ih]; omega
def decH : List UInt8 → Option (List UInt8)
  | [] => some []
  | [_] => none
  | a :: b :: t => if hexV a < 0 ∨ hexV b < 0 then none else (decH t).map (UInt8.ofNat (16 * (hexV a).toNat + (hexV b).toNat) :: ·)
theorem decH_encH (l : List UInt8) : decH (encH l) = some l := by
  induction l with
  | nil => rfl
  | cons c l ih =>
    show decH (dig (c.toNat / 16) :: dig (c.toNat % 16) :: encH l) = _
    have hc := c.toNat_lt
    have h1 := hexV_dig ⟨c.toNat / 16, by omega⟩
    have h2 := hexV_dig ⟨c.toNat % 16, by omega⟩
    simp only at h1 h2
    simp only [decH, h1, h2, ih]
    rw [if_neg (by omega)]
    simp only [Option.map_some, Option.some.injEq, List.cons.injEq, and_true]
    apply u8_ext
    rw [ofNat_toNat]; omega
theorem decH_odd : ∀ (n : Nat) (l : List UInt8), l.length = 2 * n + 1 → decH l = none := by
  intro n
  induction n with
  | zero => intro l h; match l, h with | [a], _ => rfl
  | succ n ih =>
    intro l h
    match l, h with
    | a :: b :: t, h =>
      simp only [decH]
      split
      · rfl
      · rw [ih t (by simp at h; omega)]; rfl
end Go.Proofs.YthhdjajjckcikaaDoor.VM
