/- Plain laws of the quic numbers. No program in sight. DecodeQuic: one contract for each package. No conditions. Walks of the laws on DecodeQuic and IsShortest. DecodeQuics: its contracts. No conditions. -/
import Derived.Below
import Derived.Test.YtadoiehgobcjcaaIds
import Derived.Laws.BitsLemmas
import Derived.Laws.Bits64
import Derived.Lib.Hide
import Derived.Test.YtadoiehgobcjcaaA1
import Derived.Deep.LoopGhost
namespace Go.Proofs.Ytadoiehgobcjcaa.QM
def maxQ : Nat := 4611686018427387903
theorem ofNat_toNat (m : Nat) : (UInt8.ofNat m).toNat = m % 256 := by simp
/-- big-endian bytes of n, k of them -/
def be (n : Nat) : Nat → List UInt8
  | 0 => []
  | k + 1 => UInt8.ofNat (n / 256 ^ k) :: be n k
theorem be_len (n k : Nat) : (be n k).length = k := by induction k with
  | zero => rfl
  | succ k ih => simp [be, ih]
def val (a : Nat) (l : List UInt8) : Nat := l.foldl (fun n c => n * 256 + c.toNat) a
theorem val_nil (a : Nat) : val a [] = a := rfl
theorem val_cons (a : Nat) (c : UInt8) (l : List UInt8) : val a (c :: l) = val (a * 256 + c.toNat) l := rfl
theorem val_snoc (a : Nat) (l : List UInt8) (c : UInt8) : val a (l ++ [c]) = val a l * 256 + c.toNat := by simp [val]
theorem val_lt (l : List UInt8) : ∀ a, val a l < (a + 1) * 256 ^ l.length := by
  induction l with
  | nil => intro a; simp [val]
  | cons c l ih =>
    intro a
    rw [val_cons]
    have h := ih (a * 256 + c.toNat)
    have hc := c.toNat_lt
    have : (a * 256 + c.toNat + 1) * 256 ^ l.length ≤ ((a + 1) * 256) * 256 ^ l.length := Nat.mul_le_mul_right _ (by omega)
    rw [List.length_cons, Nat.pow_succ, Nat.mul_comm (256 ^ l.length) 256, ← Nat.mul_assoc]
    omega
theorem val_be (n : Nat) (k : Nat) : ∀ a, val a (be n k) = a * 256 ^ k + n % 256 ^ k := by
  induction k with
  | zero => intro a; simp [be, val, Nat.mod_one]
  | succ k ih =>
    intro a
    rw [be, val_cons, ih, ofNat_toNat]
    have h1 := Nat.mod_pow_succ (b := 256) (k := k) (x := n)
    rw [h1, Nat.pow_succ]
    rw [Nat.add_mul, Nat.mul_assoc, Nat.mul_comm 256 (256 ^ k), Nat.mul_comm (n / 256 ^ k % 256) (256 ^ k)]
    omega

def sizeQ (n : Nat) : Nat := if n < 64 then 1 else if n < 16384 then 2 else if n < 1073741824 then 4 else 8
def tag (k : Nat) : Nat := if k = 2 then 64 else if k = 4 then 128 else if k = 8 then 192 else 0
def encQ (n : Nat) : List UInt8 := UInt8.ofNat (n / 256 ^ (sizeQ n - 1) + tag (sizeQ n)) :: be n (sizeQ n - 1)
theorem sizeQ_pos (n : Nat) : 1 ≤ sizeQ n ∧ sizeQ n ≤ 8 := by unfold sizeQ; (repeat' split) <;> omega
theorem encQ_len (n : Nat) : (encQ n).length = sizeQ n := by
  have := sizeQ_pos n
  simp [encQ, be_len]; omega
/-- a form at the head of a list: its value and its size -/
def deq : List UInt8 → Option (Nat × Nat)
  | [] => none
  | b :: t => let k := 2 ^ (b.toNat / 64); if t.length + 1 < k then none else some (val (b.toNat % 64) (t.take (k - 1)), k)
theorem deq_encQ (n : Nat) (h : n ≤ maxQ) (t : List UInt8) : deq (encQ n ++ t) = some (n, sizeQ n) := by
  unfold maxQ at h
  have key : ∀ k j, k = sizeQ n → k = 2 ^ j → tag k = 64 * j → j < 4 → n / 256 ^ (k - 1) < 64 → deq (encQ n ++ t) = some (n, sizeQ n) := by
    intro k j hk hj ht hj4 hlt
    have hp := sizeQ_pos n
    have hb : (UInt8.ofNat (n / 256 ^ (k - 1) + tag k)).toNat = n / 256 ^ (k - 1) + tag k := by
      rw [ofNat_toNat]
      generalize n / 256 ^ (k - 1) = q at hlt ⊢
      exact Nat.mod_eq_of_lt (by omega)
    simp only [encQ, ← hk, List.cons_append, deq]
    rw [hb]
    have e1 : (n / 256 ^ (k - 1) + tag k) / 64 = j := by generalize n / 256 ^ (k - 1) = q at hlt ⊢; omega
    have e2 : (n / 256 ^ (k - 1) + tag k) % 64 = n / 256 ^ (k - 1) := by generalize n / 256 ^ (k - 1) = q at hlt ⊢; omega
    rw [e1, e2, ← hj]
    have hl : (be n (k - 1) ++ t).length + 1 ≥ k := by simp [be_len]; omega
    rw [if_neg (by omega)]
    have et : (be n (k - 1) ++ t).take (k - 1) = be n (k - 1) := by
      have := be_len n (k - 1)
      rw [List.take_append_of_le_length (by omega), List.take_of_length_le (by omega)]
    rw [et, val_be, Nat.mul_comm, Nat.div_add_mod]
  by_cases c1 : n < 64
  · have hs : sizeQ n = 1 := by unfold sizeQ; rw [if_pos c1]
    exact key 1 0 hs.symm rfl rfl (by omega) (by simpa using c1)
  · by_cases c2 : n < 16384
    · have hs : sizeQ n = 2 := by unfold sizeQ; rw [if_neg c1, if_pos c2]
      exact key 2 1 hs.symm rfl rfl (by omega) (by simp; omega)
    · by_cases c3 : n < 1073741824
      · have hs : sizeQ n = 4 := by unfold sizeQ; rw [if_neg c1, if_neg c2, if_pos c3]
        exact key 4 2 hs.symm rfl rfl (by omega) (by simp; omega)
      · have hs : sizeQ n = 8 := by unfold sizeQ; rw [if_neg c1, if_neg c2, if_neg c3]
        exact key 8 3 hs.symm rfl rfl (by omega) (by simp; omega)
theorem deq_some {l : List UInt8} {n k : Nat} (h : deq l = some (n, k)) : (k = 1 ∨ k = 2 ∨ k = 4 ∨ k = 8) ∧ k ≤ l.length ∧ n ≤ maxQ ∧ sizeQ n ≤ k := by
  cases l with
  | nil => cases h
  | cons b t =>
    simp only [deq] at h
    split at h
    · cases h
    · rename_i hc
      injection h with h
      simp only [Prod.mk.injEq] at h
      obtain ⟨h1, h2⟩ := h
      have hb := b.toNat_lt
      have hv := val_lt (t.take (k - 1)) (b.toNat % 64)
      rw [h2] at h1 hc
      rw [h1] at hv
      have hl : (t.take (k - 1)).length = k - 1 := by rw [List.length_take]; omega
      rw [hl] at hv
      have hj : b.toNat / 64 = 0 ∨ b.toNat / 64 = 1 ∨ b.toNat / 64 = 2 ∨ b.toNat / 64 = 3 := by omega
      have h64 : (b.toNat % 64 + 1) * 256 ^ (k - 1) ≤ 64 * 256 ^ (k - 1) := Nat.mul_le_mul_right _ (by omega)
      unfold maxQ sizeQ
      rcases hj with hj | hj | hj | hj <;> rw [hj] at h2 <;> subst h2 <;> simp only [Nat.reducePow, Nat.reduceSub, Nat.reduceMul] at hv h64 hc ⊢ <;> refine ⟨by simp, by rw [List.length_cons]; omega, by omega, ?_⟩ <;> (by_cases c1 : n < 64 <;> by_cases c2 : n < 16384 <;> by_cases c3 : n < 1073741824 <;> simp only [c1, c2, c3, if_true, if_false] <;> omega)
theorem encQ_ne (n : Nat) : encQ n ≠ [] := by simp [encQ]

/-- all forms of a list -/
def encs (l : List Nat) : List UInt8 := l.flatMap encQ
def deqs : Nat → List UInt8 → Option (List Nat)
  | _, [] => some []
  | 0, _ :: _ => none
  | f + 1, l => match deq l with
    | none => none
    | some (n, k) => (deqs f (l.drop k)).map (n :: ·)
theorem deqs_encs (l : List Nat) : (∀ n ∈ l, n ≤ maxQ) → ∀ f, l.length ≤ f → deqs f (encs l) = some l := by
  induction l with
  | nil => intro _ f _; simp [encs, deqs]
  | cons n l ih =>
    intro hm f hf
    have e : encs (n :: l) = encQ n ++ encs l := rfl
    cases f with
    | zero => simp at hf
    | succ f =>
      rw [e]
      have hne : encQ n ++ encs l ≠ [] := by simp [encQ]
      have hd := deq_encQ n (hm n (by simp)) (encs l)
      have hdr : (encQ n ++ encs l).drop (sizeQ n) = encs l := by
        rw [← encQ_len n]; simp
      cases hl : encQ n ++ encs l with
      | nil => exact absurd hl hne
      | cons b t =>
        simp only [deqs]
        rw [← hl, hd]
        simp only [hdr, ih (fun m hm' => hm m (List.mem_cons_of_mem _ hm')) f (by simpa using hf)]
        rfl
end Go.Proofs.Ytadoiehgobcjcaa.QM

namespace Go.Proofs.Ytadoiehgobcjcaa
open Go.ChangeShapes Go.WideShapes Go.ChangeAt Go.RowKit QM
set_option linter.unusedVariables false
theorem wraps_i64_63 (n : Int) (h₀ : 0 ≤ n) (h₁ : n < 2 ^ 63) : IntKind.i64.wrap n = n := by rw [IntKind.wrap_i64]; omega
theorem wraps_u8_8 (n : Int) (h₀ : 0 ≤ n) (h₁ : n < 2 ^ 8) : IntKind.u8.wrap n = n := by rw [IntKind.wrap_u8]; omega
theorem or_low (a b : Nat) (ha : a < 18014398509481984) (hb : b < 256) : bits .or .i64 ((a : Int) * 256) (b : Int) = ((a * 256 + b : Nat) : Int) := by
  have h := (bits_nat .i64 63 (by decide) wraps_i64_63 (a * 256) b (by omega) (by omega)).2
  have e : a * 256 ||| b = a * 256 + b := by
    have := Nat.shiftLeft_add_eq_or_of_lt (i := 8) (b := b) (by omega) a
    rw [Nat.shiftLeft_eq] at this
    exact this.symm
  rw [e, Int.natCast_mul] at h
  exact h
theorem and_63 (b : Nat) (hb : b < 256) : bits .and .u8 (b : Int) 63 = ((b % 64 : Nat) : Int) := by
  have h := (bits_nat .u8 8 (by decide) wraps_u8_8 b 63 (by omega) (by decide)).1
  have e : b &&& 63 = b % 64 := Nat.and_two_pow_sub_one_eq_mod b 6
  rw [e] at h
  exact h
def bl (s : ByteArray) : List UInt8 := s.data.toList
theorem bl_len (s : ByteArray) : (bl s).length = s.size := by unfold bl; rw [Array.length_toList]; rfl
theorem bl_get (s : ByteArray) (p : Nat) (h : p < s.size) : (bl s)[p]'(by rw [bl_len]; exact h) = s[p]'h := by
  simp [bl]; rfl
def acc (s : ByteArray) (p j : Nat) : Nat := val (((bl s).getD p 0).toNat % 64) (((bl s).drop (p + 1)).take j)
theorem bl_getD (s : ByteArray) (p : Nat) (h : p < s.size) : (bl s).getD p 0 = s[p]'h := by
  rw [List.getD_eq_getElem?_getD, List.getElem?_eq_getElem (by rw [bl_len]; exact h), Option.getD_some, bl_get s p h]
theorem acc_zero (s : ByteArray) (p : Nat) (h : p < s.size) : acc s p 0 = (s[p]'h).toNat % 64 := by
  unfold acc; rw [bl_getD s p h, List.take_zero, val_nil]
theorem acc_succ (s : ByteArray) (p j : Nat) (h : p + (j + 1) < s.size) : acc s p (j + 1) = acc s p j * 256 + (s[p + (j + 1)]'h).toNat := by
  unfold acc
  have hl : j < ((bl s).drop (p + 1)).length := by rw [List.length_drop, bl_len]; omega
  rw [List.take_succ_eq_append_getElem hl, val_snoc]
  congr 2
  rw [List.getElem_drop]
  have := bl_get s (p + (j + 1)) h
  rw [← this]
  congr 1
  omega
theorem acc_lt (s : ByteArray) (p j : Nat) (hj : j ≤ 7) : acc s p j < 4611686018427387904 := by
  unfold acc
  have h := val_lt (((bl s).drop (p + 1)).take j) (((bl s).getD p 0).toNat % 64)
  have hl : (((bl s).drop (p + 1)).take j).length ≤ 7 := by rw [List.length_take]; omega
  generalize (((bl s).drop (p + 1)).take j).length = m at h hl
  have h1 : (256 : Nat) ^ m ≤ 256 ^ 7 := Nat.pow_le_pow_right (by decide) hl
  have h2 : (((bl s).getD p 0).toNat % 64 + 1) * 256 ^ m ≤ 64 * 256 ^ 7 := Nat.mul_le_mul (by omega) h1
  omega
theorem acc_lt6 (s : ByteArray) (p j : Nat) (hj : j ≤ 6) : acc s p j < 18014398509481984 := by
  unfold acc
  have h := val_lt (((bl s).drop (p + 1)).take j) (((bl s).getD p 0).toNat % 64)
  have hl : (((bl s).drop (p + 1)).take j).length ≤ 6 := by rw [List.length_take]; omega
  generalize (((bl s).drop (p + 1)).take j).length = m at h hl
  have h1 : (256 : Nat) ^ m ≤ 256 ^ 6 := Nat.pow_le_pow_right (by decide) hl
  have h2 : (((bl s).getD p 0).toNat % 64 + 1) * 256 ^ m ≤ 64 * 256 ^ 6 := Nat.mul_le_mul (by omega) h1
  omega
/-- the form at a place: its value and its size -/
def dq (s : ByteArray) (at' : Int) : Option (Nat × Nat) := if at' < 0 then none else deq ((bl s).drop at'.toNat)
theorem dq_lo {s : ByteArray} {p : Int} (h : p < 0) : dq s p = none := by simp [dq, h]
theorem dq_hi {s : ByteArray} {p : Int} (h : (s.size : Int) ≤ p) : dq s p = none := by
  unfold dq
  rw [if_neg (by omega), List.drop_eq_nil_of_le (by rw [bl_len]; omega)]; rfl
theorem dq_at (s : ByteArray) (p : Nat) (h : p < s.size) : dq s p = if s.size - p < 2 ^ ((s[p]'h).toNat / 64) then none else some (acc s p (2 ^ ((s[p]'h).toNat / 64) - 1), 2 ^ ((s[p]'h).toNat / 64)) := by
  unfold dq
  rw [if_neg (by omega), Int.toNat_natCast, List.drop_eq_getElem_cons (by rw [bl_len]; exact h), bl_get s p h]
  simp only [deq, List.length_drop, bl_len]
  unfold acc
  rw [bl_getD s p h]
  have e : s.size - (p + 1) + 1 = s.size - p := by omega
  rw [e]
theorem dq_short {s : ByteArray} {p K : Nat} {h : p < s.size} (hk : 2 ^ ((s[p]'h).toNat / 64) = K) (hf : s.size - p < K) : dq s p = none := by rw [dq_at s p h, hk, if_pos hf]
theorem dq_long {s : ByteArray} {p K : Nat} {h : p < s.size} (hk : 2 ^ ((s[p]'h).toNat / 64) = K) (hf : ¬ s.size - p < K) : dq s p = some (acc s p (K - 1), K) := by rw [dq_at s p h, hk, if_neg hf]
theorem shl_at (b : Nat) (hb : b < 256) : ∃ K : Nat, 2 ^ (b / 64) = K ∧ 1 ≤ K ∧ K ≤ 8 ∧ Op.shift .shl .i64 1 .u8 ((b : Int) / 64) = pure (.int .i64 (K : Int)) := by
  have hj : b / 64 = 0 ∨ b / 64 = 1 ∨ b / 64 = 2 ∨ b / 64 = 3 := by omega
  have e : ((b : Int) / 64) = ((b / 64 : Nat) : Int) := by omega
  rw [e]
  rcases hj with h | h | h | h <;> rw [h]
  · exact ⟨1, rfl, by decide, by decide, rfl⟩
  · exact ⟨2, rfl, by decide, by decide, rfl⟩
  · exact ⟨4, rfl, by decide, by decide, rfl⟩
  · exact ⟨8, rfl, by decide, by decide, rfl⟩
theorem ret_i {a b : Int} (h : a = b) : Value.int .i64 a = .int .i64 b := by rw [h]
theorem or_at (s : ByteArray) (x i k : Nat) (hk : k < s.size) (hi : i < s.size) (h : i = k) (hx : x < 18014398509481984) : bits .or .i64 ((x : Int) * 256) (wrap64 ((s[i]'hi).toNat : Int)) = ((x * 256 + (s[k]'hk).toNat : Nat) : Int) := by
  subst h
  have hb := (s[i]'hi).toNat_lt
  have e : wrap64 ((s[i]'hi).toNat : Int) = ((s[i]'hi).toNat : Int) := by unfold wrap64; omega
  rw [e]
  exact or_low x _ hx hb
def dqV (o : Option (Nat × Nat)) (p : Int) : Value := match o with
  | none => .tuple #[.int .i64 0, .int .i64 0, .bool false]
  | some (n, k) => .tuple #[.int .i64 (n : Int), .int .i64 (p + (k : Int)), .bool true]
theorem sDQ (s : ByteArray) (at' : Int) (w : World) (hs : s.size ≤ 1048576) :
    Calls Try.prog 14 #[.string s, .int .i64 at'] w fun e w' => e = .returned (dqV (dq s at') at') ∧ w = w' := by
  rcases cases3 ((s.size : Int) - 1) at' with h | ⟨h, h1⟩ | ⟨h, h1⟩
  · rw [dq_lo h]
    have hd : decide (at' < 0) = true := by simp; omega
    have hd' : decide (0 ≤ at') = false := by simp; omega
    go_enter Try.func14, Try.ntmps14
    go_wp2
    all_goals go_ret3
    all_goals exact ⟨rfl, rfl⟩
  · obtain ⟨p, rfl⟩ := Int.eq_ofNat_of_zero_le h
    have hp : p < s.size := by omega
    clear h h1
    have hd3 : decide (s.size ≤ p) = false := by simp; omega
    have hd4 : decide ((p : Int) ≤ (s.size : Int) - 1) = true := by simp; omega
    obtain ⟨K, hk, hK1, hK2, hK⟩ := shl_at (s[p]'hp).toNat (s[p]'hp).toNat_lt
    have ha := and_63 (s[p]'hp).toNat (s[p]'hp).toNat_lt
    have HK := Lib.hid hk; clear hk
    by_cases hf : s.size - p < K
    · rw [dq_short HK.out hf]
      have hf' : decide ((s.size : Int) - (p : Int) < (K : Int)) = true := by simp; omega
      go_enter Try.func14, Try.ntmps14
      go_wp2
      all_goals go_ret3
      all_goals exact ⟨rfl, rfl⟩
    · rw [dq_long HK.out hf]
      have hf' : decide ((s.size : Int) - (p : Int) < (K : Int)) = false := by simp; omega
      go_enter Try.func14, Try.ntmps14
      go_wp2
      go_loop [8, 9] (fun n i => ∃ (j : Nat), j + 1 ≤ K ∧ i = .int .i64 ((j + 1 : Nat) : Int) ∧ n = .int .i64 (acc s p j : Nat)) (fun n i => K - (intOf i).toNat)
      case atStart => exact ⟨0, by omega, rfl, by rw [acc_zero s p hp]; exact ret_i (by omega)⟩
      case round =>
        obtain ⟨j, hj, rfl, rfl⟩ := hrel
        by_cases hlt : j + 1 < K
        · have hj7 := acc_lt6 s p j (by omega)
          have hb : p + (j + 1) < s.size := by omega
          have hs' := Lib.hid (acc_succ s p j hb)
          generalize hx : acc s p j = x at hj7 hs'
          go_wp2
          go_round
          case rel => exact ⟨j + 1, by omega, by go_num, ret_i ((or_at s x _ _ hb _ (by omega) hj7).trans (by rw [hs'.out]))⟩
          case measure => simp [intOf]; omega
        · obtain rfl : K = j + 1 := by omega
          go_wp2
          go_ret3
          exact ⟨rfl, rfl⟩
  · rw [dq_hi (by omega)]
    have hd : decide (at' < 0) = false := by simp; omega
    have hd1 : decide ((s.size : Int) ≤ at') = true := by simp; omega
    have hd2 : decide (at' ≤ (s.size : Int) - 1) = false := by simp; omega
    go_enter Try.func14, Try.ntmps14
    go_wp2
    all_goals go_ret3
    all_goals exact ⟨rfl, rfl⟩
theorem within_any (n a b : Int) (w : World) : Calls Try.prog 47 #[.int .i64 n, .int .i64 a, .int .i64 b] w fun e w' => e = .returned (.bool (decide (a ≤ n) && decide (n ≤ b))) ∧ w = w' := by
  cases hx : decide (a ≤ n)
  all_goals go_enter Try.func47, Try.ntmps47
  all_goals go_wp2
  all_goals go_ret
  all_goals exact ⟨rfl, rfl⟩
theorem iDQ (s : ByteArray) (at' : Int) (w : World) (hs : s.size ≤ 1048576) :
    Calls Try.prog 9 #[.string s, .int .i64 at'] w fun e w' => e = .returned (dqV (dq s at') at') ∧ w = w' := by
  rcases cases3 ((s.size : Int) - 1) at' with h | ⟨h, h1⟩ | ⟨h, h1⟩
  · rw [dq_lo h]
    have hd : decide (at' < 0) = true := by simp; omega
    have hd' : decide (0 ≤ at') = false := by simp; omega
    go_enter Try.func9, Try.ntmps9
    go_wp2_with (first | (go_at_call 47; refine (within_any _ _ _ _).mono ?_; rintro e w' ⟨rfl, rfl⟩))
    all_goals go_ret3
    all_goals exact ⟨rfl, rfl⟩
  · obtain ⟨p, rfl⟩ := Int.eq_ofNat_of_zero_le h
    have hp : p < s.size := by omega
    clear h h1
    have hd3 : decide (s.size ≤ p) = false := by simp; omega
    have hd4 : decide ((p : Int) ≤ (s.size : Int) - 1) = true := by simp; omega
    obtain ⟨K, hk, hK1, hK2, hK⟩ := shl_at (s[p]'hp).toNat (s[p]'hp).toNat_lt
    have ha := and_63 (s[p]'hp).toNat (s[p]'hp).toNat_lt
    have HK := Lib.hid hk; clear hk
    by_cases hf : s.size - p < K
    · rw [dq_short HK.out hf]
      have hf' : decide ((s.size : Int) - (p : Int) < (K : Int)) = true := by simp; omega
      go_enter Try.func9, Try.ntmps9
      go_wp2_with (first | (go_at_call 47; refine (within_any _ _ _ _).mono ?_; rintro e w' ⟨rfl, rfl⟩))
      all_goals go_ret3
      all_goals exact ⟨rfl, rfl⟩
    · rw [dq_long HK.out hf]
      have hf' : decide ((s.size : Int) - (p : Int) < (K : Int)) = false := by simp; omega
      go_enter Try.func9, Try.ntmps9
      go_wp2_with (first | (go_at_call 47; refine (within_any _ _ _ _).mono ?_; rintro e w' ⟨rfl, rfl⟩))
      go_loop [8, 9] (fun n i => ∃ (j : Nat), j + 1 ≤ K ∧ i = .int .i64 ((j + 1 : Nat) : Int) ∧ n = .int .i64 (acc s p j : Nat)) (fun n i => K - (intOf i).toNat)
      case atStart => exact ⟨0, by omega, rfl, by rw [acc_zero s p hp]; exact ret_i (by omega)⟩
      case round =>
        obtain ⟨j, hj, rfl, rfl⟩ := hrel
        by_cases hlt : j + 1 < K
        · have hj7 := acc_lt6 s p j (by omega)
          have hb : p + (j + 1) < s.size := by omega
          have hs' := Lib.hid (acc_succ s p j hb)
          generalize hx : acc s p j = x at hj7 hs'
          go_wp2
          go_round
          case rel => exact ⟨j + 1, by omega, by go_num, ret_i ((or_at s x _ _ hb _ (by omega) hj7).trans (by rw [hs'.out]))⟩
          case measure => simp [intOf]; omega
        · obtain rfl : K = j + 1 := by omega
          go_wp2
          go_ret3
          exact ⟨rfl, rfl⟩
  · rw [dq_hi (by omega)]
    have hd : decide (at' < 0) = false := by simp; omega
    have hd1 : decide ((s.size : Int) ≤ at') = true := by simp; omega
    have hd2 : decide (at' ≤ (s.size : Int) - 1) = false := by simp; omega
    go_enter Try.func9, Try.ntmps9
    go_wp2_with (first | (go_at_call 47; refine (within_any _ _ _ _).mono ?_; rintro e w' ⟨rfl, rfl⟩))
    all_goals go_ret3
    all_goals exact ⟨rfl, rfl⟩
end Go.Proofs.Ytadoiehgobcjcaa

namespace Go.Proofs.Ytadoiehgobcjcaa
open Go.ChangeShapes Go.WideShapes Go.ChangeAt Go.RowKit QM
set_option linter.unusedVariables false
def shB (s : ByteArray) (p : Int) : Bool := match dq s p with
  | none => false
  | some (n, k) => (p + (k : Int) - p == sizeI (n : Int))
theorem dq_cases (s : ByteArray) (p : Int) : dqV (dq s p) p = .tuple #[.int .i64 0, .int .i64 0, .bool false] ∧ shB s p = false ∨ ∃ n k : Nat, (dqV (dq s p) p = .tuple #[.int .i64 n, .int .i64 (p + k), .bool true] ∧ (p + (k : Int) - p == sizeI (n : Int)) = shB s p) ∧ n ≤ 4611686018427387903 ∧ 1 ≤ k ∧ k ≤ 8 ∧ 0 ≤ p ∧ p + k ≤ s.size := by
  cases h : dq s p with
  | none => exact .inl ⟨rfl, by simp [shB, h]⟩
  | some x =>
    obtain ⟨n, k⟩ := x
    refine .inr ⟨n, k, ⟨rfl, by simp [shB, h]⟩, ?_⟩
    unfold dq at h
    split at h
    · cases h
    · have hd := deq_some h
      rw [List.length_drop, bl_len] at hd
      have hk := hd.1
      have := hd.2.2.1
      unfold maxQ at this
      omega
theorem sShort (s : ByteArray) (at' : Int) (_w : (Lit.int .i64 at').wf = true) (w : World) (hs : s.size ≤ 1048576) : Calls Try.prog 23 #[.string s, .int .i64 at'] w fun e w' => e = .returned (.bool (shB s at')) ∧ w = w' := by
  rcases dq_cases s at' with ⟨hv, hb⟩ | ⟨n, k, ⟨hv, hb⟩, hn, hk, hk1, hp, hpk⟩
  all_goals go_enter Try.func23, Try.ntmps23
  all_goals go_wp2_with (first | (go_at_call 14; refine (sDQ _ _ _ hs).mono ?_; rintro e w' ⟨rfl, rfl⟩; rw [hv]) | (go_at_call 48; refine (sSize _ _).mono ?_; rintro e w' ⟨rfl, rfl⟩))
  all_goals go_ret
  · exact ⟨ret_bool hb.symm, rfl⟩
  · exact ⟨rfl, rfl⟩
theorem iShort (s : ByteArray) (at' : Int) (_w : (Lit.int .i64 at').wf = true) (w : World) (hs : s.size ≤ 1048576) : Calls Try.prog 12 #[.string s, .int .i64 at'] w fun e w' => e = .returned (.bool (shB s at')) ∧ w = w' := by
  rcases dq_cases s at' with ⟨hv, hb⟩ | ⟨n, k, ⟨hv, hb⟩, hn, hk, hk1, hp, hpk⟩
  all_goals go_enter Try.func12, Try.ntmps12
  all_goals go_wp2_with (first | (go_at_call 9; refine (iDQ _ _ _ hs).mono ?_; rintro e w' ⟨rfl, rfl⟩; rw [hv]) | (go_at_call 11; refine (iSize _ _).mono ?_; rintro e w' ⟨rfl, rfl⟩))
  all_goals go_ret
  · exact ⟨ret_bool hb.symm, rfl⟩
  · exact ⟨rfl, rfl⟩
end Go.Proofs.Ytadoiehgobcjcaa

namespace Go.Proofs.Ytadoiehgobcjcaa
open Go.ChangeShapes Go.WideShapes Go.ChangeAt Go.RowKit Go.Sort QM
set_option linter.unusedVariables false
set_option linter.unusedSimpArgs false
theorem own_empty (w : World) (base : Nat) (T : TypeId) (size : Nat) (hb : base ≤ w.heap.size) : (w.alloc (.cells #[] T)).ownsRow base T size (.slice (some ⟨w.heap.size, 0, none⟩) 0 0) 0 [] :=
  World.ownsRow_made w #[] 0 hb (by unfold maxLen; omega) (by simp)
theorem news1 {w : World} {g : Nat} {T : TypeId} (u : Value) (hg : g = w.heap.size) : ∀ (j : Nat) (x : Value), [u][j]? = some x → (w.alloc (.cells #[u] T)).cell? ((⟨g, 0, none⟩ : Addr).add j) = some x := by
  subst hg
  intro j x hj
  match j, hj with
  | 0, hj => simp at hj; subst hj; simp [Addr.add, go_sem]
  | j + 1, hj => simp at hj
theorem one_1 (a : Int) : ∀ u ∈ [Value.int .i64 a], u.oneCell' = true := by intro u hu; simp at hu; subst hu; rfl
/-- All forms from place p on. -/
def decF (s : ByteArray) : Nat → Nat → Option (List Int)
  | 0, p => if s.size ≤ p then some [] else none
  | f + 1, p => if s.size ≤ p then some [] else match dq s p with
    | none => none
    | some (n, k) => (decF s f (p + k)).map ((n : Int) :: ·)
def decAll (s : ByteArray) : Option (List Int) := decF s s.size 0
def decL (s : ByteArray) : List Int := (decAll s).getD []
def decB (s : ByteArray) : Bool := (decAll s).isSome
theorem decF_end {s : ByteArray} {f p : Nat} (h : s.size ≤ p) : decF s f p = some [] := by cases f <;> simp [decF, h]
/-- Where the loop stands: at place p, with the numbers L read. -/
def DecAt (s : ByteArray) (p : Nat) (L : List Int) : Prop := L.length ≤ p ∧ p ≤ s.size ∧ ∃ f, s.size ≤ p + f ∧ decAll s = (decF s f p).map (L ++ ·)
theorem DecAt.start (s : ByteArray) : DecAt s 0 [] := ⟨Nat.le_refl _, Nat.zero_le _, s.size, by omega, by simp [decAll]⟩
theorem DecAt.next {s : ByteArray} {p n k : Nat} {L : List Int} (h : DecAt s p L) (hp : p < s.size) (hd : dq s p = some (n, k)) (h1 : 1 ≤ k) (h2 : p + k ≤ s.size) : DecAt s (p + k) (L ++ [(n : Int)]) := by
  obtain ⟨hl, _, f, hf, e⟩ := h
  refine ⟨by simp; omega, h2, ?_⟩
  cases f with
  | zero => omega
  | succ f =>
    refine ⟨f, by omega, ?_⟩
    rw [e]
    simp only [decF]
    rw [if_neg (by omega), hd]
    show Option.map (L ++ ·) (Option.map ((n : Int) :: ·) (decF s f (p + k))) = Option.map ((L ++ [(n : Int)]) ++ ·) (decF s f (p + k))
    generalize decF s f (p + k) = o
    cases o <;> simp
theorem DecAt.fail {s : ByteArray} {p : Nat} {L : List Int} (h : DecAt s p L) (hp : p < s.size) (hd : dq s p = none) : decL s = [] ∧ decB s = false := by
  obtain ⟨hl, _, f, hf, e⟩ := h
  cases f with
  | zero => omega
  | succ f =>
    simp only [decF] at e
    rw [if_neg (by omega), hd] at e
    simp at e
    simp [decL, decB, e]
theorem DecAt.done {s : ByteArray} {p : Nat} {L : List Int} (h : DecAt s p L) (hp : s.size ≤ p) : decL s = L ∧ decB s = true := by
  obtain ⟨hl, _, f, hf, e⟩ := h
  rw [decF_end hp] at e
  simp at e
  simp [decL, decB, e]
theorem dq_two (s : ByteArray) (p : Int) : (dq s p = none ∧ dqV (dq s p) p = .tuple #[.int .i64 0, .int .i64 0, .bool false]) ∨ ∃ n k : Nat, dq s p = some (n, k) ∧ dqV (dq s p) p = .tuple #[.int .i64 n, .int .i64 (p + k), .bool true] ∧ n ≤ 4611686018427387903 ∧ 1 ≤ k ∧ k ≤ 8 ∧ p + k ≤ s.size := by
  rcases dq_cases s p with ⟨hv, _⟩ | ⟨n, k, ⟨hv, _⟩, h1, h2, h3, h4, h5⟩
  · left
    cases h : dq s p with
    | none => exact ⟨rfl, rfl⟩
    | some x => obtain ⟨a, b⟩ := x; rw [h] at hv; simp [dqV] at hv
  · right
    cases h : dq s p with
    | none => rw [h] at hv; simp [dqV] at hv
    | some x =>
      obtain ⟨a, b⟩ := x
      rw [h] at hv
      simp only [dqV] at hv
      injection hv with hv
      injection hv with hv
      simp only [List.cons.injEq, Value.int.injEq, true_and, and_true] at hv
      obtain ⟨e1, e2⟩ := hv
      refine ⟨a, b, rfl, rfl, by omega, by omega, by omega, by omega⟩
/-- What DecodeQuics hands back. -/
def OutD (w : World) (s : ByteArray) (e : Ending) (w' : World) : Prop := ∃ A c, e = .returned (.tuple #[.slice A (decL s).length c, .bool (decB s)]) ∧ Below w.heap.size w w' ∧ w'.ownsRow w.heap.size 3 1 (.slice A (decL s).length c) (decL s).length (ints (decL s))
theorem OutD.of_own {w w' : World} {s : ByteArray} {L : List Int} {b : Bool} {v : Value} {n : Nat} (hb : Below w.heap.size w w') (h : w'.ownsRow w.heap.size 3 1 v n (ints L)) (hn : n = L.length) (hL : decL s = L ∧ decB s = b) : OutD w s (.returned (.tuple #[v, .bool b])) w' := by
  obtain ⟨A, c, rfl, _, _⟩ := Rd.of_own h
  obtain ⟨rfl, rfl⟩ := hL
  subst hn
  exact ⟨A, c, rfl, hb, h⟩
theorem ints_snoc (L : List Int) (x : Int) : ints (L ++ [x]) = ints L ++ [.int .i64 x] := by simp [ints]
set_option maxHeartbeats 2000000 in
theorem sDecs (s : ByteArray) (hs : s.size ≤ 1048576) (w : World) : Calls Try.prog 20 #[.string s] w (OutD w s) := by
  obtain ⟨i0, hi, hz0, hz1, hz2⟩ := info_parts info_int
  have HW := Lib.hid (own_empty w w.heap.size 3 1 (Nat.le_refl _))
  have HB := Lib.hid (show Below w.heap.size w (w.alloc (.cells #[] 3)) from (Below.refl _ _).alloc (Nat.le_refl _) _)
  go_enter Try.func20, Try.ntmps20
  go_wp2
  generalize w.alloc (.cells #[] 3) = w1 at HW HB ⊢
  go_loopw [4, 5] (fun v a wr => ∃ (p : Nat) (L : List Int), a = .int .i64 p ∧ DecAt s p L ∧ wr.ownsRow w.heap.size 3 1 v L.length (ints L) ∧ Below w.heap.size w wr) (fun v a _ => s.size - (intOf a).toNat)
  case atStart => exact ⟨0, [], rfl, DecAt.start s, HW.out, HB.out⟩
  case round =>
    obtain ⟨p, L, rfl, hd, ho, hbw⟩ := hrel
    clear HW HB
    have hlp := hd.1
    have HD := Lib.hid hd; clear hd
    by_cases hlt : p < s.size
    · rcases dq_two s p with ⟨hn, hv⟩ | ⟨n, k, hn, hv, hn4, hk1, hk8, hpk⟩
      · have HN := Lib.hid (HD.out.fail hlt hn); clear hn
        have HO := Lib.hid ho; clear ho
        go_wp2_with (first | (go_at_call 14; refine (sDQ _ _ _ hs).mono ?_; rintro e w' ⟨rfl, rfl⟩; rw [hv]))
        go_ret2
        exact OutD.of_own (hbw.alloc hbw.size _) (own_empty wr _ _ _ hbw.size) rfl HN.out
      · have HN := Lib.hid (HD.out.next hlt hn hk1 (by omega)); clear hn
        have hsz := hbw.size
        have HO := Lib.hid ho; clear ho
        go_wp2_with (first | (go_at_call 14; refine (sDQ _ _ _ hs).mono ?_; rintro e w' ⟨rfl, rfl⟩; rw [hv]) | (at_builtin; refine wpList_append_own _ rfl _ _ 32 rfl w.heap.size 3 i0 (.int .i64 0) 1 8 Try.underlying32 hi hz0 hz1 hz2 rfl (by decide) _ _ _ rfl (HO.out.alloc _) ⟨wr.heap.size, 0, none⟩ 1 1 [.int .i64 (n : Int)] rfl rfl (news1 _ (by simp)) (one_1 _) (by unfold maxLen; omega) (by omega) (by simp; omega) ?_))
        intro v' w1 hown1 hgrow _
        have hb2 : Below w.heap.size w w1 := (hbw.alloc hsz (.cells #[.int .i64 (n : Int)] 3)).grown hgrow (by simp; omega) (fun k hk => (HO.out.lt k hk).1)
        have HO1 := Lib.hid (show w1.ownsRow w.heap.size 3 1 v' (L ++ [(n : Int)]).length (ints (L ++ [(n : Int)])) by rw [ints_snoc]; simpa using hown1)
        clear hown1 hgrow HO
        have hpk' : p + k ≤ s.size := by omega
        go_wp2
        go_roundw
        case rel => exact ⟨p + k, L ++ [(n : Int)], by go_num, HN.out, HO1.out, hb2⟩
        case measure => simp [intOf]; omega
    · go_wp2
      go_ret2
      exact OutD.of_own hbw ho rfl (HD.out.done (by omega))
set_option maxHeartbeats 2000000 in
theorem iDecs (s : ByteArray) (hs : s.size ≤ 1048576) (w : World) : Calls Try.prog 17 #[.string s] w (OutD w s) := by
  obtain ⟨i0, hi, hz0, hz1, hz2⟩ := info_parts info_int
  have HW := Lib.hid (own_empty w w.heap.size 3 1 (Nat.le_refl _))
  have HB := Lib.hid (show Below w.heap.size w (w.alloc (.cells #[] 3)) from (Below.refl _ _).alloc (Nat.le_refl _) _)
  go_enter Try.func17, Try.ntmps17
  go_wp2
  generalize w.alloc (.cells #[] 3) = w1 at HW HB ⊢
  go_loopw [4, 5] (fun v a wr => ∃ (p : Nat) (L : List Int), a = .int .i64 p ∧ DecAt s p L ∧ wr.ownsRow w.heap.size 3 1 v L.length (ints L) ∧ Below w.heap.size w wr) (fun v a _ => s.size - (intOf a).toNat)
  case atStart => exact ⟨0, [], rfl, DecAt.start s, HW.out, HB.out⟩
  case round =>
    obtain ⟨p, L, rfl, hd, ho, hbw⟩ := hrel
    clear HW HB
    have hlp := hd.1
    have HD := Lib.hid hd; clear hd
    by_cases hlt : p < s.size
    · rcases dq_two s p with ⟨hn, hv⟩ | ⟨n, k, hn, hv, hn4, hk1, hk8, hpk⟩
      · have HN := Lib.hid (HD.out.fail hlt hn); clear hn
        have HO := Lib.hid ho; clear ho
        go_wp2_with (first | (go_at_call 9; refine (iDQ _ _ _ hs).mono ?_; rintro e w' ⟨rfl, rfl⟩; rw [hv]))
        go_ret2
        exact OutD.of_own (L := []) hbw (World.ownsRow_nil _ _ _ _) rfl HN.out
      · have HN := Lib.hid (HD.out.next hlt hn hk1 (by omega)); clear hn
        have hsz := hbw.size
        have HO := Lib.hid ho; clear ho
        go_wp2_with (first | (go_at_call 9; refine (iDQ _ _ _ hs).mono ?_; rintro e w' ⟨rfl, rfl⟩; rw [hv]) | (at_builtin; refine wpList_append_own _ rfl _ _ 32 rfl w.heap.size 3 i0 (.int .i64 0) 1 8 Try.underlying32 hi hz0 hz1 hz2 rfl (by decide) _ _ _ rfl (HO.out.alloc _) ⟨wr.heap.size, 0, none⟩ 1 1 [.int .i64 (n : Int)] rfl rfl (news1 _ (by simp)) (one_1 _) (by unfold maxLen; omega) (by omega) (by simp; omega) ?_))
        intro v' w1 hown1 hgrow _
        have hb2 : Below w.heap.size w w1 := (hbw.alloc hsz (.cells #[.int .i64 (n : Int)] 3)).grown hgrow (by simp; omega) (fun k hk => (HO.out.lt k hk).1)
        have HO1 := Lib.hid (show w1.ownsRow w.heap.size 3 1 v' (L ++ [(n : Int)]).length (ints (L ++ [(n : Int)])) by rw [ints_snoc]; simpa using hown1)
        clear hown1 hgrow HO
        have hpk' : p + k ≤ s.size := by omega
        go_wp2
        go_roundw
        case rel => exact ⟨p + k, L ++ [(n : Int)], by go_num, HN.out, HO1.out, hb2⟩
        case measure => simp [intOf]; omega
    · go_wp2
      go_ret2
      exact OutD.of_own hbw ho rfl (HD.out.done (by omega))
end Go.Proofs.Ytadoiehgobcjcaa
