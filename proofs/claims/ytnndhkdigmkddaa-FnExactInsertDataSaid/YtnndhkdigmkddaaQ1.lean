/- DecodeQuic: one contract for each package. No conditions. -/
import Derived.Test.YtnndhkdigmkddaaIds
import Derived.Test.YtnndhkdigmkddaaQMath
import Derived.Laws.BitsLemmas
import Derived.Laws.Bits64
import Derived.Lib.Hide
namespace Go.Proofs.Ytnndhkdigmkddaa
open Go.ChangeShapes Go.WideShapes Go.ChangeAt Go.RowKit QM
set_option linter.unusedVariables false
theorem wraps_i64_63 (n : Int) (h₀ : 0 ≤ n) (h₁ : n < 2 ^ 63) : IntKind.i64.wrap n = n := by rw [IntKind.wrap_i64]; omega
theorem wraps_u8_8 (n : Int) (h₀ : 0 ≤ n) (h₁ : n < 2 ^ 8) : IntKind.u8.wrap n = n := by rw [IntKind.wrap_u8]; omega
theorem or_low (a b : Nat) (ha : a < 18014398509481984) (hb : b < 256) : bits .or .i64 ((a : Int) * 256) (b : Int) = ((a * 256 + b : Nat) : Int) := by
  have h := (bits_nat .i64 63 (by decide) wraps_i64_63 (a * 256) b (by omega) (by omega)).2
  have e : a * 256 ||| b = a * 256 + b := by
    have := Nat.shiftLeft_add_eq_or_of_lt (i := 8) (b := b) (by omega) a
    rw [Nat.shiftLeft_eq] at this
    exact this.symm
  rw [e, Int.natCast_mul] at h
  exact h
theorem and_63 (b : Nat) (hb : b < 256) : bits .and .u8 (b : Int) 63 = ((b % 64 : Nat) : Int) := by
  have h := (bits_nat .u8 8 (by decide) wraps_u8_8 b 63 (by omega) (by decide)).1
  have e : b &&& 63 = b % 64 := Nat.and_two_pow_sub_one_eq_mod b 6
  rw [e] at h
  exact h
def bl (s : ByteArray) : List UInt8 := s.data.toList
theorem bl_len (s : ByteArray) : (bl s).length = s.size := by unfold bl; rw [Array.length_toList]; rfl
theorem bl_get (s : ByteArray) (p : Nat) (h : p < s.size) : (bl s)[p]'(by rw [bl_len]; exact h) = s[p]'h := by
  simp [bl]; rfl
def acc (s : ByteArray) (p j : Nat) : Nat := val (((bl s).getD p 0).toNat % 64) (((bl s).drop (p + 1)).take j)
theorem bl_getD (s : ByteArray) (p : Nat) (h : p < s.size) : (bl s).getD p 0 = s[p]'h := by
  rw [List.getD_eq_getElem?_getD, List.getElem?_eq_getElem (by rw [bl_len]; exact h), Option.getD_some, bl_get s p h]
theorem acc_zero (s : ByteArray) (p : Nat) (h : p < s.size) : acc s p 0 = (s[p]'h).toNat % 64 := by
  unfold acc; rw [bl_getD s p h, List.take_zero, val_nil]
theorem acc_succ (s : ByteArray) (p j : Nat) (h : p + (j + 1) < s.size) : acc s p (j + 1) = acc s p j * 256 + (s[p + (j + 1)]'h).toNat := by
  unfold acc
  have hl : j < ((bl s).drop (p + 1)).length := by rw [List.length_drop, bl_len]; omega
  rw [List.take_succ_eq_append_getElem hl, val_snoc]
  congr 2
  rw [List.getElem_drop]
  have := bl_get s (p + (j + 1)) h
  rw [← this]
  congr 1
  omega
theorem acc_lt (s : ByteArray) (p j : Nat) (hj : j ≤ 7) : acc s p j < 4611686018427387904 := by
  unfold acc
  have h := val_lt (((bl s).drop (p + 1)).take j) (((bl s).getD p 0).toNat % 64)
  have hl : (((bl s).drop (p + 1)).take j).length ≤ 7 := by rw [List.length_take]; omega
  generalize (((bl s).drop (p + 1)).take j).length = m at h hl
  have h1 : (256 : Nat) ^ m ≤ 256 ^ 7 := Nat.pow_le_pow_right (by decide) hl
  have h2 : (((bl s).getD p 0).toNat % 64 + 1) * 256 ^ m ≤ 64 * 256 ^ 7 := Nat.mul_le_mul (by omega) h1
  omega
theorem acc_lt6 (s : ByteArray) (p j : Nat) (hj : j ≤ 6) : acc s p j < 18014398509481984 := by
  unfold acc
  have h := val_lt (((bl s).drop (p + 1)).take j) (((bl s).getD p 0).toNat % 64)
  have hl : (((bl s).drop (p + 1)).take j).length ≤ 6 := by rw [List.length_take]; omega
  generalize (((bl s).drop (p + 1)).take j).length = m at h hl
  have h1 : (256 : Nat) ^ m ≤ 256 ^ 6 := Nat.pow_le_pow_right (by decide) hl
  have h2 : (((bl s).getD p 0).toNat % 64 + 1) * 256 ^ m ≤ 64 * 256 ^ 6 := Nat.mul_le_mul (by omega) h1
  omega
/-- the form at a place: its value and its size -/
def dq (s : ByteArray) (at' : Int) : Option (Nat × Nat) := if at' < 0 then none else deq ((bl s).drop at'.toNat)
theorem dq_lo {s : ByteArray} {p : Int} (h : p < 0) : dq s p = none := by simp [dq, h]
theorem dq_hi {s : ByteArray} {p : Int} (h : (s.size : Int) ≤ p) : dq s p = none := by
  unfold dq
  rw [if_neg (by omega), List.drop_eq_nil_of_le (by rw [bl_len]; omega)]; rfl
theorem dq_at (s : ByteArray) (p : Nat) (h : p < s.size) : dq s p = if s.size - p < 2 ^ ((s[p]'h).toNat / 64) then none else some (acc s p (2 ^ ((s[p]'h).toNat / 64) - 1), 2 ^ ((s[p]'h).toNat / 64)) := by
  unfold dq
  rw [if_neg (by omega), Int.toNat_natCast, List.drop_eq_getElem_cons (by rw [bl_len]; exact h), bl_get s p h]
  simp only [deq, List.length_drop, bl_len]
  unfold acc
  rw [bl_getD s p h]
  have e : s.size - (p + 1) + 1 = s.size - p := by omega
  rw [e]
theorem dq_short {s : ByteArray} {p K : Nat} {h : p < s.size} (hk : 2 ^ ((s[p]'h).toNat / 64) = K) (hf : s.size - p < K) : dq s p = none := by rw [dq_at s p h, hk, if_pos hf]
theorem dq_long {s : ByteArray} {p K : Nat} {h : p < s.size} (hk : 2 ^ ((s[p]'h).toNat / 64) = K) (hf : ¬ s.size - p < K) : dq s p = some (acc s p (K - 1), K) := by rw [dq_at s p h, hk, if_neg hf]
theorem shl_at (b : Nat) (hb : b < 256) : ∃ K : Nat, 2 ^ (b / 64) = K ∧ 1 ≤ K ∧ K ≤ 8 ∧ Op.shift .shl .i64 1 .u8 ((b : Int) / 64) = pure (.int .i64 (K : Int)) := by
  have hj : b / 64 = 0 ∨ b / 64 = 1 ∨ b / 64 = 2 ∨ b / 64 = 3 := by omega
  have e : ((b : Int) / 64) = ((b / 64 : Nat) : Int) := by omega
  rw [e]
  rcases hj with h | h | h | h <;> rw [h]
  · exact ⟨1, rfl, by decide, by decide, rfl⟩
  · exact ⟨2, rfl, by decide, by decide, rfl⟩
  · exact ⟨4, rfl, by decide, by decide, rfl⟩
  · exact ⟨8, rfl, by decide, by decide, rfl⟩
theorem ret_i {a b : Int} (h : a = b) : Value.int .i64 a = .int .i64 b := by rw [h]
theorem or_at (s : ByteArray) (x i k : Nat) (hk : k < s.size) (hi : i < s.size) (h : i = k) (hx : x < 18014398509481984) : bits .or .i64 ((x : Int) * 256) (wrap64 ((s[i]'hi).toNat : Int)) = ((x * 256 + (s[k]'hk).toNat : Nat) : Int) := by
  subst h
  have hb := (s[i]'hi).toNat_lt
  have e : wrap64 ((s[i]'hi).toNat : Int) = ((s[i]'hi).toNat : Int) := by unfold wrap64; omega
  rw [e]
  exact or_low x _ hx hb
def dqV (o : Option (Nat × Nat)) (p : Int) : Value := match o with
  | none => .tuple #[.int .i64 0, .int .i64 0, .bool false]
  | some (n, k) => .tuple #[.int .i64 (n : Int), .int .i64 (p + (k : Int)), .bool true]
theorem within_any (n a b : Int) (w : World) : Calls Try.prog 58 #[.int .i64 n, .int .i64 a, .int .i64 b] w fun e w' => e = .returned (.bool (decide (a ≤ n) && decide (n ≤ b))) ∧ w = w' := by
  cases hx : decide (a ≤ n)
  all_goals go_enter Try.func58, Try.ntmps58
  all_goals go_wp2
  all_goals go_ret
  all_goals exact ⟨rfl, rfl⟩
end Go.Proofs.Ytnndhkdigmkddaa
