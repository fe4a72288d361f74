/- spec.EncodeQuic: its contract. -/
import Derived.Test.YthhdjajjckcikaaDoorQ2
import Derived.Laws.Shifts
namespace Go.Proofs.YthhdjajjckcikaaDoor
open Go.ChangeShapes Go.WideShapes Go.ChangeAt Go.RowKit QM
set_option linter.unusedVariables false
set_option linter.unusedSimpArgs false
theorem be_get (n : Nat) : ∀ (K j : Nat) (h : j < (be n K).length), (be n K)[j] = UInt8.ofNat (n / 256 ^ (K - 1 - j)) := by
  intro K
  induction K with
  | zero => intro j h; simp [be] at h
  | succ K ih =>
    intro j h
    cases j with
    | zero => simp [be]
    | succ j =>
      have h' : j < (be n K).length := by rw [be_len] at h ⊢; omega
      have := ih j h'
      simp only [be, List.getElem_cons_succ]
      rw [this]
      congr 3
      omega
theorem encQ_get (n j : Nat) (h : j < (encQ n).length) : (encQ n)[j] = UInt8.ofNat (n / 256 ^ (sizeQ n - 1 - j) + if j = 0 then tag (sizeQ n) else 0) := by
  cases j with
  | zero => simp [encQ]
  | succ j =>
    simp only [encQ, List.getElem_cons_succ]
    rw [be_get, if_neg (by omega), Nat.add_zero]
    congr 3
    omega
/-- the form's bytes but for the last i -/
def preQ (n i : Nat) : ByteArray := ⟨((encQ n).take (sizeQ n - i)).toArray⟩
def encB (n : Nat) : ByteArray := ⟨(encQ n).toArray⟩
theorem preQ_size (n i : Nat) : (preQ n i).size = sizeQ n - i := by
  show ((encQ n).take (sizeQ n - i)).toArray.size = sizeQ n - i
  rw [List.size_toArray, List.length_take, encQ_len]; omega
theorem preQ_top (n : Nat) : preQ n (sizeQ n) = ⟨#[]⟩ := by simp [preQ]
theorem preQ_end (n : Nat) : preQ n 0 = encB n := by
  unfold preQ encB
  rw [List.take_of_length_le (by rw [encQ_len]; omega)]
theorem preQ_step (n m c : Nat) (hm : m + 1 ≤ sizeQ n) (hc : c % 256 = (n / 256 ^ m + if m + 1 = sizeQ n then tag (sizeQ n) else 0) % 256) : preQ n (m + 1) ++ one1 c = preQ n m := by
  have hl : sizeQ n - (m + 1) < (encQ n).length := by rw [encQ_len]; omega
  have e : sizeQ n - m = sizeQ n - (m + 1) + 1 := by omega
  have eb : (encQ n)[sizeQ n - (m + 1)] = UInt8.ofNat c := by
    rw [encQ_get n _ hl]
    apply UInt8.toNat.inj
    rw [ofNat_toNat, ofNat_toNat, hc]
    have e1 : sizeQ n - 1 - (sizeQ n - (m + 1)) = m := by omega
    rw [e1]
    by_cases h : m + 1 = sizeQ n
    · rw [if_pos h, if_pos (by omega)]
    · rw [if_neg h, if_neg (by omega)]
  unfold preQ one1
  rw [e, List.take_succ_eq_append_getElem hl, eb]
  apply ByteArray.ext
  simp
theorem sizeI_nat (n : Nat) (hn : n ≤ 4611686018427387903) : sizeI (n : Int) = (sizeQ n : Int) := by
  unfold sizeI sizeQ
  rw [qB_in (by omega) (by omega)]
  simp only [if_true]
  by_cases h1 : n < 64
  · rw [if_pos (by omega), if_pos h1]; rfl
  · rw [if_neg (by omega), if_neg h1]
    by_cases h2 : n < 16384
    · rw [if_pos (by omega), if_pos h2]; rfl
    · rw [if_neg (by omega), if_neg h2]
      by_cases h3 : n < 1073741824
      · rw [if_pos (by omega), if_pos h3]; rfl
      · rw [if_neg (by omega), if_neg h3]; rfl
theorem sizeQ_cases (n : Nat) (hn : n ≤ 4611686018427387903) : (sizeQ n = 1 ∨ sizeQ n = 2 ∨ sizeQ n = 4 ∨ sizeQ n = 8) ∧ n / 256 ^ (sizeQ n - 1) < 64 := by
  unfold sizeQ
  by_cases h1 : n < 64
  · simp [h1]
  · by_cases h2 : n < 16384
    · simp only [h1, h2, if_true, if_false]; exact ⟨by simp, by show n / 256 < 64; omega⟩
    · by_cases h3 : n < 1073741824
      · simp only [h1, h2, h3, if_true, if_false]; exact ⟨by simp, by show n / 16777216 < 64; omega⟩
      · simp only [h1, h2, h3, if_true, if_false]; exact ⟨by simp, by show n / 72057594037927936 < 64; omega⟩
theorem or_tag (x a : Nat) (hx : x < 64) (ha : a < 4) : bits .or .i64 (x : Int) ((a * 64 : Nat) : Int) = ((x + a * 64 : Nat) : Int) := by
  have h := (bits_nat .i64 63 (by decide) wraps_i64_63 x (a * 64) (by omega) (by omega)).2
  have e : x ||| a * 64 = x + a * 64 := by
    have := Nat.shiftLeft_add_eq_or_of_lt (i := 6) (b := x) (by omega) a
    rw [Nat.shiftLeft_eq] at this
    rw [Nat.or_comm]
    have e6 : (2 : Nat) ^ 6 = 64 := rfl
    rw [e6] at this
    rw [← this]; omega
  rw [e] at h
  exact h
theorem shr_at (n m : Nat) : (n : Int) / 2 ^ (8 * m) = ((n / 256 ^ m : Nat) : Int) := by
  have e2 : ((2 : Int) ^ (8 * m)) = ((256 ^ m : Nat) : Int) := by
    rw [Int.pow_mul, Int.natCast_pow]
    rfl
  rw [e2, Int.natCast_ediv]
end Go.Proofs.YthhdjajjckcikaaDoor
