/- EncodeFixed at width 1, l2Byte: one contract each. -/
import Derived.Test.YtnndhkdigmkddaaQ1
import Derived.Laws.IdiomStrings
namespace Go.Proofs.Ytnndhkdigmkddaa
open Go.ChangeShapes Go.WideShapes Go.ChangeAt Go.RowKit QM
set_option linter.unusedVariables false
theorem l1In_any (n a b : Int) (w : World) : Calls Try.prog 57 #[.int .i64 n, .int .i64 a, .int .i64 b] w fun e w' => e = .returned (.bool (decide (a ≤ n) && decide (n ≤ b))) ∧ w = w' := by
  cases hx : decide (a ≤ n)
  all_goals go_enter Try.func57, Try.ntmps57
  all_goals go_wp2
  all_goals go_ret
  all_goals exact ⟨rfl, rfl⟩
def beB (n k : Nat) : ByteArray := ⟨(be n k).toArray⟩
def one1 (q : Nat) : ByteArray := ⟨#[UInt8.ofNat q]⟩
theorem beB_size (n k : Nat) : (beB n k).size = k := by
  have h := be_len n k
  show (be n k).toArray.size = k
  rw [List.size_toArray, h]
theorem one1_size (q : Nat) : (one1 q).size = 1 := rfl
theorem beB_succ (n j q : Nat) (h : n / 256 ^ j = q) : one1 (q % 256) ++ beB n j = beB n (j + 1) := by
  have e : UInt8.ofNat (q % 256) = UInt8.ofNat (n / 256 ^ j) := by rw [h]; apply UInt8.toNat.inj; rw [ofNat_toNat, ofNat_toNat]; omega
  unfold one1 beB
  rw [e]
  apply ByteArray.ext
  simp [be]
def fixV (n k : Nat) : ByteArray := if n < 256 ^ k then beB n k else ⟨#[]⟩
theorem fixV_in {n k q : Nat} (h : n / 256 ^ k = q) (h0 : ¬ 0 < q) : fixV n k = beB n k := by
  have : n < 256 ^ k := by
    have := (Nat.div_eq_zero_iff_lt (Nat.pow_pos (by decide : 0 < 256) (n := k))).1 (show n / 256 ^ k = 0 by omega)
    exact this
  simp [fixV, this]
theorem fixV_out {n k q : Nat} (h : n / 256 ^ k = q) (h0 : 0 < q) : fixV n k = ⟨#[]⟩ := by
  have : ¬ n < 256 ^ k := fun hl => by
    have := Nat.div_eq_of_lt hl
    omega
  simp [fixV, this]
theorem conv1 (w : World) (c : Int) (q : Nat) (hc : c = (q : Int)) (h1 : q < 256) :
    (convert 37 9 (.slice (some ⟨w.heap.size, 0, none⟩) 1 1)).run Try.prog (w.alloc (.cells #[.int .u8 c] 5)) = .ok (.string (one1 q)) (w.alloc (.cells #[.int .u8 c] 5)) := by
  subst hc
  have h := run_convert_bytes_back (P := Try.prog) (w.alloc (.cells #[.int .u8 (q : Int)] 5)) 37 9 5 ⟨w.heap.size, 0, none⟩ 1 [UInt8.ofNat q] Try.underlying37 Try.underlying5 Try.underlying9 (fun j hj => by
    obtain rfl : j = 0 := by simpa using hj
    have e : (([UInt8.ofNat q] : List UInt8)[0].toNat : Int) = (q : Int) := by show ((UInt8.ofNat q).toNat : Int) = q; rw [ofNat_toNat]; omega
    rw [e]
    exact (World.cell?_alloc_new (w := w) _ _ 0).trans rfl)
  exact h
theorem fixS (n k : Nat) (hn : n ≤ 9223372036854775807) (hk : 1 ≤ k) (hk7 : k ≤ 7) (w : World) : Calls Try.prog 50 #[.int .i64 n, .int .i64 k] w fun e w' => e = .returned (.string (fixV n k)) ∧ Below w.heap.size w w' := by
  have hd : decide ((n : Int) < 0) = false := by simp
  have hd1 : (decide ((1 : Int) ≤ (k : Int)) && decide ((k : Int) ≤ 7)) = true := by simp; omega
  go_enter Try.func50, Try.ntmps50
  go_wp2_with (first | (go_at_call 57; refine (l1In_any _ _ _ _).mono ?_; rintro e w' ⟨rfl, rfl⟩))
  go_loopw [0, 5, 6] (fun x o i w1 => ∃ j q : Nat, j ≤ k ∧ i = .int .i64 j ∧ n / 256 ^ j = q ∧ x = .int .i64 (q : Int) ∧ o = .string (beB n j) ∧ Below w.heap.size w w1) (fun x o i _ => k - (intOf i).toNat)
  case atStart => exact ⟨0, n, by omega, rfl, by simp, rfl, rfl, Below.refl _ _⟩
  case round =>
    obtain ⟨j, q, hj, rfl, hq, rfl, rfl, hb⟩ := hrel
    have hq2 : q ≤ 9223372036854775807 := by rw [← hq]; exact Nat.le_trans (Nat.div_le_self _ _) hn
    have HQ := Lib.hid hq; clear hq
    have hB := hb.size
    have HB := Lib.hid hb; clear hb
    have hz := beB_size n j
    by_cases hlt : j < k
    · have hc := conv1 wr ((q : Int) % 256) (q % 256) (by omega) (by omega)
      have hz1 := one1_size (q % 256)
      go_wp2
      go_roundw
      case rel => exact ⟨j + 1, q / 256, by omega, by go_num, by rw [Nat.pow_succ, ← Nat.div_div_eq_div_mul, HQ.out], by go_num, by rw [beB_succ n j q HQ.out], HB.out.alloc hB _⟩
      case measure => simp [intOf]; omega
    · obtain rfl : j = k := by omega
      by_cases h0 : 0 < q
      · go_wp2
        go_ret
        exact ⟨ret_str (fixV_out HQ.out h0).symm, HB.out⟩
      · go_wp2
        go_ret
        exact ⟨ret_str (fixV_in HQ.out h0).symm, HB.out⟩
theorem and_255 (b : Nat) (hb : b < 9223372036854775808) : bits .and .i64 (b : Int) 255 = ((b % 256 : Nat) : Int) := by
  have h := (bits_nat .i64 63 (by decide) wraps_i64_63 b 255 (by omega) (by decide)).1
  have e : b &&& 255 = b % 256 := Nat.and_two_pow_sub_one_eq_mod b 8
  rw [e] at h
  exact h
theorem fixV_one (b : Nat) (hb : b < 256) : fixV b 1 = one1 b := by
  have h : b < 256 ^ 1 := by simpa using hb
  unfold fixV beB one1
  rw [if_pos h]
  simp [be]
theorem l2B (c : Int) (b : Nat) (hc : c = (b : Int)) (hb : b < 256) (w : World) : Calls Try.prog 32 #[.int .i64 c] w fun e w' => e = .returned (.string (one1 b)) ∧ Below w.heap.size w w' := by
  subst hc
  have ha := and_255 b (by omega)
  have hm : b % 256 = b := by omega
  rw [hm] at ha
  have hf := Lib.hid (fixV_one b hb)
  go_enter Try.func32, Try.ntmps32
  go_wp2_with (first | (go_at_call 50; refine (fixS b 1 (by omega) (by omega) (by omega) _).mono ?_; rintro e w' ⟨rfl, hb2⟩))
  go_ret
  exact ⟨ret_str hf.out, hb2⟩
end Go.Proofs.Ytnndhkdigmkddaa
