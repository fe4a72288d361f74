/- EncodeFixed at width 1, l2Byte: one contract each. spec.EncodeQuic: its contract. impl.EncodeQuic: its contract. Walk of the law on EncodeQuic. What the laws draw from a code: texts out of a list, numbers of the wire, bytes. No conditions. -/
import Derived.Test.YtadoiehgobcjcaaA2
import Derived.Laws.IdiomStrings
import Derived.Laws.Shifts
import Derived.Test.YtadoiehgobcjcaaA1
namespace Go.Proofs.Ytadoiehgobcjcaa
open Go.ChangeShapes Go.WideShapes Go.ChangeAt Go.RowKit QM
set_option linter.unusedVariables false
theorem l1In_any (n a b : Int) (w : World) : Calls Try.prog 67 #[.int .i64 n, .int .i64 a, .int .i64 b] w fun e w' => e = .returned (.bool (decide (a ≤ n) && decide (n ≤ b))) ∧ w = w' := by
  cases hx : decide (a ≤ n)
  all_goals go_enter Try.func67, Try.ntmps67
  all_goals go_wp2
  all_goals go_ret
  all_goals exact ⟨rfl, rfl⟩
def beB (n k : Nat) : ByteArray := ⟨(be n k).toArray⟩
def one1 (q : Nat) : ByteArray := ⟨#[UInt8.ofNat q]⟩
theorem beB_size (n k : Nat) : (beB n k).size = k := by
  have h := be_len n k
  show (be n k).toArray.size = k
  rw [List.size_toArray, h]
theorem one1_size (q : Nat) : (one1 q).size = 1 := rfl
theorem beB_succ (n j q : Nat) (h : n / 256 ^ j = q) : one1 (q % 256) ++ beB n j = beB n (j + 1) := by
  have e : UInt8.ofNat (q % 256) = UInt8.ofNat (n / 256 ^ j) := by rw [h]; apply UInt8.toNat.inj; rw [ofNat_toNat, ofNat_toNat]; omega
  unfold one1 beB
  rw [e]
  apply ByteArray.ext
  simp [be]
def fixV (n k : Nat) : ByteArray := if n < 256 ^ k then beB n k else ⟨#[]⟩
theorem fixV_in {n k q : Nat} (h : n / 256 ^ k = q) (h0 : ¬ 0 < q) : fixV n k = beB n k := by
  have : n < 256 ^ k := by
    have := (Nat.div_eq_zero_iff_lt (Nat.pow_pos (by decide : 0 < 256) (n := k))).1 (show n / 256 ^ k = 0 by omega)
    exact this
  simp [fixV, this]
theorem fixV_out {n k q : Nat} (h : n / 256 ^ k = q) (h0 : 0 < q) : fixV n k = ⟨#[]⟩ := by
  have : ¬ n < 256 ^ k := fun hl => by
    have := Nat.div_eq_of_lt hl
    omega
  simp [fixV, this]
theorem conv1 (w : World) (c : Int) (q : Nat) (hc : c = (q : Int)) (h1 : q < 256) :
    (convert 22 9 (.slice (some ⟨w.heap.size, 0, none⟩) 1 1)).run Try.prog (w.alloc (.cells #[.int .u8 c] 5)) = .ok (.string (one1 q)) (w.alloc (.cells #[.int .u8 c] 5)) := by
  subst hc
  have h := run_convert_bytes_back (P := Try.prog) (w.alloc (.cells #[.int .u8 (q : Int)] 5)) 22 9 5 ⟨w.heap.size, 0, none⟩ 1 [UInt8.ofNat q] Try.underlying22 Try.underlying5 Try.underlying9 (fun j hj => by
    obtain rfl : j = 0 := by simpa using hj
    have e : (([UInt8.ofNat q] : List UInt8)[0].toNat : Int) = (q : Int) := by show ((UInt8.ofNat q).toNat : Int) = q; rw [ofNat_toNat]; omega
    rw [e]
    exact (World.cell?_alloc_new (w := w) _ _ 0).trans rfl)
  exact h
theorem fixS (n k : Nat) (hn : n ≤ 9223372036854775807) (hk : 1 ≤ k) (hk7 : k ≤ 7) (w : World) : Calls Try.prog 69 #[.int .i64 n, .int .i64 k] w fun e w' => e = .returned (.string (fixV n k)) ∧ Below w.heap.size w w' := by
  have hd : decide ((n : Int) < 0) = false := by simp
  have hd1 : (decide ((1 : Int) ≤ (k : Int)) && decide ((k : Int) ≤ 7)) = true := by simp; omega
  go_enter Try.func69, Try.ntmps69
  go_wp2_with (first | (go_at_call 67; refine (l1In_any _ _ _ _).mono ?_; rintro e w' ⟨rfl, rfl⟩))
  go_loopw [0, 5, 6] (fun x o i w1 => ∃ j q : Nat, j ≤ k ∧ i = .int .i64 j ∧ n / 256 ^ j = q ∧ x = .int .i64 (q : Int) ∧ o = .string (beB n j) ∧ Below w.heap.size w w1) (fun x o i _ => k - (intOf i).toNat)
  case atStart => exact ⟨0, n, by omega, rfl, by simp, rfl, rfl, Below.refl _ _⟩
  case round =>
    obtain ⟨j, q, hj, rfl, hq, rfl, rfl, hb⟩ := hrel
    have hq2 : q ≤ 9223372036854775807 := by rw [← hq]; exact Nat.le_trans (Nat.div_le_self _ _) hn
    have HQ := Lib.hid hq; clear hq
    have hB := hb.size
    have HB := Lib.hid hb; clear hb
    have hz := beB_size n j
    by_cases hlt : j < k
    · have hc := conv1 wr ((q : Int) % 256) (q % 256) (by omega) (by omega)
      have hz1 := one1_size (q % 256)
      go_wp2
      go_roundw
      case rel => exact ⟨j + 1, q / 256, by omega, by go_num, by rw [Nat.pow_succ, ← Nat.div_div_eq_div_mul, HQ.out], by go_num, by rw [beB_succ n j q HQ.out], HB.out.alloc hB _⟩
      case measure => simp [intOf]; omega
    · obtain rfl : j = k := by omega
      by_cases h0 : 0 < q
      · go_wp2
        go_ret
        exact ⟨ret_str (fixV_out HQ.out h0).symm, HB.out⟩
      · go_wp2
        go_ret
        exact ⟨ret_str (fixV_in HQ.out h0).symm, HB.out⟩
theorem and_255 (b : Nat) (hb : b < 9223372036854775808) : bits .and .i64 (b : Int) 255 = ((b % 256 : Nat) : Int) := by
  have h := (bits_nat .i64 63 (by decide) wraps_i64_63 b 255 (by omega) (by decide)).1
  have e : b &&& 255 = b % 256 := Nat.and_two_pow_sub_one_eq_mod b 8
  rw [e] at h
  exact h
theorem fixV_one (b : Nat) (hb : b < 256) : fixV b 1 = one1 b := by
  have h : b < 256 ^ 1 := by simpa using hb
  unfold fixV beB one1
  rw [if_pos h]
  simp [be]
theorem l2B (c : Int) (b : Nat) (hc : c = (b : Int)) (hb : b < 256) (w : World) : Calls Try.prog 49 #[.int .i64 c] w fun e w' => e = .returned (.string (one1 b)) ∧ Below w.heap.size w w' := by
  subst hc
  have ha := and_255 b (by omega)
  have hm : b % 256 = b := by omega
  rw [hm] at ha
  have hf := Lib.hid (fixV_one b hb)
  go_enter Try.func49, Try.ntmps49
  go_wp2_with (first | (go_at_call 69; refine (fixS b 1 (by omega) (by omega) (by omega) _).mono ?_; rintro e w' ⟨rfl, hb2⟩))
  go_ret
  exact ⟨ret_str hf.out, hb2⟩
end Go.Proofs.Ytadoiehgobcjcaa

namespace Go.Proofs.Ytadoiehgobcjcaa
open Go.ChangeShapes Go.WideShapes Go.ChangeAt Go.RowKit QM
set_option linter.unusedVariables false
set_option linter.unusedSimpArgs false
theorem be_get (n : Nat) : ∀ (K j : Nat) (h : j < (be n K).length), (be n K)[j] = UInt8.ofNat (n / 256 ^ (K - 1 - j)) := by
  intro K
  induction K with
  | zero => intro j h; simp [be] at h
  | succ K ih =>
    intro j h
    cases j with
    | zero => simp [be]
    | succ j =>
      have h' : j < (be n K).length := by rw [be_len] at h ⊢; omega
      have := ih j h'
      simp only [be, List.getElem_cons_succ]
      rw [this]
      congr 3
      omega
theorem encQ_get (n j : Nat) (h : j < (encQ n).length) : (encQ n)[j] = UInt8.ofNat (n / 256 ^ (sizeQ n - 1 - j) + if j = 0 then tag (sizeQ n) else 0) := by
  cases j with
  | zero => simp [encQ]
  | succ j =>
    simp only [encQ, List.getElem_cons_succ]
    rw [be_get, if_neg (by omega), Nat.add_zero]
    congr 3
    omega
/-- the form's bytes but for the last i -/
def preQ (n i : Nat) : ByteArray := ⟨((encQ n).take (sizeQ n - i)).toArray⟩
def encB (n : Nat) : ByteArray := ⟨(encQ n).toArray⟩
theorem preQ_size (n i : Nat) : (preQ n i).size = sizeQ n - i := by
  show ((encQ n).take (sizeQ n - i)).toArray.size = sizeQ n - i
  rw [List.size_toArray, List.length_take, encQ_len]; omega
theorem preQ_top (n : Nat) : preQ n (sizeQ n) = ⟨#[]⟩ := by simp [preQ]
theorem preQ_end (n : Nat) : preQ n 0 = encB n := by
  unfold preQ encB
  rw [List.take_of_length_le (by rw [encQ_len]; omega)]
theorem preQ_step (n m c : Nat) (hm : m + 1 ≤ sizeQ n) (hc : c % 256 = (n / 256 ^ m + if m + 1 = sizeQ n then tag (sizeQ n) else 0) % 256) : preQ n (m + 1) ++ one1 c = preQ n m := by
  have hl : sizeQ n - (m + 1) < (encQ n).length := by rw [encQ_len]; omega
  have e : sizeQ n - m = sizeQ n - (m + 1) + 1 := by omega
  have eb : (encQ n)[sizeQ n - (m + 1)] = UInt8.ofNat c := by
    rw [encQ_get n _ hl]
    apply UInt8.toNat.inj
    rw [ofNat_toNat, ofNat_toNat, hc]
    have e1 : sizeQ n - 1 - (sizeQ n - (m + 1)) = m := by omega
    rw [e1]
    by_cases h : m + 1 = sizeQ n
    · rw [if_pos h, if_pos (by omega)]
    · rw [if_neg h, if_neg (by omega)]
  unfold preQ one1
  rw [e, List.take_succ_eq_append_getElem hl, eb]
  apply ByteArray.ext
  simp
theorem sizeI_nat (n : Nat) (hn : n ≤ 4611686018427387903) : sizeI (n : Int) = (sizeQ n : Int) := by
  unfold sizeI sizeQ
  rw [qB_in (by omega) (by omega)]
  simp only [if_true]
  by_cases h1 : n < 64
  · rw [if_pos (by omega), if_pos h1]; rfl
  · rw [if_neg (by omega), if_neg h1]
    by_cases h2 : n < 16384
    · rw [if_pos (by omega), if_pos h2]; rfl
    · rw [if_neg (by omega), if_neg h2]
      by_cases h3 : n < 1073741824
      · rw [if_pos (by omega), if_pos h3]; rfl
      · rw [if_neg (by omega), if_neg h3]; rfl
theorem sizeQ_cases (n : Nat) (hn : n ≤ 4611686018427387903) : (sizeQ n = 1 ∨ sizeQ n = 2 ∨ sizeQ n = 4 ∨ sizeQ n = 8) ∧ n / 256 ^ (sizeQ n - 1) < 64 := by
  unfold sizeQ
  by_cases h1 : n < 64
  · simp [h1]
  · by_cases h2 : n < 16384
    · simp only [h1, h2, if_true, if_false]; exact ⟨by simp, by show n / 256 < 64; omega⟩
    · by_cases h3 : n < 1073741824
      · simp only [h1, h2, h3, if_true, if_false]; exact ⟨by simp, by show n / 16777216 < 64; omega⟩
      · simp only [h1, h2, h3, if_true, if_false]; exact ⟨by simp, by show n / 72057594037927936 < 64; omega⟩
theorem or_tag (x a : Nat) (hx : x < 64) (ha : a < 4) : bits .or .i64 (x : Int) ((a * 64 : Nat) : Int) = ((x + a * 64 : Nat) : Int) := by
  have h := (bits_nat .i64 63 (by decide) wraps_i64_63 x (a * 64) (by omega) (by omega)).2
  have e : x ||| a * 64 = x + a * 64 := by
    have := Nat.shiftLeft_add_eq_or_of_lt (i := 6) (b := x) (by omega) a
    rw [Nat.shiftLeft_eq] at this
    rw [Nat.or_comm]
    have e6 : (2 : Nat) ^ 6 = 64 := rfl
    rw [e6] at this
    rw [← this]; omega
  rw [e] at h
  exact h
theorem shr_at (n m : Nat) : (n : Int) / 2 ^ (8 * m) = ((n / 256 ^ m : Nat) : Int) := by
  have e2 : ((2 : Int) ^ (8 * m)) = ((256 ^ m : Nat) : Int) := by
    rw [Int.pow_mul, Int.natCast_pow]
    rfl
  rw [e2, Int.natCast_ediv]
set_option maxHeartbeats 1000000 in
theorem sEnc (n : Nat) (hn : n ≤ 4611686018427387903) (w : World) : Calls Try.prog 10 #[.int .i64 n] w fun e w' => e = .returned (.string (encB n)) ∧ Below w.heap.size w w' := by
  have hk := sizeI_nat n hn
  obtain ⟨hk4, htop⟩ := sizeQ_cases n hn
  have hpt := Lib.hid (preQ_top n)
  have hpe := Lib.hid (preQ_end n)
  have hps := Lib.hid (preQ_size n)
  have hst := Lib.hid (preQ_step n)
  have htag := Lib.hid (fun (k : Nat) (h : sizeQ n = k) => congrArg tag h)
  have HK4 := Lib.hid hk4; have HT := Lib.hid htop; clear hk4 htop
  have hk1 : 1 ≤ sizeQ n := by have := HK4.out; omega
  have hk8 : sizeQ n ≤ 8 := by have := HK4.out; omega
  generalize hK : sizeQ n = k at *
  clear hK
  go_enter Try.func10, Try.ntmps10
  go_wp2_with (first | (go_at_call 48; refine (sSize _ _).mono ?_; rintro e w' ⟨rfl, rfl⟩))
  go_loopw [4, 5, 6] (fun s v _ w1 => ∃ (i : Nat) (z : Int), i ≤ k ∧ z + 1 = i ∧ v = .int .i64 z ∧ s = .string (preQ n i) ∧ Below w.heap.size w w1) (fun _ v _ _ => (intOf v + 1).toNat)
  case atStart => exact ⟨k, (k : Int) - 1, by omega, by omega, rfl, by rw [hpt.out], Below.refl _ _⟩
  case round =>
    obtain ⟨i, z, hi, hz, rfl, rfl, hb⟩ := hrel
    have hB := hb.size
    have HB := Lib.hid hb; clear hb
    cases i with
    | zero =>
      obtain rfl : z = -1 := by omega
      go_wp2
      go_ret
      exact ⟨ret_str hpe.out, HB.out⟩
    | succ m =>
      obtain rfl : z = m := by omega
      clear hz
      have hsh := shr_at n m
      have hqb : n / 256 ^ m ≤ 4611686018427387903 := Nat.le_trans (Nat.div_le_self _ _) hn
      have ha := and_255 (n / 256 ^ m) (by omega)
      obtain ⟨q, hq⟩ : ∃ q, n / 256 ^ m = q := ⟨_, rfl⟩
      rw [hq] at hsh ha hqb
      have HQ := Lib.hid hq
      by_cases hlt : m + 1 = k
      · have hq64 : q < 64 := by have := HT.out; rw [← hlt, Nat.add_sub_cancel, hq] at this; exact this
        have hr : q % 256 = q := by omega
        rw [hr] at ha
        clear hq hr
        have hr64 := hq64
        generalize hrr : q = r at *
        clear hrr
        have hz1 := hps.out (m + 1)
        rcases HK4.out with h | h | h | h
        · have hlo : 0 ≤ m := by omega
          have hhi : m ≤ 0 := by omega
          have hka : 1 ≤ k := by omega
          have hkb : k ≤ 1 := by omega
          have hstep := Lib.hid (hst.out m r (by omega) (by rw [HQ.out, if_pos (by omega), htag.out 1 (by omega), show tag 1 = 0 from rfl]; omega))
          clear hlt hq64 h
          have hz2 := one1_size r
          go_wp2_with (first | (go_at_call 49; refine (l2B _ r rfl (by omega) _).mono ?_; rintro e w' ⟨rfl, hb2⟩))
          exact ⟨⟨m, (m : Int) - 1, by omega, by omega, rfl, by rw [hstep.out], HB.out.trans (hb2.mono hB)⟩, by simp [intOf]⟩
        · have hlo : 1 ≤ m := by omega
          have hhi : m ≤ 1 := by omega
          have hka : 2 ≤ k := by omega
          have hkb : k ≤ 2 := by omega
          have ho : bits .or .i64 (r : Int) 64 = ((r + 1 * 64 : Nat) : Int) := or_tag r 1 (by omega) (by omega)
          obtain ⟨c, hc⟩ : ∃ c, r + 1 * 64 = c := ⟨_, rfl⟩
          rw [hc] at ho
          have hc2 : c < 256 := by omega
          have hstep := Lib.hid (hst.out m c (by omega) (by rw [HQ.out, if_pos (by omega), htag.out 2 (by omega), show tag 2 = 64 from rfl]; omega))
          clear hlt hq64 hc h
          have hz2 := one1_size c
          go_wp2_with (first | (go_at_call 49; refine (l2B _ c rfl (by omega) _).mono ?_; rintro e w' ⟨rfl, hb2⟩))
          exact ⟨⟨m, (m : Int) - 1, by omega, by omega, rfl, by rw [hstep.out], HB.out.trans (hb2.mono hB)⟩, by simp [intOf]⟩
        · have hlo : 3 ≤ m := by omega
          have hhi : m ≤ 3 := by omega
          have hka : 4 ≤ k := by omega
          have hkb : k ≤ 4 := by omega
          have ho : bits .or .i64 (r : Int) 128 = ((r + 2 * 64 : Nat) : Int) := or_tag r 2 (by omega) (by omega)
          obtain ⟨c, hc⟩ : ∃ c, r + 2 * 64 = c := ⟨_, rfl⟩
          rw [hc] at ho
          have hc2 : c < 256 := by omega
          have hstep := Lib.hid (hst.out m c (by omega) (by rw [HQ.out, if_pos (by omega), htag.out 4 (by omega), show tag 4 = 128 from rfl]; omega))
          clear hlt hq64 hc h
          have hz2 := one1_size c
          go_wp2_with (first | (go_at_call 49; refine (l2B _ c rfl (by omega) _).mono ?_; rintro e w' ⟨rfl, hb2⟩))
          exact ⟨⟨m, (m : Int) - 1, by omega, by omega, rfl, by rw [hstep.out], HB.out.trans (hb2.mono hB)⟩, by simp [intOf]⟩
        · have hlo : 7 ≤ m := by omega
          have hhi : m ≤ 7 := by omega
          have hka : 8 ≤ k := by omega
          have hkb : k ≤ 8 := by omega
          have ho : bits .or .i64 (r : Int) 192 = ((r + 3 * 64 : Nat) : Int) := or_tag r 3 (by omega) (by omega)
          obtain ⟨c, hc⟩ : ∃ c, r + 3 * 64 = c := ⟨_, rfl⟩
          rw [hc] at ho
          have hc2 : c < 256 := by omega
          have hstep := Lib.hid (hst.out m c (by omega) (by rw [HQ.out, if_pos (by omega), htag.out 8 (by omega), show tag 8 = 192 from rfl]; omega))
          clear hlt hq64 hc h
          have hz2 := one1_size c
          go_wp2_with (first | (go_at_call 49; refine (l2B _ c rfl (by omega) _).mono ?_; rintro e w' ⟨rfl, hb2⟩))
          exact ⟨⟨m, (m : Int) - 1, by omega, by omega, rfl, by rw [hstep.out], HB.out.trans (hb2.mono hB)⟩, by simp [intOf]⟩
      · obtain ⟨r, hr⟩ : ∃ r, q % 256 = r := ⟨_, rfl⟩
        rw [hr] at ha
        have hr2 : r < 256 := by omega
        have hz1 := hps.out (m + 1)
        have hz2 := one1_size r
        have hstep := Lib.hid (hst.out m r (by omega) (by rw [HQ.out, if_neg (by omega)]; omega))
        clear hq hr
        go_wp2_with (first | (go_at_call 49; refine (l2B _ r rfl (by omega) _).mono ?_; rintro e w' ⟨rfl, hb2⟩))
        exact ⟨⟨m, (m : Int) - 1, by omega, by omega, rfl, by rw [hstep.out], HB.out.trans (hb2.mono hB)⟩, by simp [intOf]⟩
end Go.Proofs.Ytadoiehgobcjcaa

namespace Go.Proofs.Ytadoiehgobcjcaa
open Go.ChangeShapes Go.WideShapes Go.ChangeAt Go.RowKit QM
set_option linter.unusedVariables false
set_option linter.unusedSimpArgs false
theorem info_u8 : (Try.prog.info? 5).map (fun i => (i.zero, i.size, i.bytes)) = some (some (.int .u8 0), 1, 1) := by kernel_rfl
theorem or_tag8 (x a : Nat) (hx : x < 64) (ha : a < 4) : bits .or .u8 (x : Int) ((a * 64 : Nat) : Int) = ((x + a * 64 : Nat) : Int) := by
  have h := (bits_nat .u8 8 (by decide) wraps_u8_8 x (a * 64) (by omega) (by omega)).2
  have e : x ||| a * 64 = x + a * 64 := by
    have := Nat.shiftLeft_add_eq_or_of_lt (i := 6) (b := x) (by omega) a
    rw [Nat.shiftLeft_eq] at this
    rw [Nat.or_comm]
    have e6 : (2 : Nat) ^ 6 = 64 := rfl
    rw [e6] at this
    rw [← this]; omega
  rw [e] at h
  exact h
/-- The form's bytes lie in the cells. -/
def FormAt (n : Nat) (cs : Array Value) : Prop := ∀ j (hj : j < (encQ n).length), cs[j]? = some (.int .u8 (((encQ n)[j]'hj).toNat : Int))
theorem conv_all (w : World) (g n k : Nat) (cs : Array Value) (hk : sizeQ n = k) (hb : Bk w g 5 cs) (hc : FormAt n cs) :
    (convert 22 9 (.slice (some ⟨g, 0, none⟩) k k)).run Try.prog w = .ok (.string (encB n)) w := by
  have h := run_convert_bytes_back (P := Try.prog) w 22 9 5 ⟨g, 0, none⟩ k (encQ n) Try.underlying22 Try.underlying5 Try.underlying9 (fun j hj => by
    have : (⟨g, 0, none⟩ : Addr).add j = ⟨g, 0 + j, none⟩ := by unfold Addr.add; split <;> simp_all
    rw [this, Nat.zero_add, hb.cell]
    exact hc j hj)
  rw [encQ_len, hk] at h
  exact h
/-- The plain bytes behind place i lie in the cells. -/
def TailAt (n k i : Nat) (cs : Array Value) : Prop := ∀ j, i ≤ j → j < k → cs[j]? = some (.int .u8 ((n / 256 ^ (k - 1 - j) % 256 : Nat) : Int))
theorem TailAt.set {n k m q : Nat} {cs : Array Value} {c : Int} (h : TailAt n k (m + 1) cs) (hm : m + 1 ≤ k) (hs : cs.size = k) (hq : n / 256 ^ (k - (m + 1)) = q) (hc : c = ((q % 256 : Nat) : Int)) : TailAt n k m (cs.setIfInBounds m (.int .u8 c)) := by
  intro j hj hjk
  by_cases e : j = m
  · subst e
    have e1 : k - 1 - j = k - (j + 1) := by omega
    rw [e1, hq, hc]
    simp [Array.getElem?_setIfInBounds]; omega
  · rw [← h j (by omega) hjk]
    simp [Array.getElem?_setIfInBounds]
    intro e'; omega
theorem TailAt.first {n k : Nat} {cs : Array Value} (h : TailAt n k 0 cs) (hk : 1 ≤ k) (ht : n / 256 ^ (k - 1) < 64) : cs[0]? = some (.int .u8 ((n / 256 ^ (k - 1) : Nat) : Int)) := by
  rw [h 0 (by omega) (by omega)]
  have e : k - 1 - 0 = k - 1 := by omega
  rw [e, Nat.mod_eq_of_lt (by omega)]
theorem TailAt.form {n k : Nat} {cs : Array Value} (h : TailAt n k 0 cs) (hk : sizeQ n = k) (h0 : tag k = 0) : FormAt n cs := by
  intro j hj
  rw [h j (by omega) (by rw [encQ_len, hk] at hj; exact hj), encQ_get, hk, h0, ofNat_toNat]
  split <;> rfl
theorem TailAt.form_tag {n k t : Nat} {cs : Array Value} {c : Int} (h : TailAt n k 0 cs) (hk : sizeQ n = k) (h0 : tag k = t) (ht : t < 256) (hs : cs.size = k) (h1 : 1 ≤ k) (h64 : n / 256 ^ (k - 1) < 64) (ht2 : t ≤ 192) (hc : c = ((n / 256 ^ (k - 1) + t : Nat) : Int)) : FormAt n (cs.setIfInBounds 0 (.int .u8 c)) := by
  intro j hj
  rw [encQ_get, hk, h0, ofNat_toNat]
  by_cases e : j = 0
  · subst e
    have e1 : k - 1 - 0 = k - 1 := by omega
    have hlt : n / 256 ^ (k - 1) + t < 256 := Nat.lt_of_lt_of_le (Nat.add_lt_add_right h64 t) (by omega)
    rw [e1, if_pos rfl, Nat.mod_eq_of_lt hlt, ← hc, Array.getElem?_setIfInBounds, if_pos rfl, if_pos (by omega)]
  · rw [if_neg e, Nat.add_zero, ← h j (by omega) (by rw [encQ_len, hk] at hj; exact hj)]
    simp [Array.getElem?_setIfInBounds]
    intro e'; omega
set_option maxHeartbeats 2000000 in
theorem iEnc (n : Nat) (hn : n ≤ 4611686018427387903) (w : World) : Calls Try.prog 8 #[.int .i64 n] w fun e w' => e = .returned (.string (encB n)) ∧ Below w.heap.size w w' := by
  have hk := sizeI_nat n hn
  obtain ⟨hk4, htop⟩ := sizeQ_cases n hn
  have HK4 := Lib.hid hk4; have HT := Lib.hid htop; clear hk4 htop
  have hk1 : 1 ≤ sizeQ n := by have := HK4.out; omega
  have hk8 : sizeQ n ≤ 8 := by have := HK4.out; omega
  generalize hK : sizeQ n = k at *
  have HKK := Lib.hid hK; clear hK
  obtain ⟨i0, hi, hz0, hz1, hz2⟩ := info_parts info_u8
  have hmk := fun W => run_make (P := Try.prog) W 22 5 i0 (.int .u8 0) Try.underlying22 hi hz0 .i64 .i64 (k : Int) (k : Int) (by omega) (by omega) (by rw [hz2]; omega) (by omega)
  simp only [Int.toNat_natCast, hz1] at hmk
  go_enter Try.func8, Try.ntmps8
  go_wp2_with (first | (go_at_call 11; refine (iSize _ _).mono ?_; rintro e w' ⟨rfl, rfl⟩))
  have hb1 : Below w.heap.size w (w.alloc (.cells (madeCells #[.int .u8 0] k) 5)) := (Below.refl _ _).alloc (Nat.le_refl _) _
  have hB1 : Bk (w.alloc (.cells (madeCells #[.int .u8 0] k) 5)) w.heap.size 5 (madeCells #[.int .u8 0] k) := heap_alloc_new w _
  generalize (w.alloc (.cells (madeCells #[.int .u8 0] k) 5)) = w1 at hb1 hB1 ⊢
  have HB1 := Lib.hid hB1; clear hB1
  have HB0 := Lib.hid hb1; clear hb1
  clear hmk hi hz0 hz1 hz2
  go_loopw [0, 5] (fun x v wr => ∃ (i q : Nat) (z : Int) (cs : Array Value), i ≤ k ∧ z + 1 = i ∧ v = .int .i64 z ∧ x = .int .i64 (q : Int) ∧ n / 256 ^ (k - i) = q ∧ Bk wr w.heap.size 5 cs ∧ cs.size = k ∧ TailAt n k i cs ∧ Below w.heap.size w wr) (fun _ v _ => (intOf v + 1).toNat)
  case atStart => exact ⟨k, n, (k : Int) - 1, _, by omega, by omega, rfl, rfl, by simp, HB1.out, size_madeCells _ _, fun j h h' => by omega, HB0.out⟩
  case round =>
    obtain ⟨i, q, z, cs, hi, hz, rfl, rfl, hq, hbk, hcs, htl, hbw⟩ := hrel
    have HBK := Lib.hid hbk; clear hbk
    have HCS := Lib.hid hcs; clear hcs
    have HTL := Lib.hid htl; clear htl
    have HBW := Lib.hid hbw; clear hbw
    have hqn : q ≤ 4611686018427387903 := by rw [← hq]; exact Nat.le_trans (Nat.div_le_self _ _) hn
    have HQ := Lib.hid hq; clear hq
    clear HB0 HB1
    cases i with
    | succ m =>
      obtain rfl : z = m := by omega
      clear hz
      have d0 : wr.cell? ⟨w.heap.size, m, none⟩ = some (cs[m]'(by rw [HCS.out]; omega)) := by rw [HBK.out.cell, Array.getElem?_eq_getElem]
      have f0 := HBK.out.frozen m
      generalize cs[m]'(by rw [HCS.out]; omega) = o0 at d0
      have HBK3 := Lib.hid (HBK.out.set_ m (.int .u8 ((q : Int) % 256)))
      have HBW3 := Lib.hid (HBW.out.setCell (p := ⟨w.heap.size, m, none⟩) (Nat.le_refl _) (.int .u8 ((q : Int) % 256)))
      have HTL3 := Lib.hid (HTL.out.set (c := (q : Int) % 256) hi HCS.out HQ.out (by omega))
      have HQ3 := Lib.hid (show n / 256 ^ (k - m) = q / 256 by
        have e : k - m = k - (m + 1) + 1 := by omega
        rw [e, Nat.pow_succ, ← Nat.div_div_eq_div_mul, HQ.out])
      go_wp2
      go_roundw
      case rel => exact ⟨m, q / 256, (m : Int) - 1, _, by omega, by omega, rfl, by go_num, HQ3.out, HBK3.out, by simp [HCS.out], HTL3.out, HBW3.out⟩
      case measure => simp [intOf]
    | zero =>
      obtain rfl : z = -1 := by omega
      clear hz
      have d0 := (HBK.out.cell 0).trans (HTL.out.first hk1 HT.out)
      have f0 := HBK.out.frozen 0
      obtain ⟨r, hr⟩ : ∃ r, n / 256 ^ (k - 1) = r := ⟨_, rfl⟩
      have hr64 : r < 64 := by rw [← hr]; exact HT.out
      rw [hr] at d0
      have HR := Lib.hid hr; clear hr
      rcases HK4.out with h | h | h | h
      · have hka : 1 ≤ k := by omega
        have hkb : k ≤ 1 := by omega
        have htg : tag k = 0 := by rw [h]; rfl
        have hcv := conv_all _ _ n k _ HKK.out HBK.out (HTL.out.form HKK.out htg)
        clear h htg
        go_wp2
        go_ret
        exact ⟨rfl, HBW.out⟩
      · have hka : 2 ≤ k := by omega
        have hkb : k ≤ 2 := by omega
        have htg : tag k = 64 := by rw [h]; rfl
        have ho : bits .or .u8 (r : Int) 64 = ((r + 1 * 64 : Nat) : Int) := or_tag8 r 1 (by omega) (by omega)
        obtain ⟨c, hc⟩ : ∃ c, r + 1 * 64 = c := ⟨_, rfl⟩
        rw [hc] at ho
        have hf := HTL.out.form_tag (c := (c : Int)) HKK.out htg (by omega) HCS.out hk1 HT.out (by omega) (by rw [HR.out]; omega)
        have HC := Lib.hid hc
        have HBK3 := HBK.out.set_ 0 (.int .u8 (c : Int))
        have HBW3 := Lib.hid (HBW.out.setCell (p := ⟨w.heap.size, 0, none⟩) (Nat.le_refl _) (.int .u8 (c : Int)))
        have hcv := conv_all _ _ n k _ HKK.out HBK3 hf
        clear h htg hf HBK3 hc
        go_wp2
        go_ret
        exact ⟨rfl, HBW3.out⟩
      · have hka : 4 ≤ k := by omega
        have hkb : k ≤ 4 := by omega
        have htg : tag k = 128 := by rw [h]; rfl
        have ho : bits .or .u8 (r : Int) 128 = ((r + 2 * 64 : Nat) : Int) := or_tag8 r 2 (by omega) (by omega)
        obtain ⟨c, hc⟩ : ∃ c, r + 2 * 64 = c := ⟨_, rfl⟩
        rw [hc] at ho
        have hf := HTL.out.form_tag (c := (c : Int)) HKK.out htg (by omega) HCS.out hk1 HT.out (by omega) (by rw [HR.out]; omega)
        have HC := Lib.hid hc
        have HBK3 := HBK.out.set_ 0 (.int .u8 (c : Int))
        have HBW3 := Lib.hid (HBW.out.setCell (p := ⟨w.heap.size, 0, none⟩) (Nat.le_refl _) (.int .u8 (c : Int)))
        have hcv := conv_all _ _ n k _ HKK.out HBK3 hf
        clear h htg hf HBK3 hc
        go_wp2
        go_ret
        exact ⟨rfl, HBW3.out⟩
      · have hka : 8 ≤ k := by omega
        have hkb : k ≤ 8 := by omega
        have htg : tag k = 192 := by rw [h]; rfl
        have ho : bits .or .u8 (r : Int) 192 = ((r + 3 * 64 : Nat) : Int) := or_tag8 r 3 (by omega) (by omega)
        obtain ⟨c, hc⟩ : ∃ c, r + 3 * 64 = c := ⟨_, rfl⟩
        rw [hc] at ho
        have hf := HTL.out.form_tag (c := (c : Int)) HKK.out htg (by omega) HCS.out hk1 HT.out (by omega) (by rw [HR.out]; omega)
        have HC := Lib.hid hc
        have HBK3 := HBK.out.set_ 0 (.int .u8 (c : Int))
        have HBW3 := Lib.hid (HBW.out.setCell (p := ⟨w.heap.size, 0, none⟩) (Nat.le_refl _) (.int .u8 (c : Int)))
        have hcv := conv_all _ _ n k _ HKK.out HBK3 hf
        clear h htg hf HBK3 hc
        go_wp2
        go_ret
        exact ⟨rfl, HBW3.out⟩
end Go.Proofs.Ytadoiehgobcjcaa

namespace Go.Proofs.Ytadoiehgobcjcaa
open Go.ChangeShapes Go.WideShapes Go.ChangeAt Go.RowKit QM
set_option linter.unusedVariables false
set_option linter.unusedSimpArgs false
theorem sEnc0 (n : Int) (h : qB n = false) (w : World) : Calls Try.prog 10 #[.int .i64 n] w fun e w' => e = .returned (.string ⟨#[]⟩) ∧ Below w.heap.size w w' := by
  have hk : sizeI n = 0 := by unfold sizeI; rw [h]; rfl
  go_enter Try.func10, Try.ntmps10
  go_wp2_with (first | (go_at_call 48; refine (sSize _ _).mono ?_; rintro e w' ⟨rfl, rfl⟩))
  go_loop [4, 5] (fun s v => s = .string ⟨#[]⟩ ∧ v = .int .i64 (-1)) (fun _ _ => 0)
  case atStart => exact ⟨rfl, rfl⟩
  case round =>
    obtain ⟨rfl, rfl⟩ := hrel
    go_wp2
    go_ret
    exact ⟨rfl, Below.refl _ _⟩
theorem iEnc0 (n : Int) (h : qB n = false) (w : World) : Calls Try.prog 8 #[.int .i64 n] w fun e w' => e = .returned (.string ⟨#[]⟩) ∧ Below w.heap.size w w' := by
  have hk : sizeI n = 0 := by unfold sizeI; rw [h]; rfl
  go_enter Try.func8, Try.ntmps8
  go_wp2_with (first | (go_at_call 11; refine (iSize _ _).mono ?_; rintro e w' ⟨rfl, rfl⟩))
  go_ret
  exact ⟨rfl, Below.refl _ _⟩
/-- The form of any number: none outside the range. -/
def encI (n : Int) : ByteArray := if qB n then encB n.toNat else ⟨#[]⟩
theorem sEncI (n : Int) (w : World) : Calls Try.prog 10 #[.int .i64 n] w fun e w' => e = .returned (.string (encI n)) ∧ Below w.heap.size w w' := by
  cases h : qB n
  · have e : encI n = ⟨#[]⟩ := by simp [encI, h]
    rw [e]; exact sEnc0 n h w
  · obtain ⟨h0, h1⟩ := qB_true h
    obtain ⟨m, rfl⟩ := Int.eq_ofNat_of_zero_le h0
    have e : encI (m : Int) = encB m := by simp [encI, h]
    rw [e]; exact sEnc m (by omega) w
theorem iEncI (n : Int) (w : World) : Calls Try.prog 8 #[.int .i64 n] w fun e w' => e = .returned (.string (encI n)) ∧ Below w.heap.size w w' := by
  cases h : qB n
  · have e : encI n = ⟨#[]⟩ := by simp [encI, h]
    rw [e]; exact iEnc0 n h w
  · obtain ⟨h0, h1⟩ := qB_true h
    obtain ⟨m, rfl⟩ := Int.eq_ofNat_of_zero_le h0
    have e : encI (m : Int) = encB m := by simp [encI, h]
    rw [e]; exact iEnc m (by omega) w
end Go.Proofs.Ytadoiehgobcjcaa

namespace Go.Proofs.Ytadoiehgobcjcaa
open Go.ChangeShapes Go.WideShapes Go.ChangeAt Go.RowKit Go.Sort QM
set_option linter.unusedVariables false
set_option linter.unusedSimpArgs false
def strs (L : List ByteArray) : List Value := L.map Value.string
theorem strs_get (l : List ByteArray) (k : Nat) (h : k < l.length) : (strs l)[k]? = some (.string (l.getD k ⟨#[]⟩)) := by
  simp [strs, List.getElem?_eq_getElem h, List.getD_eq_getElem?_getD]
theorem Rd.str {w : World} {B : Nat} {A : Option Addr} {l : List ByteArray} (h : Rd w B A (strs l)) {k : Nat} (hk : k < l.length) : ∃ b off x, A = some ⟨b, off, none⟩ ∧ b < B ∧ Hid (l.getD k ⟨#[]⟩ = x) ∧ w.cell? ⟨b, off + k, none⟩ = some (.string x) := by
  obtain ⟨b, off, e, hb, hc⟩ := h k _ (strs_get l k hk)
  exact ⟨b, off, _, e, hb, Lib.hid rfl, hc⟩
/-- A text is drawn; block g alone was written. -/
def DrawT (w : World) (g : Nat) (P : ByteArray → Prop) (e : Ending) (w' : World) : Prop := (∃ s : ByteArray, P s ∧ e = .returned (.string s)) ∧ Cur w' g ∧ w.grownBy w' (some g)
theorem l1Pick_any {w : World} {g B : Nat} {A : Option Addr} {c n : Nat} {L : List ByteArray} (hr : Rd w B A (strs L)) (hne : ∀ b o, A = some ⟨b, o, none⟩ → b ≠ g) (hl : L.length = n) (h0 : 0 < n) (h1 : n ≤ 256) (hc : Cur w g) :
    Calls Try.prog 54 #[.pointer (some ⟨g, 0, none⟩), .slice A n c] w (DrawT w g fun x => x ∈ L) := by
  go_enter Try.func54, Try.ntmps54
  go_wp2_with fail
  refine (l1Below_any n h0 h1 hc).mono ?_
  rintro e w1 ⟨⟨x, ⟨hx0, hx1⟩, rfl⟩, hc1, hg1⟩
  obtain ⟨k, rfl⟩ := Int.eq_ofNat_of_zero_le hx0
  have hk : k < n := by omega
  have hr1 := hr.grown hg1 hne
  obtain ⟨b, off, x, rfl, hb, HX, c0⟩ := hr1.str (k := k) (by rw [hl]; exact hk)
  have hmem : x ∈ L := by
    have := HX.out
    rw [List.getD_eq_getElem?_getD, List.getElem?_eq_getElem (by rw [hl]; exact hk), Option.getD_some] at this
    rw [← this]; exact List.getElem_mem _
  clear hr hr1 HX
  go_wp2
  go_ret
  exact ⟨⟨x, hmem, rfl⟩, hc1, hg1⟩
/-- A number that fits the wire or nearly. -/
def NearQ (x : Int) : Prop := -1 ≤ x ∧ x ≤ 4611686018427387904
set_option maxRecDepth 20000 in
set_option maxHeartbeats 2000000 in
theorem l2Number_any {w : World} {g : Nat} (hc : Cur w g) : Calls Try.prog 45 #[.pointer (some ⟨g, 0, none⟩)] w (DrawI w g NearQ) := by
  go_enter Try.func45, Try.ntmps45
  go_wp2_with fail
  refine (l1Below_any 6 (by decide) (by decide) hc).mono ?_
  rintro e w1 ⟨⟨z, ⟨hz0, hz1⟩, rfl⟩, hc1, hg1⟩
  by_cases z0 : z = 0
  · have hz : (z == 0) = true := by simp; omega
    go_wp2_with fail
    have al := (Below.refl w1.heap.size w1).alloc (Nat.le_refl _) (.cells (ints [-1, 0, 63, 64, 16383, 16384, 1073741823, 1073741824, 4611686018427387903, 4611686018427387904]).toArray 3)
    have hr := lit_rd w1 3 (ints [-1, 0, 63, 64, 16383, 16384, 1073741823, 1073741824, 4611686018427387903, 4611686018427387904])
    refine (l1PickInt_any (n := 10) hr (fun b o e => by simp at e; have := hc1.lt; omega) rfl (by decide) (by decide) (hc1.below al hc1.lt)).mono ?_
    rintro e w4 ⟨⟨u, hu, rfl⟩, hc4, hg4⟩
    have hsu : NearQ u := by simp at hu; exact ⟨by omega, by omega⟩
    have hg := grown_trans hg1 (grown_trans (gb_of_below al _) hg4)
    clear hu hr al
    go_wp2
    go_ret
    exact ⟨⟨u, hsu, rfl⟩, hc4, hg⟩
  · have hz : (z == 0) = false := by simp; omega
    by_cases z1 : z = 1
    · have hz' : (z == 1) = true := by simp; omega
      go_wp2_with fail
      refine (l1Below_any 256 (by decide) (by decide) hc1).mono ?_
      rintro e w2 ⟨⟨x, ⟨hx0, hx1⟩, rfl⟩, hc2, hg2⟩
      go_wp2_with fail
      refine (l1Below_any 256 (by decide) (by decide) hc2).mono ?_
      rintro e w3 ⟨⟨y, ⟨hy0, hy1⟩, rfl⟩, hc3, hg3⟩
      obtain ⟨x, rfl⟩ := Int.eq_ofNat_of_zero_le hx0
      obtain ⟨y, rfl⟩ := Int.eq_ofNat_of_zero_le hy0
      have hb : x * 256 * y ≤ 16777216 := by
        have := Nat.mul_le_mul (show x * 256 ≤ 65536 by omega) (show y ≤ 256 by omega)
        omega
      have he : (x : Int) * 256 * (y : Int) = ((x * 256 * y : Nat) : Int) := by push_cast; rfl
      generalize x * 256 * y = q at hb he
      have hm : IntKind.i64.wrap ((x : Int) * 256 * (y : Int)) = (q : Int) := by rw [he]; exact IntWalk.i64_in _ (by omega)
      go_wp2
      go_ret
      exact ⟨⟨(q : Int), ⟨by omega, by omega⟩, rfl⟩, hc3, grown_trans hg1 (grown_trans hg2 hg3)⟩
    · have hz' : (z == 1) = false := by simp; omega
      go_wp2_with fail
      refine (l1Below_any 100 (by decide) (by decide) hc1).mono ?_
      rintro e w2 ⟨⟨x, ⟨hx0, hx1⟩, rfl⟩, hc2, hg2⟩
      go_wp2
      go_ret
      exact ⟨⟨_, ⟨by omega, by omega⟩, rfl⟩, hc2, grown_trans hg1 hg2⟩
theorem grown_below {a w w' : World} {row : Option Nat} (h : a.grownBy w row) (hb : Below w.heap.size w w') : a.grownBy w' row := grown_trans h (gb_of_below hb row)
theorem cur_step {w w' : World} {g : Nat} (h : Cur w g) (hb : Below w.heap.size w w') : Cur w' g := h.below hb h.lt
set_option maxRecDepth 20000 in
set_option maxHeartbeats 2000000 in
theorem l2Bytes_any {w : World} {g : Nat} (m : Nat) (hm : m ≤ 255) (hc : Cur w g) : Calls Try.prog 52 #[.pointer (some ⟨g, 0, none⟩), .int .i64 m] w (DrawT w g fun s => s.size ≤ m) := by
  go_enter Try.func52, Try.ntmps52
  go_wp2_with fail
  refine (l1Below_any (m + 1) (by omega) (by omega) hc).mono ?_
  rintro e w1 ⟨⟨x, ⟨hx0, hx1⟩, rfl⟩, hc1, hg1⟩
  obtain ⟨k0, rfl⟩ := Int.eq_ofNat_of_zero_le hx0
  go_wp2_with fail
  go_loopw [5, 6] (fun v i wr => ∃ (k : Nat) (s : ByteArray), i = .int .i64 k ∧ v = .string s ∧ s.size + k ≤ m ∧ Cur wr g ∧ w.grownBy wr (some g)) (fun v i _ => (intOf i).toNat)
  case atStart => exact ⟨k0, ⟨#[]⟩, rfl, rfl, by show 0 + k0 ≤ m; omega, hc1, hg1⟩
  case round =>
    obtain ⟨k, s, rfl, rfl, hsk, hcr, hgr⟩ := hrel
    clear hc1 hg1 hc
    by_cases h0 : 0 < k
    · have hd0 : decide ((0 : Int) < (k : Int)) = true := by simp; omega
      go_wp2_with fail
      refine (l1Below_any 256 (by decide) (by decide) hcr).mono ?_
      rintro e w3 ⟨⟨b, ⟨hb0, hb1⟩, rfl⟩, hc3, hg3⟩
      obtain ⟨b, rfl⟩ := Int.eq_ofNat_of_zero_le hb0
      have ho := one1_size b
      go_wp2_with fail
      refine (l2B _ b rfl (by omega) _).mono ?_
      rintro e w4 ⟨rfl, hb4⟩
      have hc4 := cur_step hc3 hb4
      have hg4 := grown_below (grown_trans hgr hg3) hb4
      clear hcr hgr hg3 hc3 hb4
      go_wp2
      go_roundw
      case rel => exact ⟨k - 1, s ++ one1 b, by go_num, rfl, by rw [ByteArray.size_append, ho]; omega, hc4, hg4⟩
      case measure => simp [intOf]; omega
    · have hd0 : decide ((0 : Int) < (k : Int)) = false := by simp; omega
      go_wp2
      go_ret
      exact ⟨⟨_, by omega, rfl⟩, hcr, hgr⟩
end Go.Proofs.Ytadoiehgobcjcaa
