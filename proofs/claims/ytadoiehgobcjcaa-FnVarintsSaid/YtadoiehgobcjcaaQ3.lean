/- spec.EncodeQuic: its contract. -/
import Derived.Test.YtadoiehgobcjcaaQ2
import Derived.Laws.Shifts
namespace Go.Proofs.Ytadoiehgobcjcaa
open Go.ChangeShapes Go.WideShapes Go.ChangeAt Go.RowKit QM
set_option linter.unusedVariables false
set_option linter.unusedSimpArgs false
theorem be_get (n : Nat) : ∀ (K j : Nat) (h : j < (be n K).length), (be n K)[j] = UInt8.ofNat (n / 256 ^ (K - 1 - j)) := by
  intro K
  induction K with
  | zero => intro j h; simp [be] at h
  | succ K ih =>
    intro j h
    cases j with
    | zero => simp [be]
    | succ j =>
      have h' : j < (be n K).length := by rw [be_len] at h ⊢; omega
      have := ih j h'
      simp only [be, List.getElem_cons_succ]
      rw [this]
      congr 3
      omega
theorem encQ_get (n j : Nat) (h : j < (encQ n).length) : (encQ n)[j] = UInt8.ofNat (n / 256 ^ (sizeQ n - 1 - j) + if j = 0 then tag (sizeQ n) else 0) := by
  cases j with
  | zero => simp [encQ]
  | succ j =>
    simp only [encQ, List.getElem_cons_succ]
    rw [be_get, if_neg (by omega), Nat.add_zero]
    congr 3
    omega
/-- the form's bytes but for the last i -/
def preQ (n i : Nat) : ByteArray := ⟨((encQ n).take (sizeQ n - i)).toArray⟩
def encB (n : Nat) : ByteArray := ⟨(encQ n).toArray⟩
theorem preQ_size (n i : Nat) : (preQ n i).size = sizeQ n - i := by
  show ((encQ n).take (sizeQ n - i)).toArray.size = sizeQ n - i
  rw [List.size_toArray, List.length_take, encQ_len]; omega
theorem preQ_top (n : Nat) : preQ n (sizeQ n) = ⟨#[]⟩ := by simp [preQ]
theorem preQ_end (n : Nat) : preQ n 0 = encB n := by
  unfold preQ encB
  rw [List.take_of_length_le (by rw [encQ_len]; omega)]
theorem preQ_step (n m c : Nat) (hm : m + 1 ≤ sizeQ n) (hc : c % 256 = (n / 256 ^ m + if m + 1 = sizeQ n then tag (sizeQ n) else 0) % 256) : preQ n (m + 1) ++ one1 c = preQ n m := by
  have hl : sizeQ n - (m + 1) < (encQ n).length := by rw [encQ_len]; omega
  have e : sizeQ n - m = sizeQ n - (m + 1) + 1 := by omega
  have eb : (encQ n)[sizeQ n - (m + 1)] = UInt8.ofNat c := by
    rw [encQ_get n _ hl]
    apply UInt8.toNat.inj
    rw [ofNat_toNat, ofNat_toNat, hc]
    have e1 : sizeQ n - 1 - (sizeQ n - (m + 1)) = m := by omega
    rw [e1]
    by_cases h : m + 1 = sizeQ n
    · rw [if_pos h, if_pos (by omega)]
    · rw [if_neg h, if_neg (by omega)]
  unfold preQ one1
  rw [e, List.take_succ_eq_append_getElem hl, eb]
  apply ByteArray.ext
  simp
theorem sizeI_nat (n : Nat) (hn : n ≤ 4611686018427387903) : sizeI (n : Int) = (sizeQ n : Int) := by
  unfold sizeI sizeQ
  rw [qB_in (by omega) (by omega)]
  simp only [if_true]
  by_cases h1 : n < 64
  · rw [if_pos (by omega), if_pos h1]; rfl
  · rw [if_neg (by omega), if_neg h1]
    by_cases h2 : n < 16384
    · rw [if_pos (by omega), if_pos h2]; rfl
    · rw [if_neg (by omega), if_neg h2]
      by_cases h3 : n < 1073741824
      · rw [if_pos (by omega), if_pos h3]; rfl
      · rw [if_neg (by omega), if_neg h3]; rfl
theorem sizeQ_cases (n : Nat) (hn : n ≤ 4611686018427387903) : (sizeQ n = 1 ∨ sizeQ n = 2 ∨ sizeQ n = 4 ∨ sizeQ n = 8) ∧ n / 256 ^ (sizeQ n - 1) < 64 := by
  unfold sizeQ
  by_cases h1 : n < 64
  · simp [h1]
  · by_cases h2 : n < 16384
    · simp only [h1, h2, if_true, if_false]; exact ⟨by simp, by show n / 256 < 64; omega⟩
    · by_cases h3 : n < 1073741824
      · simp only [h1, h2, h3, if_true, if_false]; exact ⟨by simp, by show n / 16777216 < 64; omega⟩
      · simp only [h1, h2, h3, if_true, if_false]; exact ⟨by simp, by show n / 72057594037927936 < 64; omega⟩
theorem or_tag (x a : Nat) (hx : x < 64) (ha : a < 4) : bits .or .i64 (x : Int) ((a * 64 : Nat) : Int) = ((x + a * 64 : Nat) : Int) := by
  have h := (bits_nat .i64 63 (by decide) wraps_i64_63 x (a * 64) (by omega) (by omega)).2
  have e : x ||| a * 64 = x + a * 64 := by
    have := Nat.shiftLeft_add_eq_or_of_lt (i := 6) (b := x) (by omega) a
    rw [Nat.shiftLeft_eq] at this
    rw [Nat.or_comm]
    have e6 : (2 : Nat) ^ 6 = 64 := rfl
    rw [e6] at this
    rw [← this]; omega
  rw [e] at h
  exact h
theorem shr_at (n m : Nat) : (n : Int) / 2 ^ (8 * m) = ((n / 256 ^ m : Nat) : Int) := by
  have e2 : ((2 : Int) ^ (8 * m)) = ((256 ^ m : Nat) : Int) := by
    rw [Int.pow_mul, Int.natCast_pow]
    rfl
  rw [e2, Int.natCast_ediv]
set_option maxHeartbeats 1000000 in
theorem sEnc (n : Nat) (hn : n ≤ 4611686018427387903) (w : World) : Calls Try.prog 10 #[.int .i64 n] w fun e w' => e = .returned (.string (encB n)) ∧ Below w.heap.size w w' := by
  have hk := sizeI_nat n hn
  obtain ⟨hk4, htop⟩ := sizeQ_cases n hn
  have hpt := Lib.hid (preQ_top n)
  have hpe := Lib.hid (preQ_end n)
  have hps := Lib.hid (preQ_size n)
  have hst := Lib.hid (preQ_step n)
  have htag := Lib.hid (fun (k : Nat) (h : sizeQ n = k) => congrArg tag h)
  have HK4 := Lib.hid hk4; have HT := Lib.hid htop; clear hk4 htop
  have hk1 : 1 ≤ sizeQ n := by have := HK4.out; omega
  have hk8 : sizeQ n ≤ 8 := by have := HK4.out; omega
  generalize hK : sizeQ n = k at *
  clear hK
  go_enter Try.func10, Try.ntmps10
  go_wp2_with (first | (go_at_call 48; refine (sSize _ _).mono ?_; rintro e w' ⟨rfl, rfl⟩))
  go_loopw [4, 5, 6] (fun s v _ w1 => ∃ (i : Nat) (z : Int), i ≤ k ∧ z + 1 = i ∧ v = .int .i64 z ∧ s = .string (preQ n i) ∧ Below w.heap.size w w1) (fun _ v _ _ => (intOf v + 1).toNat)
  case atStart => exact ⟨k, (k : Int) - 1, by omega, by omega, rfl, by rw [hpt.out], Below.refl _ _⟩
  case round =>
    obtain ⟨i, z, hi, hz, rfl, rfl, hb⟩ := hrel
    have hB := hb.size
    have HB := Lib.hid hb; clear hb
    cases i with
    | zero =>
      obtain rfl : z = -1 := by omega
      go_wp2
      go_ret
      exact ⟨ret_str hpe.out, HB.out⟩
    | succ m =>
      obtain rfl : z = m := by omega
      clear hz
      have hsh := shr_at n m
      have hqb : n / 256 ^ m ≤ 4611686018427387903 := Nat.le_trans (Nat.div_le_self _ _) hn
      have ha := and_255 (n / 256 ^ m) (by omega)
      obtain ⟨q, hq⟩ : ∃ q, n / 256 ^ m = q := ⟨_, rfl⟩
      rw [hq] at hsh ha hqb
      have HQ := Lib.hid hq
      by_cases hlt : m + 1 = k
      · have hq64 : q < 64 := by have := HT.out; rw [← hlt, Nat.add_sub_cancel, hq] at this; exact this
        have hr : q % 256 = q := by omega
        rw [hr] at ha
        clear hq hr
        have hr64 := hq64
        generalize hrr : q = r at *
        clear hrr
        have hz1 := hps.out (m + 1)
        rcases HK4.out with h | h | h | h
        · have hlo : 0 ≤ m := by omega
          have hhi : m ≤ 0 := by omega
          have hka : 1 ≤ k := by omega
          have hkb : k ≤ 1 := by omega
          have hstep := Lib.hid (hst.out m r (by omega) (by rw [HQ.out, if_pos (by omega), htag.out 1 (by omega), show tag 1 = 0 from rfl]; omega))
          clear hlt hq64 h
          have hz2 := one1_size r
          go_wp2_with (first | (go_at_call 49; refine (l2B _ r rfl (by omega) _).mono ?_; rintro e w' ⟨rfl, hb2⟩))
          exact ⟨⟨m, (m : Int) - 1, by omega, by omega, rfl, by rw [hstep.out], HB.out.trans (hb2.mono hB)⟩, by simp [intOf]⟩
        · have hlo : 1 ≤ m := by omega
          have hhi : m ≤ 1 := by omega
          have hka : 2 ≤ k := by omega
          have hkb : k ≤ 2 := by omega
          have ho : bits .or .i64 (r : Int) 64 = ((r + 1 * 64 : Nat) : Int) := or_tag r 1 (by omega) (by omega)
          obtain ⟨c, hc⟩ : ∃ c, r + 1 * 64 = c := ⟨_, rfl⟩
          rw [hc] at ho
          have hc2 : c < 256 := by omega
          have hstep := Lib.hid (hst.out m c (by omega) (by rw [HQ.out, if_pos (by omega), htag.out 2 (by omega), show tag 2 = 64 from rfl]; omega))
          clear hlt hq64 hc h
          have hz2 := one1_size c
          go_wp2_with (first | (go_at_call 49; refine (l2B _ c rfl (by omega) _).mono ?_; rintro e w' ⟨rfl, hb2⟩))
          exact ⟨⟨m, (m : Int) - 1, by omega, by omega, rfl, by rw [hstep.out], HB.out.trans (hb2.mono hB)⟩, by simp [intOf]⟩
        · have hlo : 3 ≤ m := by omega
          have hhi : m ≤ 3 := by omega
          have hka : 4 ≤ k := by omega
          have hkb : k ≤ 4 := by omega
          have ho : bits .or .i64 (r : Int) 128 = ((r + 2 * 64 : Nat) : Int) := or_tag r 2 (by omega) (by omega)
          obtain ⟨c, hc⟩ : ∃ c, r + 2 * 64 = c := ⟨_, rfl⟩
          rw [hc] at ho
          have hc2 : c < 256 := by omega
          have hstep := Lib.hid (hst.out m c (by omega) (by rw [HQ.out, if_pos (by omega), htag.out 4 (by omega), show tag 4 = 128 from rfl]; omega))
          clear hlt hq64 hc h
          have hz2 := one1_size c
          go_wp2_with (first | (go_at_call 49; refine (l2B _ c rfl (by omega) _).mono ?_; rintro e w' ⟨rfl, hb2⟩))
          exact ⟨⟨m, (m : Int) - 1, by omega, by omega, rfl, by rw [hstep.out], HB.out.trans (hb2.mono hB)⟩, by simp [intOf]⟩
        · have hlo : 7 ≤ m := by omega
          have hhi : m ≤ 7 := by omega
          have hka : 8 ≤ k := by omega
          have hkb : k ≤ 8 := by omega
          have ho : bits .or .i64 (r : Int) 192 = ((r + 3 * 64 : Nat) : Int) := or_tag r 3 (by omega) (by omega)
          obtain ⟨c, hc⟩ : ∃ c, r + 3 * 64 = c := ⟨_, rfl⟩
          rw [hc] at ho
          have hc2 : c < 256 := by omega
          have hstep := Lib.hid (hst.out m c (by omega) (by rw [HQ.out, if_pos (by omega), htag.out 8 (by omega), show tag 8 = 192 from rfl]; omega))
          clear hlt hq64 hc h
          have hz2 := one1_size c
          go_wp2_with (first | (go_at_call 49; refine (l2B _ c rfl (by omega) _).mono ?_; rintro e w' ⟨rfl, hb2⟩))
          exact ⟨⟨m, (m : Int) - 1, by omega, by omega, rfl, by rw [hstep.out], HB.out.trans (hb2.mono hB)⟩, by simp [intOf]⟩
      · obtain ⟨r, hr⟩ : ∃ r, q % 256 = r := ⟨_, rfl⟩
        rw [hr] at ha
        have hr2 : r < 256 := by omega
        have hz1 := hps.out (m + 1)
        have hz2 := one1_size r
        have hstep := Lib.hid (hst.out m r (by omega) (by rw [HQ.out, if_neg (by omega)]; omega))
        clear hq hr
        go_wp2_with (first | (go_at_call 49; refine (l2B _ r rfl (by omega) _).mono ?_; rintro e w' ⟨rfl, hb2⟩))
        exact ⟨⟨m, (m : Int) - 1, by omega, by omega, rfl, by rw [hstep.out], HB.out.trans (hb2.mono hB)⟩, by simp [intOf]⟩
end Go.Proofs.Ytadoiehgobcjcaa
