/- impl.EncodeQuic: its contract. -/
import Derived.Test.YtadoiehgobcjcaaQ3
import Derived.Test.YtadoiehgobcjcaaMemQ
namespace Go.Proofs.Ytadoiehgobcjcaa
open Go.ChangeShapes Go.WideShapes Go.ChangeAt Go.RowKit QM
set_option linter.unusedVariables false
set_option linter.unusedSimpArgs false
theorem info_u8 : (Try.prog.info? 5).map (fun i => (i.zero, i.size, i.bytes)) = some (some (.int .u8 0), 1, 1) := by kernel_rfl
theorem or_tag8 (x a : Nat) (hx : x < 64) (ha : a < 4) : bits .or .u8 (x : Int) ((a * 64 : Nat) : Int) = ((x + a * 64 : Nat) : Int) := by
  have h := (bits_nat .u8 8 (by decide) wraps_u8_8 x (a * 64) (by omega) (by omega)).2
  have e : x ||| a * 64 = x + a * 64 := by
    have := Nat.shiftLeft_add_eq_or_of_lt (i := 6) (b := x) (by omega) a
    rw [Nat.shiftLeft_eq] at this
    rw [Nat.or_comm]
    have e6 : (2 : Nat) ^ 6 = 64 := rfl
    rw [e6] at this
    rw [← this]; omega
  rw [e] at h
  exact h
/-- The form's bytes lie in the cells. -/
def FormAt (n : Nat) (cs : Array Value) : Prop := ∀ j (hj : j < (encQ n).length), cs[j]? = some (.int .u8 (((encQ n)[j]'hj).toNat : Int))
theorem conv_all (w : World) (g n k : Nat) (cs : Array Value) (hk : sizeQ n = k) (hb : Bk w g 5 cs) (hc : FormAt n cs) :
    (convert 22 9 (.slice (some ⟨g, 0, none⟩) k k)).run Try.prog w = .ok (.string (encB n)) w := by
  have h := run_convert_bytes_back (P := Try.prog) w 22 9 5 ⟨g, 0, none⟩ k (encQ n) Try.underlying22 Try.underlying5 Try.underlying9 (fun j hj => by
    have : (⟨g, 0, none⟩ : Addr).add j = ⟨g, 0 + j, none⟩ := by unfold Addr.add; split <;> simp_all
    rw [this, Nat.zero_add, hb.cell]
    exact hc j hj)
  rw [encQ_len, hk] at h
  exact h
/-- The plain bytes behind place i lie in the cells. -/
def TailAt (n k i : Nat) (cs : Array Value) : Prop := ∀ j, i ≤ j → j < k → cs[j]? = some (.int .u8 ((n / 256 ^ (k - 1 - j) % 256 : Nat) : Int))
theorem TailAt.set {n k m q : Nat} {cs : Array Value} {c : Int} (h : TailAt n k (m + 1) cs) (hm : m + 1 ≤ k) (hs : cs.size = k) (hq : n / 256 ^ (k - (m + 1)) = q) (hc : c = ((q % 256 : Nat) : Int)) : TailAt n k m (cs.setIfInBounds m (.int .u8 c)) := by
  intro j hj hjk
  by_cases e : j = m
  · subst e
    have e1 : k - 1 - j = k - (j + 1) := by omega
    rw [e1, hq, hc]
    simp [Array.getElem?_setIfInBounds]; omega
  · rw [← h j (by omega) hjk]
    simp [Array.getElem?_setIfInBounds]
    intro e'; omega
theorem TailAt.first {n k : Nat} {cs : Array Value} (h : TailAt n k 0 cs) (hk : 1 ≤ k) (ht : n / 256 ^ (k - 1) < 64) : cs[0]? = some (.int .u8 ((n / 256 ^ (k - 1) : Nat) : Int)) := by
  rw [h 0 (by omega) (by omega)]
  have e : k - 1 - 0 = k - 1 := by omega
  rw [e, Nat.mod_eq_of_lt (by omega)]
theorem TailAt.form {n k : Nat} {cs : Array Value} (h : TailAt n k 0 cs) (hk : sizeQ n = k) (h0 : tag k = 0) : FormAt n cs := by
  intro j hj
  rw [h j (by omega) (by rw [encQ_len, hk] at hj; exact hj), encQ_get, hk, h0, ofNat_toNat]
  split <;> rfl
theorem TailAt.form_tag {n k t : Nat} {cs : Array Value} {c : Int} (h : TailAt n k 0 cs) (hk : sizeQ n = k) (h0 : tag k = t) (ht : t < 256) (hs : cs.size = k) (h1 : 1 ≤ k) (h64 : n / 256 ^ (k - 1) < 64) (ht2 : t ≤ 192) (hc : c = ((n / 256 ^ (k - 1) + t : Nat) : Int)) : FormAt n (cs.setIfInBounds 0 (.int .u8 c)) := by
  intro j hj
  rw [encQ_get, hk, h0, ofNat_toNat]
  by_cases e : j = 0
  · subst e
    have e1 : k - 1 - 0 = k - 1 := by omega
    have hlt : n / 256 ^ (k - 1) + t < 256 := Nat.lt_of_lt_of_le (Nat.add_lt_add_right h64 t) (by omega)
    rw [e1, if_pos rfl, Nat.mod_eq_of_lt hlt, ← hc, Array.getElem?_setIfInBounds, if_pos rfl, if_pos (by omega)]
  · rw [if_neg e, Nat.add_zero, ← h j (by omega) (by rw [encQ_len, hk] at hj; exact hj)]
    simp [Array.getElem?_setIfInBounds]
    intro e'; omega
set_option maxHeartbeats 2000000 in
theorem iEnc (n : Nat) (hn : n ≤ 4611686018427387903) (w : World) : Calls Try.prog 8 #[.int .i64 n] w fun e w' => e = .returned (.string (encB n)) ∧ Below w.heap.size w w' := by
  have hk := sizeI_nat n hn
  obtain ⟨hk4, htop⟩ := sizeQ_cases n hn
  have HK4 := Lib.hid hk4; have HT := Lib.hid htop; clear hk4 htop
  have hk1 : 1 ≤ sizeQ n := by have := HK4.out; omega
  have hk8 : sizeQ n ≤ 8 := by have := HK4.out; omega
  generalize hK : sizeQ n = k at *
  have HKK := Lib.hid hK; clear hK
  obtain ⟨i0, hi, hz0, hz1, hz2⟩ := info_parts info_u8
  have hmk := fun W => run_make (P := Try.prog) W 22 5 i0 (.int .u8 0) Try.underlying22 hi hz0 .i64 .i64 (k : Int) (k : Int) (by omega) (by omega) (by rw [hz2]; omega) (by omega)
  simp only [Int.toNat_natCast, hz1] at hmk
  go_enter Try.func8, Try.ntmps8
  go_wp2_with (first | (go_at_call 11; refine (iSize _ _).mono ?_; rintro e w' ⟨rfl, rfl⟩))
  have hb1 : Below w.heap.size w (w.alloc (.cells (madeCells #[.int .u8 0] k) 5)) := (Below.refl _ _).alloc (Nat.le_refl _) _
  have hB1 : Bk (w.alloc (.cells (madeCells #[.int .u8 0] k) 5)) w.heap.size 5 (madeCells #[.int .u8 0] k) := heap_alloc_new w _
  generalize (w.alloc (.cells (madeCells #[.int .u8 0] k) 5)) = w1 at hb1 hB1 ⊢
  have HB1 := Lib.hid hB1; clear hB1
  have HB0 := Lib.hid hb1; clear hb1
  clear hmk hi hz0 hz1 hz2
  go_loopw [0, 5] (fun x v wr => ∃ (i q : Nat) (z : Int) (cs : Array Value), i ≤ k ∧ z + 1 = i ∧ v = .int .i64 z ∧ x = .int .i64 (q : Int) ∧ n / 256 ^ (k - i) = q ∧ Bk wr w.heap.size 5 cs ∧ cs.size = k ∧ TailAt n k i cs ∧ Below w.heap.size w wr) (fun _ v _ => (intOf v + 1).toNat)
  case atStart => exact ⟨k, n, (k : Int) - 1, _, by omega, by omega, rfl, rfl, by simp, HB1.out, size_madeCells _ _, fun j h h' => by omega, HB0.out⟩
  case round =>
    obtain ⟨i, q, z, cs, hi, hz, rfl, rfl, hq, hbk, hcs, htl, hbw⟩ := hrel
    have HBK := Lib.hid hbk; clear hbk
    have HCS := Lib.hid hcs; clear hcs
    have HTL := Lib.hid htl; clear htl
    have HBW := Lib.hid hbw; clear hbw
    have hqn : q ≤ 4611686018427387903 := by rw [← hq]; exact Nat.le_trans (Nat.div_le_self _ _) hn
    have HQ := Lib.hid hq; clear hq
    clear HB0 HB1
    cases i with
    | succ m =>
      obtain rfl : z = m := by omega
      clear hz
      have d0 : wr.cell? ⟨w.heap.size, m, none⟩ = some (cs[m]'(by rw [HCS.out]; omega)) := by rw [HBK.out.cell, Array.getElem?_eq_getElem]
      have f0 := HBK.out.frozen m
      generalize cs[m]'(by rw [HCS.out]; omega) = o0 at d0
      have HBK3 := Lib.hid (HBK.out.set_ m (.int .u8 ((q : Int) % 256)))
      have HBW3 := Lib.hid (HBW.out.setCell (p := ⟨w.heap.size, m, none⟩) (Nat.le_refl _) (.int .u8 ((q : Int) % 256)))
      have HTL3 := Lib.hid (HTL.out.set (c := (q : Int) % 256) hi HCS.out HQ.out (by omega))
      have HQ3 := Lib.hid (show n / 256 ^ (k - m) = q / 256 by
        have e : k - m = k - (m + 1) + 1 := by omega
        rw [e, Nat.pow_succ, ← Nat.div_div_eq_div_mul, HQ.out])
      go_wp2
      go_roundw
      case rel => exact ⟨m, q / 256, (m : Int) - 1, _, by omega, by omega, rfl, by go_num, HQ3.out, HBK3.out, by simp [HCS.out], HTL3.out, HBW3.out⟩
      case measure => simp [intOf]
    | zero =>
      obtain rfl : z = -1 := by omega
      clear hz
      have d0 := (HBK.out.cell 0).trans (HTL.out.first hk1 HT.out)
      have f0 := HBK.out.frozen 0
      obtain ⟨r, hr⟩ : ∃ r, n / 256 ^ (k - 1) = r := ⟨_, rfl⟩
      have hr64 : r < 64 := by rw [← hr]; exact HT.out
      rw [hr] at d0
      have HR := Lib.hid hr; clear hr
      rcases HK4.out with h | h | h | h
      · have hka : 1 ≤ k := by omega
        have hkb : k ≤ 1 := by omega
        have htg : tag k = 0 := by rw [h]; rfl
        have hcv := conv_all _ _ n k _ HKK.out HBK.out (HTL.out.form HKK.out htg)
        clear h htg
        go_wp2
        go_ret
        exact ⟨rfl, HBW.out⟩
      · have hka : 2 ≤ k := by omega
        have hkb : k ≤ 2 := by omega
        have htg : tag k = 64 := by rw [h]; rfl
        have ho : bits .or .u8 (r : Int) 64 = ((r + 1 * 64 : Nat) : Int) := or_tag8 r 1 (by omega) (by omega)
        obtain ⟨c, hc⟩ : ∃ c, r + 1 * 64 = c := ⟨_, rfl⟩
        rw [hc] at ho
        have hf := HTL.out.form_tag (c := (c : Int)) HKK.out htg (by omega) HCS.out hk1 HT.out (by omega) (by rw [HR.out]; omega)
        have HC := Lib.hid hc
        have HBK3 := HBK.out.set_ 0 (.int .u8 (c : Int))
        have HBW3 := Lib.hid (HBW.out.setCell (p := ⟨w.heap.size, 0, none⟩) (Nat.le_refl _) (.int .u8 (c : Int)))
        have hcv := conv_all _ _ n k _ HKK.out HBK3 hf
        clear h htg hf HBK3 hc
        go_wp2
        go_ret
        exact ⟨rfl, HBW3.out⟩
      · have hka : 4 ≤ k := by omega
        have hkb : k ≤ 4 := by omega
        have htg : tag k = 128 := by rw [h]; rfl
        have ho : bits .or .u8 (r : Int) 128 = ((r + 2 * 64 : Nat) : Int) := or_tag8 r 2 (by omega) (by omega)
        obtain ⟨c, hc⟩ : ∃ c, r + 2 * 64 = c := ⟨_, rfl⟩
        rw [hc] at ho
        have hf := HTL.out.form_tag (c := (c : Int)) HKK.out htg (by omega) HCS.out hk1 HT.out (by omega) (by rw [HR.out]; omega)
        have HC := Lib.hid hc
        have HBK3 := HBK.out.set_ 0 (.int .u8 (c : Int))
        have HBW3 := Lib.hid (HBW.out.setCell (p := ⟨w.heap.size, 0, none⟩) (Nat.le_refl _) (.int .u8 (c : Int)))
        have hcv := conv_all _ _ n k _ HKK.out HBK3 hf
        clear h htg hf HBK3 hc
        go_wp2
        go_ret
        exact ⟨rfl, HBW3.out⟩
      · have hka : 8 ≤ k := by omega
        have hkb : k ≤ 8 := by omega
        have htg : tag k = 192 := by rw [h]; rfl
        have ho : bits .or .u8 (r : Int) 192 = ((r + 3 * 64 : Nat) : Int) := or_tag8 r 3 (by omega) (by omega)
        obtain ⟨c, hc⟩ : ∃ c, r + 3 * 64 = c := ⟨_, rfl⟩
        rw [hc] at ho
        have hf := HTL.out.form_tag (c := (c : Int)) HKK.out htg (by omega) HCS.out hk1 HT.out (by omega) (by rw [HR.out]; omega)
        have HC := Lib.hid hc
        have HBK3 := HBK.out.set_ 0 (.int .u8 (c : Int))
        have HBW3 := Lib.hid (HBW.out.setCell (p := ⟨w.heap.size, 0, none⟩) (Nat.le_refl _) (.int .u8 (c : Int)))
        have hcv := conv_all _ _ n k _ HKK.out HBK3 hf
        clear h htg hf HBK3 hc
        go_wp2
        go_ret
        exact ⟨rfl, HBW3.out⟩
end Go.Proofs.Ytadoiehgobcjcaa
