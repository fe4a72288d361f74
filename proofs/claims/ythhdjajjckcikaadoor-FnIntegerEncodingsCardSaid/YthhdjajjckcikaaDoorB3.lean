/- EncodeFixed, DecodeFixed: one contract for each package. No conditions. -/
import Derived.Test.YthhdjajjckcikaaDoorB1
namespace Go.Proofs.YthhdjajjckcikaaDoor
open Go.ChangeShapes Go.WideShapes Go.ChangeAt Go.RowKit Go.Sort QM
set_option linter.unusedVariables false
set_option linter.unusedSimpArgs false
theorem sFix0 (n k : Int) (h : k < 1 ∨ 7 < k ∨ n < 0) (w : World) : Calls Tryd.prog 12 #[.int .i64 n, .int .i64 k] w fun e w' => e = .returned (.string ⟨#[]⟩) ∧ Below w.heap.size w w' := by
  cases hb : (decide ((1 : Int) ≤ k) && decide (k ≤ 7))
  · go_enter Tryd.func12, Tryd.ntmps12
    go_wp2_with (first | (go_at_call 23; refine (l1In_any _ _ _ _).mono ?_; rintro e w' ⟨rfl, rfl⟩))
    go_ret
    exact ⟨rfl, Below.refl _ _⟩
  · have hd : decide (n < 0) = true := by simp at hb ⊢; omega
    go_enter Tryd.func12, Tryd.ntmps12
    go_wp2_with (first | (go_at_call 23; refine (l1In_any _ _ _ _).mono ?_; rintro e w' ⟨rfl, rfl⟩))
    go_ret
    exact ⟨rfl, Below.refl _ _⟩
theorem iFix0 (n k : Int) (h : k < 1 ∨ 7 < k ∨ n < 0) (w : World) : Calls Tryd.prog 10 #[.int .i64 n, .int .i64 k] w fun e w' => e = .returned (.string ⟨#[]⟩) ∧ Below w.heap.size w w' := by
  cases hb : (decide ((1 : Int) ≤ k) && decide (k ≤ 7))
  · go_enter Tryd.func10, Tryd.ntmps10
    go_wp2_with (first | (go_at_call 21; refine (within_any _ _ _ _).mono ?_; rintro e w' ⟨rfl, rfl⟩))
    go_ret
    exact ⟨rfl, Below.refl _ _⟩
  · have hd : decide (n < 0) = true := by simp at hb ⊢; omega
    go_enter Tryd.func10, Tryd.ntmps10
    go_wp2_with (first | (go_at_call 21; refine (within_any _ _ _ _).mono ?_; rintro e w' ⟨rfl, rfl⟩))
    go_ret
    exact ⟨rfl, Below.refl _ _⟩
/-- The plain bytes behind place i lie in the cells. -/
def FxAt (n k i : Nat) (cs : Array Value) : Prop := ∀ j, i ≤ j → j < k → cs[j]? = some (.int .u8 ((n / 256 ^ (k - 1 - j) % 256 : Nat) : Int))
theorem FxAt.set {n k m q : Nat} {cs : Array Value} {c : Int} (h : FxAt n k (m + 1) cs) (hm : m + 1 ≤ k) (hs : cs.size = k) (hq : n / 256 ^ (k - (m + 1)) = q) (hc : c = ((q % 256 : Nat) : Int)) : FxAt n k m (cs.setIfInBounds m (.int .u8 c)) := by
  intro j hj hjk
  by_cases e : j = m
  · subst e
    have e1 : k - 1 - j = k - (j + 1) := by omega
    rw [e1, hq, hc]
    simp [Array.getElem?_setIfInBounds]; omega
  · rw [← h j (by omega) hjk]
    simp [Array.getElem?_setIfInBounds]
    intro e'; omega
theorem conv_fx (w : World) (g n k : Nat) (cs : Array Value) (hb : Bk w g 5 cs) (hc : FxAt n k 0 cs) :
    (convert 22 9 (.slice (some ⟨g, 0, none⟩) k k)).run Tryd.prog w = .ok (.string (beB n k)) w := by
  have hl := be_len n k
  have h := run_convert_bytes_back (P := Tryd.prog) w 22 9 5 ⟨g, 0, none⟩ k (be n k) Tryd.underlying22 Tryd.underlying5 Tryd.underlying9 (fun j hj => by
    have : (⟨g, 0, none⟩ : Addr).add j = ⟨g, 0 + j, none⟩ := by unfold Addr.add; split <;> simp_all
    rw [this, Nat.zero_add, hb.cell, hc j (Nat.zero_le _) (by omega), be_get, ofNat_toNat])
  rw [hl] at h
  exact h
set_option maxHeartbeats 2000000 in
theorem iFix (n k : Nat) (hn : n ≤ 9223372036854775807) (hk : 1 ≤ k) (hk7 : k ≤ 7) (w : World) : Calls Tryd.prog 10 #[.int .i64 n, .int .i64 k] w fun e w' => e = .returned (.string (fixV n k)) ∧ Below w.heap.size w w' := by
  have hd1 : (decide ((1 : Int) ≤ (k : Int)) && decide ((k : Int) ≤ 7)) = true := by simp; omega
  have hd : decide ((n : Int) < 0) = false := by simp
  have hsh := shr_at n k
  obtain ⟨q0, hq0⟩ : ∃ q, n / 256 ^ k = q := ⟨_, rfl⟩
  rw [hq0] at hsh
  by_cases h0 : 0 < q0
  · have hx : fixV n k = ⟨#[]⟩ := fixV_out hq0 h0
    have HQ0 := Lib.hid hq0; clear hq0
    rw [hx]
    go_enter Tryd.func10, Tryd.ntmps10
    go_wp2_with (first | (go_at_call 21; refine (within_any _ _ _ _).mono ?_; rintro e w' ⟨rfl, rfl⟩))
    go_ret
    exact ⟨rfl, Below.refl _ _⟩
  · obtain rfl : q0 = 0 := by omega
    have HX := Lib.hid (fixV_in hq0 h0)
    clear hq0
    obtain ⟨i0, hi, hz0, hz1, hz2⟩ := info_parts info_byte
    have hmk := fun W => run_make (P := Tryd.prog) W 22 5 i0 (.int .u8 0) Tryd.underlying22 hi hz0 .i64 .i64 (k : Int) (k : Int) (by omega) (by omega) (by rw [hz2]; omega) (by omega)
    simp only [Int.toNat_natCast, hz1] at hmk
    go_enter Tryd.func10, Tryd.ntmps10
    go_wp2_with (first | (go_at_call 21; refine (within_any _ _ _ _).mono ?_; rintro e w' ⟨rfl, rfl⟩))
    have hb1 : Below w.heap.size w (w.alloc (.cells (madeCells #[.int .u8 0] k) 5)) := (Below.refl _ _).alloc (Nat.le_refl _) _
    have hB1 : Bk (w.alloc (.cells (madeCells #[.int .u8 0] k) 5)) w.heap.size 5 (madeCells #[.int .u8 0] k) := heap_alloc_new w _
    generalize (w.alloc (.cells (madeCells #[.int .u8 0] k) 5)) = w1 at hb1 hB1 ⊢
    have HB1 := Lib.hid hB1; clear hB1
    have HB0 := Lib.hid hb1; clear hb1
    clear hmk hi hz0 hz1 hz2 hsh
    go_loopw [0, 6] (fun x v wr => ∃ (i q : Nat) (z : Int) (cs : Array Value), i ≤ k ∧ z + 1 = i ∧ v = .int .i64 z ∧ x = .int .i64 (q : Int) ∧ n / 256 ^ (k - i) = q ∧ Bk wr w.heap.size 5 cs ∧ cs.size = k ∧ FxAt n k i cs ∧ Below w.heap.size w wr) (fun _ v _ => (intOf v + 1).toNat)
    case atStart => exact ⟨k, n, (k : Int) - 1, _, by omega, by omega, rfl, rfl, by simp, HB1.out, size_madeCells _ _, fun j h h' => by omega, HB0.out⟩
    case round =>
      obtain ⟨i, q, z, cs, hi, hz, rfl, rfl, hq, hbk, hcs, htl, hbw⟩ := hrel
      have HBK := Lib.hid hbk; clear hbk
      have HCS := Lib.hid hcs; clear hcs
      have HTL := Lib.hid htl; clear htl
      have HBW := Lib.hid hbw; clear hbw
      have hqn : q ≤ 9223372036854775807 := by rw [← hq]; exact Nat.le_trans (Nat.div_le_self _ _) hn
      have HQ := Lib.hid hq; clear hq
      clear HB0 HB1
      cases i with
      | succ m =>
        obtain rfl : z = m := by omega
        clear hz
        have d0 : wr.cell? ⟨w.heap.size, m, none⟩ = some (cs[m]'(by rw [HCS.out]; omega)) := by rw [HBK.out.cell, Array.getElem?_eq_getElem]
        have f0 := HBK.out.frozen m
        generalize cs[m]'(by rw [HCS.out]; omega) = o0 at d0
        have HBK3 := Lib.hid (HBK.out.set_ m (.int .u8 ((q : Int) % 256)))
        have HBW3 := Lib.hid (HBW.out.setCell (p := ⟨w.heap.size, m, none⟩) (Nat.le_refl _) (.int .u8 ((q : Int) % 256)))
        have HTL3 := Lib.hid (HTL.out.set (c := (q : Int) % 256) hi HCS.out HQ.out (by omega))
        have HQ3 := Lib.hid (show n / 256 ^ (k - m) = q / 256 by
          have e : k - m = k - (m + 1) + 1 := by omega
          rw [e, Nat.pow_succ, ← Nat.div_div_eq_div_mul, HQ.out])
        go_wp2
        go_roundw
        case rel => exact ⟨m, q / 256, (m : Int) - 1, _, by omega, by omega, rfl, by go_num, HQ3.out, HBK3.out, by simp [HCS.out], HTL3.out, HBW3.out⟩
        case measure => simp [intOf]
      | zero =>
        obtain rfl : z = -1 := by omega
        clear hz
        have hcv := conv_fx _ _ n k _ HBK.out HTL.out
        go_wp2
        go_ret
        exact ⟨ret_str HX.out.symm, HBW.out⟩
def fixI (n k : Int) : ByteArray := if 0 ≤ n ∧ 1 ≤ k ∧ k ≤ 7 then fixV n.toNat k.toNat else ⟨#[]⟩
theorem fix_cases (n k : Int) : (k < 1 ∨ 7 < k ∨ n < 0) ∨ ∃ N K : Nat, n = N ∧ k = K ∧ 1 ≤ K ∧ K ≤ 7 := by
  by_cases h : k < 1 ∨ 7 < k ∨ n < 0
  · exact .inl h
  · exact .inr ⟨n.toNat, k.toNat, by omega, by omega, by omega, by omega⟩
theorem fixI_out {n k : Int} (h : k < 1 ∨ 7 < k ∨ n < 0) : fixI n k = ⟨#[]⟩ := by unfold fixI; rw [if_neg (by omega)]
theorem fixI_in {n k : Nat} (h1 : 1 ≤ k) (h2 : k ≤ 7) : fixI n k = fixV n k := by unfold fixI; rw [if_pos (by omega)]; simp
theorem sFixI (n k : Int) (hn : n ≤ 9223372036854775807) (w : World) : Calls Tryd.prog 12 #[.int .i64 n, .int .i64 k] w fun e w' => e = .returned (.string (fixI n k)) ∧ Below w.heap.size w w' := by
  rcases fix_cases n k with h | ⟨N, K, rfl, rfl, h1, h2⟩
  · rw [fixI_out h]; exact sFix0 n k h w
  · rw [fixI_in h1 h2]; exact fixS N K (by omega) h1 h2 w
theorem iFixI (n k : Int) (hn : n ≤ 9223372036854775807) (w : World) : Calls Tryd.prog 10 #[.int .i64 n, .int .i64 k] w fun e w' => e = .returned (.string (fixI n k)) ∧ Below w.heap.size w w' := by
  rcases fix_cases n k with h | ⟨N, K, rfl, rfl, h1, h2⟩
  · rw [fixI_out h]; exact iFix0 n k h w
  · rw [fixI_in h1 h2]; exact iFix N K (by omega) h1 h2 w
def vl (s : ByteArray) (j : Nat) : Nat := val 0 ((bl s).take j)
theorem vl_zero (s : ByteArray) : vl s 0 = 0 := by simp [vl, val]
theorem vl_succ (s : ByteArray) (j : Nat) (h : j < s.size) : vl s (j + 1) = vl s j * 256 + (s[j]'h).toNat := by
  unfold vl
  have hl : j < (bl s).length := by rw [bl_len]; exact h
  rw [List.take_succ_eq_append_getElem hl, val_snoc, bl_get s j h]
theorem vl_lt (s : ByteArray) (j : Nat) (hj : j ≤ 6) : vl s j < 281474976710656 := by
  unfold vl
  have h := val_lt ((bl s).take j) 0
  have hl : ((bl s).take j).length ≤ 6 := by rw [List.length_take]; omega
  generalize ((bl s).take j).length = m at h hl
  have h1 : (256 : Nat) ^ m ≤ 256 ^ 6 := Nat.pow_le_pow_right (by decide) hl
  omega
def dfV (s : ByteArray) (k : Int) : Value := if 1 ≤ k ∧ k ≤ 7 ∧ k ≤ s.size then .tuple #[.int .i64 (vl s k.toNat : Nat), .bool true] else .tuple #[.int .i64 0, .bool false]
theorem dfV_out {s : ByteArray} {k : Int} (h : k < 1 ∨ 7 < k ∨ (s.size : Int) < k) : dfV s k = .tuple #[.int .i64 0, .bool false] := by unfold dfV; rw [if_neg (by omega)]
theorem dfV_in {s : ByteArray} {k : Nat} (h1 : 1 ≤ k) (h2 : k ≤ 7) (h3 : k ≤ s.size) : dfV s k = .tuple #[.int .i64 (vl s k : Nat), .bool true] := by unfold dfV; rw [if_pos (by omega)]; simp
theorem iDF (s : ByteArray) (k : Int) (hs : s.size ≤ 1048576) (w : World) : Calls Tryd.prog 11 #[.string s, .int .i64 k] w fun e w' => e = .returned (dfV s k) ∧ w = w' := by
  cases hb : (decide ((1 : Int) ≤ k) && decide (k ≤ 7))
  · rw [dfV_out (by simp at hb; omega)]
    go_enter Tryd.func11, Tryd.ntmps11
    go_wp2_with (first | (go_at_call 21; refine (within_any _ _ _ _).mono ?_; rintro e w' ⟨rfl, rfl⟩))
    go_ret2
    exact ⟨rfl, rfl⟩
  · have h1 : 1 ≤ k ∧ k ≤ 7 := by simpa using hb
    by_cases h3 : (s.size : Int) < k
    · have hd : decide ((s.size : Int) < k) = true := by simpa using h3
      rw [dfV_out (by omega)]
      go_enter Tryd.func11, Tryd.ntmps11
      go_wp2_with (first | (go_at_call 21; refine (within_any _ _ _ _).mono ?_; rintro e w' ⟨rfl, rfl⟩))
      go_ret2
      exact ⟨rfl, rfl⟩
    · have hd : decide ((s.size : Int) < k) = false := by simp; omega
      obtain ⟨K, rfl⟩ : ∃ K : Nat, k = K := ⟨k.toNat, by omega⟩
      have hK1 : 1 ≤ K := by omega
      have hK7 : K ≤ 7 := by omega
      have hKs : K ≤ s.size := by omega
      rw [dfV_in hK1 hK7 hKs]
      clear h1 h3
      go_enter Tryd.func11, Tryd.ntmps11
      go_wp2_with (first | (go_at_call 21; refine (within_any _ _ _ _).mono ?_; rintro e w' ⟨rfl, rfl⟩))
      go_loop [6, 18] (fun n i => ∃ j : Nat, j ≤ K ∧ i = .int .i64 j ∧ n = .int .i64 (vl s j : Nat)) (fun n i => K - (intOf i).toNat)
      case atStart => exact ⟨0, by omega, rfl, by rw [vl_zero]; rfl⟩
      case round =>
        obtain ⟨j, hj, rfl, rfl⟩ := hrel
        by_cases hlt : j < K
        · have hb1 : j < s.size := by omega
          have hv := vl_lt s j (by omega)
          have hs' := Lib.hid (vl_succ s j hb1)
          generalize hx : vl s j = x at hv hs'
          go_wp2
          go_round
          case rel => exact ⟨j + 1, by omega, by go_num, ret_i ((or_at s x _ _ hb1 _ (by omega) (by omega)).trans (by rw [hs'.out]))⟩
          case measure => simp [intOf]; omega
        · obtain rfl : j = K := by omega
          go_wp2
          go_ret2
          exact ⟨rfl, rfl⟩
end Go.Proofs.YthhdjajjckcikaaDoor
