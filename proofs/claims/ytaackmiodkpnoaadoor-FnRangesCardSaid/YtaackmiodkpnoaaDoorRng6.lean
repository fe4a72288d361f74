/- Contracts of the functions that read a slice of ranges, fourth part: CountNumbers, FirstGap. No conditions. -/
import Derived.Test.YtaackmiodkpnoaaDoorRng4
namespace Go.Proofs.YtaackmiodkpnoaaDoor
open Go.ChangeShapes Go.WideShapes Go.ChangeAt Go.RowKit Go.Sort RM
set_option linter.unusedVariables false
theorem getD_get {l : List R} {k : Nat} {x y : Int} (hk : k < l.length) (h : l.getD k (0, 0) = (x, y)) : l[k] = (x, y) := by
  rw [List.getD_eq_getElem?_getD, List.getElem?_eq_getElem hk] at h; exact h
theorem take_snoc {l : List R} {k : Nat} {x y : Int} (hk : k < l.length) (h : l.getD k (0, 0) = (x, y)) : l.take (k + 1) = l.take k ++ [(x, y)] := by
  rw [List.take_succ_eq_append_getElem hk, getD_get hk h]
theorem cnt_snoc {l : List R} {k : Nat} {x y : Int} (hk : k < l.length) (h : l.getD k (0, 0) = (x, y)) : cnt (l.take (k + 1)) = cnt (l.take k) + (y - x) := by
  rw [take_snoc hk h, cnt_append]; simp [cnt]
theorem rng_bd {l : List R} {k : Nat} {x y : Int} (hl : isRs l = true) (hk : k < l.length) (h : l.getD k (0, 0) = (x, y)) : 0 ≤ x ∧ x < y ∧ y ≤ 4611686018427387903 := by
  have := isRs_get hl k hk
  rw [getD_get hk h] at this
  exact this
theorem gap_snoc {l : List R} {k : Nat} {x y : Int} (g : Int) (hk : k < l.length) (h : l.getD k (0, 0) = (x, y)) : (l.take (k + 1)).foldl gapStep g = gapStep ((l.take k).foldl gapStep g) (x, y) := by
  rw [take_snoc hk h, List.foldl_append]; rfl
theorem gap_all {l : List R} {n k : Nat} (hl : l.length = n) (hk : n ≤ k) : l.take k = l := List.take_of_length_le (by omega)
theorem gap_lo {l : List R} {g : Int} (h : isRs l = false) : gap l g = -1 := by unfold gap; rw [h]; rfl
theorem gap_neg {l : List R} {g : Int} (h : g < 0) : gap l g = -1 := by
  unfold gap
  have : decide (0 ≤ g) = false := by simp; omega
  rw [this]; simp
theorem gap_in {l : List R} {g : Int} (h : isRs l = true) (h0 : 0 ≤ g) : gap l g = l.foldl gapStep g := by
  unfold gap
  have : decide (0 ≤ g) = true := by simpa using h0
  rw [h, this]; simp
theorem gapStep_in {g x y : Int} (h1 : x ≤ g) (h2 : g < y) : gapStep g (x, y) = y := by unfold gapStep; rw [if_pos ⟨h1, h2⟩]
theorem gapStep_out {g x y : Int} (h : ¬ (x ≤ g ∧ g < y)) : gapStep g (x, y) = g := by unfold gapStep; rw [if_neg h]
theorem sGap {A : Option Addr} {c n : Nat} {w : World} {B : Nat} {l : List R} (hB : B ≤ w.heap.size) (hr : Rd w B A (encR l)) (hm : n ≤ 9223372036854775807) (HL : Hid (l.length = n)) (v : Int) :
    Calls Tryd.prog 23 #[.slice A n c, .int .i64 v] w fun e w' => e = .returned (.int .i64 (gap l v)) ∧ Below w.heap.size w w' := by
  cases hi : isRs l
  · have HG := Lib.hid (gap_lo (g := v) hi)
    go_enter Tryd.func23, Tryd.ntmps23
    go_wp2_with (go_at_call 18; refine (sIs hB hr hm HL).mono ?_; rintro e w1 ⟨rfl, hb1⟩)
    go_ret
    exact ⟨ret_int HG.out.symm, by assumption⟩
  · by_cases hv : v < 0
    · have HG := Lib.hid (gap_neg (l := l) hv)
      go_enter Tryd.func23, Tryd.ntmps23
      go_wp2_with (go_at_call 18; refine (sIs hB hr hm HL).mono ?_; rintro e w1 ⟨rfl, hb1⟩)
      go_ret
      exact ⟨ret_int HG.out.symm, by assumption⟩
    · have HG := Lib.hid (gap_in hi (show 0 ≤ v by omega))
      have HI := Lib.hid hi
      have hd : decide (v < 0) = false := by simp; omega
      go_enter Tryd.func23, Tryd.ntmps23
      go_wp2_with (go_at_call 18; refine (sIs hB hr hm HL).mono ?_; rintro e w1 ⟨rfl, hb1⟩)
      clear hi hd
      have hb1 : Below w.heap.size w w1 := by assumption
      go_loopw [1, 5] (fun s i wr => ∃ k : Nat, k ≤ n ∧ i = .int .i64 k ∧ s = .int .i64 ((l.take k).foldl gapStep v) ∧ Below w.heap.size w wr) (fun s i _ => n - (intOf i).toNat)
      case atStart => exact ⟨0, Nat.zero_le _, rfl, rfl, hb1⟩
      case round =>
      obtain ⟨k, hk, rfl, rfl, hbw0⟩ := hrel
      clear hb1
      by_cases hlt : k < n
      · obtain ⟨b, off, x, y, rfl, hb, HX, c0, c1⟩ := (hr.below hbw0 hB).rng (k := k) (by rw [HL.out]; exact hlt)
        have HS := Lib.hid (gap_snoc v (by rw [HL.out]; exact hlt) HX.out)
        generalize (l.take k).foldl gapStep v = s0 at HS ⊢
        have hbw := hbw0
        by_cases h1 : x ≤ s0
        · by_cases h2 : s0 < y
          · go_wp2
            go_roundw
            case rel => exact ⟨k + 1, by omega, by go_num, by rw [HS.out, gapStep_in h1 h2], hbw⟩
            case measure => simp [intOf]; omega
          · have hd : decide (s0 < y) = false := by simp; omega
            go_wp2
            go_roundw
            case rel => exact ⟨k + 1, by omega, by go_num, by rw [HS.out, gapStep_out (by omega)], hbw⟩
            case measure => simp [intOf]; omega
        · have hd : decide (x ≤ s0) = false := by simp; omega
          go_wp2
          go_roundw
          case rel => exact ⟨k + 1, by omega, by go_num, by rw [HS.out, gapStep_out (by omega)], hbw⟩
          case measure => simp [intOf]; omega
      · clear HI
        go_wp2
        go_ret
        exact ⟨ret_int (by rw [HG.out, gap_all HL.out (by omega)]), hbw0⟩
theorem iGap {A : Option Addr} {c n : Nat} {w : World} {B : Nat} {l : List R} (hB : B ≤ w.heap.size) (hr : Rd w B A (encR l)) (hm : n ≤ 9223372036854775807) (HL : Hid (l.length = n)) (v : Int) :
    Calls Tryd.prog 22 #[.slice A n c, .int .i64 v] w fun e w' => e = .returned (.int .i64 (gap l v)) ∧ Below w.heap.size w w' := by
  cases hi : isRs l
  · have HG := Lib.hid (gap_lo (g := v) hi)
    go_enter Tryd.func22, Tryd.ntmps22
    go_wp2_with (go_at_call 17; refine (iIs hB hr hm HL).mono ?_; rintro e w1 ⟨rfl, hb1⟩)
    go_ret
    exact ⟨ret_int HG.out.symm, by assumption⟩
  · by_cases hv : v < 0
    · have HG := Lib.hid (gap_neg (l := l) hv)
      go_enter Tryd.func22, Tryd.ntmps22
      go_wp2_with (go_at_call 17; refine (iIs hB hr hm HL).mono ?_; rintro e w1 ⟨rfl, hb1⟩)
      go_ret
      exact ⟨ret_int HG.out.symm, by assumption⟩
    · have HG := Lib.hid (gap_in hi (show 0 ≤ v by omega))
      have HI := Lib.hid hi
      have hd : decide (v < 0) = false := by simp; omega
      go_enter Tryd.func22, Tryd.ntmps22
      go_wp2_with (go_at_call 17; refine (iIs hB hr hm HL).mono ?_; rintro e w1 ⟨rfl, hb1⟩)
      clear hi hd
      have hb1 : Below w.heap.size w w1 := by assumption
      go_loopw [1, 16] (fun s i wr => ∃ k : Nat, k ≤ n ∧ i = .int .i64 k ∧ s = .int .i64 ((l.take k).foldl gapStep v) ∧ Below w.heap.size w wr) (fun s i _ => n - (intOf i).toNat)
      case atStart => exact ⟨0, Nat.zero_le _, rfl, rfl, hb1⟩
      case round =>
      obtain ⟨k, hk, rfl, rfl, hbw0⟩ := hrel
      clear hb1
      by_cases hlt : k < n
      · obtain ⟨b, off, x, y, rfl, hb, HX, c0, c1⟩ := (hr.below hbw0 hB).rng (k := k) (by rw [HL.out]; exact hlt)
        have HS := Lib.hid (gap_snoc v (by rw [HL.out]; exact hlt) HX.out)
        generalize (l.take k).foldl gapStep v = s0 at HS ⊢
        have hbw := hbw0.alloc hbw0.size (.cells #[.int .i64 x, .int .i64 y] 32)
        by_cases h1 : x ≤ s0
        · by_cases h2 : s0 < y
          · go_wp2
            go_roundw
            case rel => exact ⟨k + 1, by omega, by go_num, by rw [HS.out, gapStep_in h1 h2], hbw⟩
            case measure => simp [intOf]; omega
          · have hd : decide (s0 < y) = false := by simp; omega
            go_wp2
            go_roundw
            case rel => exact ⟨k + 1, by omega, by go_num, by rw [HS.out, gapStep_out (by omega)], hbw⟩
            case measure => simp [intOf]; omega
        · have hd : decide (x ≤ s0) = false := by simp; omega
          go_wp2
          go_roundw
          case rel => exact ⟨k + 1, by omega, by go_num, by rw [HS.out, gapStep_out (by omega)], hbw⟩
          case measure => simp [intOf]; omega
      · clear HI
        go_wp2
        go_ret
        exact ⟨ret_int (by rw [HG.out, gap_all HL.out (by omega)]), hbw0⟩
end Go.Proofs.YtaackmiodkpnoaaDoor
