/- Contracts of the functions that read a slice of ranges, fourth part: CountNumbers, FirstGap. No conditions. -/
import Derived.Test.YtaackmiodkpnoaaRng4
namespace Go.Proofs.Ytaackmiodkpnoaa
open Go.ChangeShapes Go.WideShapes Go.ChangeAt Go.RowKit Go.Sort RM
set_option linter.unusedVariables false
theorem getD_get {l : List R} {k : Nat} {x y : Int} (hk : k < l.length) (h : l.getD k (0, 0) = (x, y)) : l[k] = (x, y) := by
  rw [List.getD_eq_getElem?_getD, List.getElem?_eq_getElem hk] at h; exact h
theorem take_snoc {l : List R} {k : Nat} {x y : Int} (hk : k < l.length) (h : l.getD k (0, 0) = (x, y)) : l.take (k + 1) = l.take k ++ [(x, y)] := by
  rw [List.take_succ_eq_append_getElem hk, getD_get hk h]
theorem cnt_snoc {l : List R} {k : Nat} {x y : Int} (hk : k < l.length) (h : l.getD k (0, 0) = (x, y)) : cnt (l.take (k + 1)) = cnt (l.take k) + (y - x) := by
  rw [take_snoc hk h, cnt_append]; simp [cnt]
theorem rng_bd {l : List R} {k : Nat} {x y : Int} (hl : isRs l = true) (hk : k < l.length) (h : l.getD k (0, 0) = (x, y)) : 0 ≤ x ∧ x < y ∧ y ≤ 4611686018427387903 := by
  have := isRs_get hl k hk
  rw [getD_get hk h] at this
  exact this
theorem gap_snoc {l : List R} {k : Nat} {x y : Int} (g : Int) (hk : k < l.length) (h : l.getD k (0, 0) = (x, y)) : (l.take (k + 1)).foldl gapStep g = gapStep ((l.take k).foldl gapStep g) (x, y) := by
  rw [take_snoc hk h, List.foldl_append]; rfl
theorem gap_all {l : List R} {n k : Nat} (hl : l.length = n) (hk : n ≤ k) : l.take k = l := List.take_of_length_le (by omega)
theorem sCount {A : Option Addr} {c n : Nat} {w : World} {B : Nat} {l : List R} (hB : B ≤ w.heap.size) (hr : Rd w B A (encR l)) (hm : n ≤ 9223372036854775807) (HL : Hid (l.length = n)) :
    Calls Try.prog 26 #[.slice A n c] w fun e w' => e = .returned (.int .i64 (countR l)) ∧ Below w.heap.size w w' := by
  cases hi : isRs l
  · have hcount : countR l = -1 := by unfold countR; rw [hi]; rfl
    go_enter Try.func26, Try.ntmps26
    go_wp2_with (go_at_call 22; refine (sIs hB hr hm HL).mono ?_; rintro e w1 ⟨rfl, hb1⟩)
    go_ret
    exact ⟨ret_int hcount.symm, by assumption⟩
  · have hcount : countR l = cnt l := by unfold countR; rw [hi]; rfl
    have HC := Lib.hid hcount; clear hcount
    have HI := Lib.hid hi
    go_enter Try.func26, Try.ntmps26
    go_wp2_with (go_at_call 22; refine (sIs hB hr hm HL).mono ?_; rintro e w1 ⟨rfl, hb1⟩)
    clear hi
    go_loopw [3, 4] (fun s i wr => ∃ k : Nat, k ≤ n ∧ i = .int .i64 k ∧ s = .int .i64 (cnt (l.take k)) ∧ Below w.heap.size w wr) (fun s i _ => n - (intOf i).toNat)
    case atStart => exact ⟨0, Nat.zero_le _, rfl, by simp [cnt], hb1⟩
    case round =>
    obtain ⟨k, hk, rfl, rfl, hbw0⟩ := hrel
    clear hb1
    have hct := cnt_take HI.out k
    by_cases hlt : k < n
    · obtain ⟨b, off, x, y, rfl, hb, HX, c0, c1⟩ := (hr.below hbw0 hB).rng (k := k) (by rw [HL.out]; exact hlt)
      have hxy := rng_bd HI.out (by rw [HL.out]; exact hlt) HX.out
      have HS := Lib.hid (cnt_snoc (by rw [HL.out]; exact hlt) HX.out)
      generalize cnt (l.take k) = s0 at hct HS ⊢
      have hbw := hbw0
      have k0 := cell_regrown c0
      have k1 := cell_regrown c1
      obtain ⟨hx0, hxy1, hy1⟩ := hxy
      obtain ⟨hs0, hs1⟩ := hct
      have a1 : IntKind.i64.wrap (s0 + y) = s0 + y := IntWalk.i64_in _ (by omega)
      have a2 : IntKind.i64.wrap (s0 + y - x) = s0 + y - x := IntWalk.i64_in _ (by omega)
      go_wp2
      refine wp_region_quiet_below (by kernel_rfl) (by kernel_rfl) ?_
      repeat (go_big_quiet_step ((fail)))
      refine wpQuiet_nil ?_
      intro _ hw'
      obtain ⟨⟨dq, osq⟩, hw''⟩ := hw'
      subst hw''
      have hb2 := below_next hbw hbw.size (below_regrown _ dq osq)
      generalize grow (redrawn _ dq) osq = w2 at hb2 ⊢
      clear k0 k1 c0 c1 a1 a2
      go_wp2
      go_roundw
      case rel => exact ⟨k + 1, by omega, by go_num, by rw [HS.out]; try go_num, by first | exact hb2 | exact hbw⟩
      case measure => simp [intOf]; omega
    · clear hct HI
      go_wp2
      go_ret
      exact ⟨ret_int (by rw [HC.out, gap_all HL.out (by omega)]), hbw0⟩
theorem iCount {A : Option Addr} {c n : Nat} {w : World} {B : Nat} {l : List R} (hB : B ≤ w.heap.size) (hr : Rd w B A (encR l)) (hm : n ≤ 9223372036854775807) (HL : Hid (l.length = n)) :
    Calls Try.prog 25 #[.slice A n c] w fun e w' => e = .returned (.int .i64 (countR l)) ∧ Below w.heap.size w w' := by
  cases hi : isRs l
  · have hcount : countR l = -1 := by unfold countR; rw [hi]; rfl
    go_enter Try.func25, Try.ntmps25
    go_wp2_with (go_at_call 43; refine (iIs hB hr hm HL).mono ?_; rintro e w1 ⟨rfl, hb1⟩)
    go_ret
    exact ⟨ret_int hcount.symm, by assumption⟩
  · have hcount : countR l = cnt l := by unfold countR; rw [hi]; rfl
    have HC := Lib.hid hcount; clear hcount
    have HI := Lib.hid hi
    go_enter Try.func25, Try.ntmps25
    go_wp2_with (go_at_call 43; refine (iIs hB hr hm HL).mono ?_; rintro e w1 ⟨rfl, hb1⟩)
    clear hi
    go_loopw [3, 11] (fun s i wr => ∃ k : Nat, k ≤ n ∧ i = .int .i64 k ∧ s = .int .i64 (cnt (l.take k)) ∧ Below w.heap.size w wr) (fun s i _ => n - (intOf i).toNat)
    case atStart => exact ⟨0, Nat.zero_le _, rfl, by simp [cnt], hb1⟩
    case round =>
    obtain ⟨k, hk, rfl, rfl, hbw0⟩ := hrel
    clear hb1
    have hct := cnt_take HI.out k
    by_cases hlt : k < n
    · obtain ⟨b, off, x, y, rfl, hb, HX, c0, c1⟩ := (hr.below hbw0 hB).rng (k := k) (by rw [HL.out]; exact hlt)
      have hxy := rng_bd HI.out (by rw [HL.out]; exact hlt) HX.out
      have HS := Lib.hid (cnt_snoc (by rw [HL.out]; exact hlt) HX.out)
      generalize cnt (l.take k) = s0 at hct HS ⊢
      have hbw := hbw0.alloc hbw0.size (.cells #[.int .i64 x, .int .i64 y] 31)
      have hA := cell_new2 wr (.int .i64 x) (.int .i64 y) 31
      have k0 := cell_regrown hA.1
      have k1 := cell_regrown hA.2
      clear hA
      obtain ⟨hx0, hxy1, hy1⟩ := hxy
      obtain ⟨hs0, hs1⟩ := hct
      have a1 : IntKind.i64.wrap (s0 + y) = s0 + y := IntWalk.i64_in _ (by omega)
      have a2 : IntKind.i64.wrap (s0 + y - x) = s0 + y - x := IntWalk.i64_in _ (by omega)
      go_wp2
      clear k0 k1 c0 c1 a1 a2
      go_wp2
      go_roundw
      case rel => exact ⟨k + 1, by omega, by go_num, by rw [HS.out]; try go_num, by first | exact hb2 | exact hbw⟩
      case measure => simp [intOf]; omega
    · clear hct HI
      go_wp2
      go_ret
      exact ⟨ret_int (by rw [HC.out, gap_all HL.out (by omega)]), hbw0⟩
theorem gap_lo {l : List R} {g : Int} (h : isRs l = false) : gap l g = -1 := by unfold gap; rw [h]; rfl
theorem gap_neg {l : List R} {g : Int} (h : g < 0) : gap l g = -1 := by
  unfold gap
  have : decide (0 ≤ g) = false := by simp; omega
  rw [this]; simp
theorem gap_in {l : List R} {g : Int} (h : isRs l = true) (h0 : 0 ≤ g) : gap l g = l.foldl gapStep g := by
  unfold gap
  have : decide (0 ≤ g) = true := by simpa using h0
  rw [h, this]; simp
theorem gapStep_in {g x y : Int} (h1 : x ≤ g) (h2 : g < y) : gapStep g (x, y) = y := by unfold gapStep; rw [if_pos ⟨h1, h2⟩]
theorem gapStep_out {g x y : Int} (h : ¬ (x ≤ g ∧ g < y)) : gapStep g (x, y) = g := by unfold gapStep; rw [if_neg h]
end Go.Proofs.Ytaackmiodkpnoaa
