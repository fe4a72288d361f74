/- Contracts of PopRange where it pops. No conditions. -/
import Derived.Test.YtaackmiodkpnoaaRngP
namespace Go.Proofs.Ytaackmiodkpnoaa
open Go.ChangeShapes Go.WideShapes Go.ChangeAt Go.RowKit Go.Sort RM
set_option linter.unusedVariables false
set_option linter.unusedSimpArgs false
theorem grown_self (w : World) (row : Option Nat) : w.grownBy w row := ⟨rfl, rfl, rfl, Nat.le_refl _, fun _ _ _ => rfl⟩
set_option maxRecDepth 20000 in
set_option maxHeartbeats 4000000 in
theorem iPopYes {A : Option Addr} {c n : Nat} {w : World} {B : Nat} {l : List R} (hB : B ≤ w.heap.size) (hr : Rd w B A (encR l)) (hm : n ≤ 1048576) (HL : Hid (l.length = n)) (most : Int) (hmx : most ≤ 9223372036854775807) (hyes : popOk l most = true) :
    Calls Try.prog 17 #[.slice A n c, .int .i64 most] w (OutPop w (popFirst (l.getD 0 (0, 0)) most, remR l (popFirst (l.getD 0 (0, 0)) most), true)) := by
  have hb1 : Below w.heap.size w (w.alloc (.cells #[.int .i64 0, .int .i64 0] 31)) := (Below.refl _ _).alloc (Nat.le_refl _) _
  have hk1 : Bk (w.alloc (.cells #[.int .i64 0, .int .i64 0] 31)) w.heap.size 31 #[.int .i64 0, .int .i64 0] := heap_alloc_new w _
  obtain ⟨h0, h1, hI⟩ : 0 < n ∧ 1 ≤ most ∧ isRs l = true := by
    unfold popOk at hyes
    simp only [Bool.and_eq_true, decide_eq_true_eq] at hyes
    obtain ⟨⟨h0, h1⟩, hI⟩ := hyes
    refine ⟨?_, h1, hI⟩
    rw [← HL.out]
    cases l with
    | nil => cases h0
    | cons a t => simp
  clear hyes
  have hz : ((n : Int) == 0) = false := by simp; omega
  have hd1 : decide (most < 1) = false := by simp; omega
  obtain ⟨b, off, x, y, rfl, hb, HX, c0, c1⟩ := hr.rng (k := 0) (by rw [HL.out]; exact h0)
  obtain ⟨hx0, hxy, hy1⟩ := rng_bd hI (by rw [HL.out]; exact h0) HX.out
  obtain ⟨d, hd⟩ : ∃ d, (if y - x < most then y - x else most) = d := ⟨_, rfl⟩
  have hdd : 1 ≤ d ∧ d ≤ y - x := by rw [← hd]; split <;> omega
  have HP := Lib.hid (show popFirst (l.getD 0 (0, 0)) most = (x, x + d) by
    rw [HX.out]
    show (x, x + min most (y - x)) = _
    rw [← hd, min_if])
  rw [HP.out]
  go_enter Try.func17, Try.ntmps17
  go_wp2_with fail
  generalize w.alloc (.cells #[.int .i64 0, .int .i64 0] 31) = w1 at hb1 hk1 ⊢
  refine (iIs (B := B) (Nat.le_trans hB hb1.size) (hr.below hb1 hB) (by omega) HL).mono ?_
  rintro e w2 ⟨rfl, hb2⟩
  have hk2 := hk1.below hb2 hk1.lt
  have h02 := below_next hb1 hb1.size hb2
  rw [hI]
  clear hb1 hk1 hb2
  replace c0 := (h02.cell (p := ⟨b, off + 0 * 2, none⟩) (Nat.lt_of_lt_of_le hb hB)).trans c0
  replace c1 := (h02.cell (p := ⟨b, off + 0 * 2 + 1, none⟩) (Nat.lt_of_lt_of_le hb hB)).trans c1
  simp only [Nat.zero_mul, Nat.add_zero] at c0 c1
  go_upto_region 4 with (fail)
  have kb : Bk (w2.alloc (.cells #[.int .i64 x, .int .i64 y] 31)) w2.heap.size 31 #[.int .i64 x, .int .i64 y] := heap_alloc_new w2 _
  have al := (Below.refl w2.heap.size w2).alloc (Nat.le_refl _) (.cells #[.int .i64 x, .int .i64 y] 31)
  have hk3 := hk2.below al hk2.lt
  have h03 := below_next h02 h02.size al
  have hgl := hk2.lt
  clear c0 c1 al hk2
  generalize w2.alloc (.cells #[.int .i64 x, .int .i64 y] 31) = W3 at kb hk3 h03 ⊢
  have hg2 := h02.size
  generalize w2.heap.size = gb at kb hgl hg2 ⊢
  clear h02
  have j0 := kb.cell 0
  have j1 := kb.cell 1
  have jf := kb.frozen
  go_wp2_with fail
  have m1 : (w.heap.size = gb) = False := by simp; omega
  have m2 : (gb = w.heap.size) = False := by simp; omega
  have kb4 : Bk (W3.setCell ⟨gb, 1, none⟩ (.int .i64 (x + d))) gb 31 #[.int .i64 x, .int .i64 (x + d)] := kb.set_ 1 (.int .i64 (x + d))
  have hk4 : Bk (W3.setCell ⟨gb, 1, none⟩ (.int .i64 (x + d))) w.heap.size 31 #[.int .i64 0, .int .i64 0] := hk3.grown (only_setCell (grown_self W3 (some gb)) 1 _) (fun e => by injection e; omega)
  have h04 := h03.setCell (p := ⟨gb, 1, none⟩) hg2 (.int .i64 (x + d))
  clear j0 j1 jf kb hk3 h03
  generalize W3.setCell ⟨gb, 1, none⟩ (.int .i64 (x + d)) = W4 at kb4 hk4 h04 ⊢
  have r0 := kb4.cell 0
  have r1 := kb4.cell 1
  have hl4 := kb4.lt
  have hl5 := hk4.lt
  go_region_held3 (fun w' => w'.cell? ⟨gb, 0, none⟩ = some (.int .i64 x) ∧ w'.cell? ⟨gb, 1, none⟩ = some (.int .i64 (x + d)))
    (first | exact ⟨r0, r1⟩ | exact ⟨s0, s1⟩ | go_keep)
    (first
      | (go_at_call 47; refine (iRem (B := B) (Nat.le_trans hB h04.drew.size) (hr.below h04.drew hB) hm HL x (x + d)).mono ?_; rintro e w5 ⟨A5, c5, rfl, hb5, ho5⟩; have s0 := (hb5.cell (p := ⟨gb, 0, none⟩) hl4).trans r0; have s1 := (hb5.cell (p := ⟨gb, 1, none⟩) hl4).trans r1; have hk5 := (show Bk W4.drew w.heap.size _ _ from hk4).below hb5 hl5; have t0 := hk5.cell 0; have t1 := hk5.cell 1; have tf := hk5.frozen; have h05 := below_next h04.drew h04.drew.size hb5))
  go_wp2
  refine bodyPost_ret (results_rng3 rfl _ _ w.heap.size #[.int .i64 x, .int .i64 (x + d)] rfl ((hk5.set_ 0 (.int .i64 x)).set_ 1 (.int .i64 (x + d))) rfl) rfl ?_
  exact ⟨A5, c5, by exact rfl, (h05.setCell (p := ⟨w.heap.size, 0, none⟩) (Nat.le_refl _) _).setCell (p := ⟨w.heap.size, 1, none⟩) (Nat.le_refl _) _, own_lower (ownsRow_setCell_below (ownsRow_setCell_below ho5 hl5 _) hl5 _) h04.size⟩
set_option maxRecDepth 20000 in
set_option maxHeartbeats 4000000 in
theorem sPopYes {A : Option Addr} {c n : Nat} {w : World} {B : Nat} {l : List R} (hB : B ≤ w.heap.size) (hr : Rd w B A (encR l)) (hm : n ≤ 1048576) (HL : Hid (l.length = n)) (most : Int) (hmx : most ≤ 9223372036854775807) (hyes : popOk l most = true) :
    Calls Try.prog 16 #[.slice A n c, .int .i64 most] w (OutPop w (popFirst (l.getD 0 (0, 0)) most, remR l (popFirst (l.getD 0 (0, 0)) most), true)) := by
  have hb1 : Below w.heap.size w (w.alloc (.cells #[.int .i64 0, .int .i64 0] 31)) := (Below.refl _ _).alloc (Nat.le_refl _) _
  have hk1 : Bk (w.alloc (.cells #[.int .i64 0, .int .i64 0] 31)) w.heap.size 31 #[.int .i64 0, .int .i64 0] := heap_alloc_new w _
  obtain ⟨h0, h1, hI⟩ : 0 < n ∧ 1 ≤ most ∧ isRs l = true := by
    unfold popOk at hyes
    simp only [Bool.and_eq_true, decide_eq_true_eq] at hyes
    obtain ⟨⟨h0, h1⟩, hI⟩ := hyes
    refine ⟨?_, h1, hI⟩
    rw [← HL.out]
    cases l with
    | nil => cases h0
    | cons a t => simp
  clear hyes
  have hz : ((n : Int) == 0) = false := by simp; omega
  have hd1 : decide (most < 1) = false := by simp; omega
  obtain ⟨b, off, x, y, rfl, hb, HX, c0, c1⟩ := hr.rng (k := 0) (by rw [HL.out]; exact h0)
  obtain ⟨hx0, hxy, hy1⟩ := rng_bd hI (by rw [HL.out]; exact h0) HX.out
  obtain ⟨d, hd⟩ : ∃ d, (if y - x < most then y - x else most) = d := ⟨_, rfl⟩
  have hdd : 1 ≤ d ∧ d ≤ y - x := by rw [← hd]; split <;> omega
  have HP := Lib.hid (show popFirst (l.getD 0 (0, 0)) most = (x, x + d) by
    rw [HX.out]
    show (x, x + min most (y - x)) = _
    rw [← hd, min_if])
  rw [HP.out]
  go_enter Try.func16, Try.ntmps16
  go_wp2_with fail
  generalize w.alloc (.cells #[.int .i64 0, .int .i64 0] 31) = w1 at hb1 hk1 ⊢
  refine (sIs (B := B) (Nat.le_trans hB hb1.size) (hr.below hb1 hB) (by omega) HL).mono ?_
  rintro e w2 ⟨rfl, hb2⟩
  have hk2 := hk1.below hb2 hk1.lt
  have h02 := below_next hb1 hb1.size hb2
  rw [hI]
  clear hb1 hk1 hb2
  replace c0 := (h02.cell (p := ⟨b, off + 0 * 2, none⟩) (Nat.lt_of_lt_of_le hb hB)).trans c0
  replace c1 := (h02.cell (p := ⟨b, off + 0 * 2 + 1, none⟩) (Nat.lt_of_lt_of_le hb hB)).trans c1
  simp only [Nat.zero_mul, Nat.add_zero] at c0 c1
  go_upto_region 4 with (fail)
  have kb : Bk (w2.alloc (.cells #[.int .i64 x, .int .i64 y] 31)) w2.heap.size 31 #[.int .i64 x, .int .i64 y] := heap_alloc_new w2 _
  have al := (Below.refl w2.heap.size w2).alloc (Nat.le_refl _) (.cells #[.int .i64 x, .int .i64 y] 31)
  have hk3 := hk2.below al hk2.lt
  have h03 := below_next h02 h02.size al
  have hgl := hk2.lt
  clear c0 c1 al hk2
  generalize w2.alloc (.cells #[.int .i64 x, .int .i64 y] 31) = W3 at kb hk3 h03 ⊢
  have hg2 := h02.size
  generalize w2.heap.size = gb at kb hgl hg2 ⊢
  clear h02
  have j0 := kb.cell 0
  have j1 := kb.cell 1
  have jf := kb.frozen
  have m1 : (w.heap.size = gb) = False := by simp; omega
  have m2 : (gb = w.heap.size) = False := by simp; omega
  by_cases hgt : most < y - x
  · have hdg : decide (most < y - x) = true := by simp; omega
    obtain rfl : most = d := by rw [← hd]; split <;> omega
    go_wp2_with fail
    have kb4 : Bk (W3.setCell ⟨gb, 1, none⟩ (.int .i64 (x + most))) gb 31 #[.int .i64 x, .int .i64 (x + most)] := kb.set_ 1 (.int .i64 (x + most))
    have hk4 : Bk (W3.setCell ⟨gb, 1, none⟩ (.int .i64 (x + most))) w.heap.size 31 #[.int .i64 0, .int .i64 0] := hk3.grown (only_setCell (grown_self W3 (some gb)) 1 _) (fun e => by injection e; omega)
    have h04 := h03.setCell (p := ⟨gb, 1, none⟩) hg2 (.int .i64 (x + most))
    clear j0 j1 jf kb hk3 h03
    generalize W3.setCell ⟨gb, 1, none⟩ (.int .i64 (x + most)) = W4 at kb4 hk4 h04 ⊢
    have r0 := kb4.cell 0
    have r1 := kb4.cell 1
    have hl4 := kb4.lt
    have hl5 := hk4.lt
    go_region_held3 (fun w' => w'.cell? ⟨gb, 0, none⟩ = some (.int .i64 x) ∧ w'.cell? ⟨gb, 1, none⟩ = some (.int .i64 (x + most)))
      (first | exact ⟨r0, r1⟩ | exact ⟨s0, s1⟩ | go_keep)
      (first
        | (go_at_call 45; refine (sRem (B := B) (Nat.le_trans hB h04.drew.size) (hr.below h04.drew hB) hm HL x (x + most)).mono ?_; rintro e w5 ⟨A5, c5, rfl, hb5, ho5⟩; have s0 := (hb5.cell (p := ⟨gb, 0, none⟩) hl4).trans r0; have s1 := (hb5.cell (p := ⟨gb, 1, none⟩) hl4).trans r1; have hk5 := (show Bk W4.drew w.heap.size _ _ from hk4).below hb5 hl5; have t0 := hk5.cell 0; have t1 := hk5.cell 1; have tf := hk5.frozen; have h05 := below_next h04.drew h04.drew.size hb5))
    go_wp2
    refine bodyPost_ret (results_rng3 rfl _ _ w.heap.size #[.int .i64 x, .int .i64 (x + most)] rfl ((hk5.set_ 0 (.int .i64 x)).set_ 1 (.int .i64 (x + most))) rfl) rfl ?_
    exact ⟨A5, c5, by exact rfl, (h05.setCell (p := ⟨w.heap.size, 0, none⟩) (Nat.le_refl _) _).setCell (p := ⟨w.heap.size, 1, none⟩) (Nat.le_refl _) _, own_lower (ownsRow_setCell_below (ownsRow_setCell_below ho5 hl5 _) hl5 _) h04.size⟩
  · have hdg : decide (most < y - x) = false := by simp; omega
    obtain rfl : y = x + d := by rw [← hd]; split <;> omega
    go_wp2_with fail
    have kb4 := kb
    have hk4 := hk3
    have h04 := h03
    clear j0 j1 jf kb hk3 h03
    generalize W3 = W4 at kb4 hk4 h04 ⊢
    have r0 := kb4.cell 0
    have r1 := kb4.cell 1
    have hl4 := kb4.lt
    have hl5 := hk4.lt
    go_region_held3 (fun w' => w'.cell? ⟨gb, 0, none⟩ = some (.int .i64 x) ∧ w'.cell? ⟨gb, 1, none⟩ = some (.int .i64 (x + d)))
      (first | exact ⟨r0, r1⟩ | exact ⟨s0, s1⟩ | go_keep)
      (first
        | (go_at_call 45; refine (sRem (B := B) (Nat.le_trans hB h04.drew.size) (hr.below h04.drew hB) hm HL x (x + d)).mono ?_; rintro e w5 ⟨A5, c5, rfl, hb5, ho5⟩; have s0 := (hb5.cell (p := ⟨gb, 0, none⟩) hl4).trans r0; have s1 := (hb5.cell (p := ⟨gb, 1, none⟩) hl4).trans r1; have hk5 := (show Bk W4.drew w.heap.size _ _ from hk4).below hb5 hl5; have t0 := hk5.cell 0; have t1 := hk5.cell 1; have tf := hk5.frozen; have h05 := below_next h04.drew h04.drew.size hb5))
    go_wp2
    refine bodyPost_ret (results_rng3 rfl _ _ w.heap.size #[.int .i64 x, .int .i64 (x + d)] rfl ((hk5.set_ 0 (.int .i64 x)).set_ 1 (.int .i64 (x + d))) rfl) rfl ?_
    exact ⟨A5, c5, by exact rfl, (h05.setCell (p := ⟨w.heap.size, 0, none⟩) (Nat.le_refl _) _).setCell (p := ⟨w.heap.size, 1, none⟩) (Nat.le_refl _) _, own_lower (ownsRow_setCell_below (ownsRow_setCell_below ho5 hl5 _) hl5 _) h04.size⟩
end Go.Proofs.Ytaackmiodkpnoaa
