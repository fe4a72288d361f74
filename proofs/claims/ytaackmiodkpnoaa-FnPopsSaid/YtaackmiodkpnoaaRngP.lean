/- Contracts of PopRange. No conditions. -/
import Derived.Test.YtaackmiodkpnoaaRngE
import Derived.Test.YtaackmiodkpnoaaRngD
import Derived.Deep.RegionHeld3
import Derived.Deep.Cut
namespace Go.Proofs.Ytaackmiodkpnoaa
open Go.ChangeShapes Go.WideShapes Go.ChangeAt Go.RowKit Go.Sort RM
set_option linter.unusedVariables false
set_option linter.unusedSimpArgs false
theorem results_rng3 {fn : Func} {p u v : Tmp} (h : fn.results = #[.cell p 31, .tmp u, .tmp v]) (tmps : Array Value) (w : World) (g : Nat) (cs : Array Value)
    (hp : tmps.getD p undef = .pointer (some ⟨g, 0, none⟩)) (hg : Bk w g 31 cs) (hs : cs.size = 2) :
    (results fn tmps).run Try.prog w = .ok (.tuple #[.agg cs, tmps.getD u undef, tmps.getD v undef]) w := by
  have hp' : tmps[p]?.getD undef = .pointer (some ⟨g, 0, none⟩) := by simpa using hp
  have hl := run_loadVar_row (P := Try.prog) w g 31 31 cs (0, 0) _ hg Try.underlying31 rfl (by rw [hs]; kernel_rfl)
  simp [results, h, hp', asAddr, hl]
def popR (l : List R) (most : Int) : R × List R × Bool := if popOk l most then (popFirst (l.getD 0 (0, 0)) most, remR l (popFirst (l.getD 0 (0, 0)) most), true) else ((0, 0), l, false)
theorem popR_no {l : List R} {most : Int} (h : popOk l most = false) : popR l most = ((0, 0), l, false) := by unfold popR; rw [h]; rfl
theorem popR_yes {l : List R} {most : Int} (h : popOk l most = true) : popR l most = (popFirst (l.getD 0 (0, 0)) most, remR l (popFirst (l.getD 0 (0, 0)) most), true) := by unfold popR; rw [h]; rfl
/-- What PopRange hands back. -/
def OutPop (w : World) (x : R × List R × Bool) (e : Ending) (w' : World) : Prop := ∃ A c, e = .returned (.tuple #[.agg #[.int .i64 x.1.1, .int .i64 x.1.2], .slice A x.2.1.length c, .bool x.2.2]) ∧ Below w.heap.size w w' ∧ w'.ownsRow w.heap.size 31 2 (.slice A x.2.1.length c) x.2.1.length (encR x.2.1)
set_option maxRecDepth 20000 in
set_option maxHeartbeats 2000000 in
theorem iPopNo {A : Option Addr} {c n : Nat} {w : World} {B : Nat} {l : List R} (hB : B ≤ w.heap.size) (hr : Rd w B A (encR l)) (hm : n ≤ 1048576) (HL : Hid (l.length = n)) (most : Int) (hno : popOk l most = false) :
    Calls Try.prog 17 #[.slice A n c, .int .i64 most] w (OutPop w ((0, 0), l, false)) := by
  have hb1 : Below w.heap.size w (w.alloc (.cells #[.int .i64 0, .int .i64 0] 31)) := (Below.refl _ _).alloc (Nat.le_refl _) _
  have hk1 : Bk (w.alloc (.cells #[.int .i64 0, .int .i64 0] 31)) w.heap.size 31 #[.int .i64 0, .int .i64 0] := heap_alloc_new w _
  by_cases h0 : n = 0
  · subst h0
    go_enter Try.func17, Try.ntmps17
    go_wp2_with fail
    generalize w.alloc (.cells #[.int .i64 0, .int .i64 0] 31) = w2 at hb1 hk1 ⊢
    have hk2 := hk1
    have h02 := hb1
    refine (iCopy (B := B) (Nat.le_trans hB h02.size) (hr.below h02 hB) (by omega) HL).mono ?_
    rintro e w3 ⟨A', c', rfl, hb3, ho3⟩
    have hk3 := hk2.below hb3 hk2.lt
    have c0 := hk3.cell 0
    have c1 := hk3.cell 1
    have f0 := hk3.frozen
    go_wp2
    have h03 := below_next h02 h02.size hb3
    refine bodyPost_ret (results_rng3 rfl _ _ w.heap.size #[.int .i64 0, .int .i64 0] rfl ((hk3.set_ 0 (.int .i64 0)).set_ 1 (.int .i64 0)) rfl) rfl ?_
    exact ⟨A', c', by exact rfl, (h03.setCell (p := ⟨w.heap.size, 0, none⟩) (Nat.le_refl _) _).setCell (p := ⟨w.heap.size, 1, none⟩) (Nat.le_refl _) _, own_lower (ownsRow_setCell_below (ownsRow_setCell_below ho3 (by have := hk2.lt; exact this) _) (by have := hk2.lt; exact this) _) h02.size⟩
  · have hz : ((n : Int) == 0) = false := by simp; omega
    by_cases h1 : most < 1
    · have hd1 : decide (most < 1) = true := by simp; omega
      go_enter Try.func17, Try.ntmps17
      go_wp2_with fail
      generalize w.alloc (.cells #[.int .i64 0, .int .i64 0] 31) = w2 at hb1 hk1 ⊢
      have hk2 := hk1
      have h02 := hb1
      refine (iCopy (B := B) (Nat.le_trans hB h02.size) (hr.below h02 hB) (by omega) HL).mono ?_
      rintro e w3 ⟨A', c', rfl, hb3, ho3⟩
      have hk3 := hk2.below hb3 hk2.lt
      have c0 := hk3.cell 0
      have c1 := hk3.cell 1
      have f0 := hk3.frozen
      go_wp2
      have h03 := below_next h02 h02.size hb3
      refine bodyPost_ret (results_rng3 rfl _ _ w.heap.size #[.int .i64 0, .int .i64 0] rfl ((hk3.set_ 0 (.int .i64 0)).set_ 1 (.int .i64 0)) rfl) rfl ?_
      exact ⟨A', c', by exact rfl, (h03.setCell (p := ⟨w.heap.size, 0, none⟩) (Nat.le_refl _) _).setCell (p := ⟨w.heap.size, 1, none⟩) (Nat.le_refl _) _, own_lower (ownsRow_setCell_below (ownsRow_setCell_below ho3 (by have := hk2.lt; exact this) _) (by have := hk2.lt; exact this) _) h02.size⟩
    · have hd1 : decide (most < 1) = false := by simp; omega
      have hI : isRs l = false := by
        cases hI : isRs l
        · rfl
        · exfalso
          have : popOk l most = true := by
            unfold popOk
            rw [hI]
            have : l.isEmpty = false := by cases l with | nil => exact absurd HL.out.symm (by simpa using h0) | cons a t => rfl
            rw [this]; simp; omega
          rw [hno] at this; cases this
      go_enter Try.func17, Try.ntmps17
      go_wp2_with fail
      generalize w.alloc (.cells #[.int .i64 0, .int .i64 0] 31) = w1 at hb1 hk1 ⊢
      refine (iIs (B := B) (Nat.le_trans hB hb1.size) (hr.below hb1 hB) (by omega) HL).mono ?_
      rintro e w2 ⟨rfl, hb2⟩
      have hk2 := hk1.below hb2 hk1.lt
      have h02 := below_next hb1 hb1.size hb2
      rw [hI]
      go_wp2_with fail
      refine (iCopy (B := B) (Nat.le_trans hB h02.size) (hr.below h02 hB) (by omega) HL).mono ?_
      rintro e w3 ⟨A', c', rfl, hb3, ho3⟩
      have hk3 := hk2.below hb3 hk2.lt
      have c0 := hk3.cell 0
      have c1 := hk3.cell 1
      have f0 := hk3.frozen
      go_wp2
      have h03 := below_next h02 h02.size hb3
      refine bodyPost_ret (results_rng3 rfl _ _ w.heap.size #[.int .i64 0, .int .i64 0] rfl ((hk3.set_ 0 (.int .i64 0)).set_ 1 (.int .i64 0)) rfl) rfl ?_
      exact ⟨A', c', by exact rfl, (h03.setCell (p := ⟨w.heap.size, 0, none⟩) (Nat.le_refl _) _).setCell (p := ⟨w.heap.size, 1, none⟩) (Nat.le_refl _) _, own_lower (ownsRow_setCell_below (ownsRow_setCell_below ho3 (by have := hk2.lt; exact this) _) (by have := hk2.lt; exact this) _) h02.size⟩
set_option maxRecDepth 20000 in
set_option maxHeartbeats 2000000 in
theorem sPopNo {A : Option Addr} {c n : Nat} {w : World} {B : Nat} {l : List R} (hB : B ≤ w.heap.size) (hr : Rd w B A (encR l)) (hm : n ≤ 1048576) (HL : Hid (l.length = n)) (most : Int) (hno : popOk l most = false) :
    Calls Try.prog 16 #[.slice A n c, .int .i64 most] w (OutPop w ((0, 0), l, false)) := by
  have hb1 : Below w.heap.size w (w.alloc (.cells #[.int .i64 0, .int .i64 0] 31)) := (Below.refl _ _).alloc (Nat.le_refl _) _
  have hk1 : Bk (w.alloc (.cells #[.int .i64 0, .int .i64 0] 31)) w.heap.size 31 #[.int .i64 0, .int .i64 0] := heap_alloc_new w _
  cases hI : isRs l
  · go_enter Try.func16, Try.ntmps16
    go_wp2_with fail
    generalize w.alloc (.cells #[.int .i64 0, .int .i64 0] 31) = w1 at hb1 hk1 ⊢
    refine (sIs (B := B) (Nat.le_trans hB hb1.size) (hr.below hb1 hB) (by omega) HL).mono ?_
    rintro e w2 ⟨rfl, hb2⟩
    have hk2 := hk1.below hb2 hk1.lt
    have h02 := below_next hb1 hb1.size hb2
    rw [hI]
    go_wp2_with fail
    refine (sCopy (B := B) (Nat.le_trans hB h02.size) (hr.below h02 hB) (by omega) HL).mono ?_
    rintro e w3 ⟨A', c', rfl, hb3, ho3⟩
    have hk3 := hk2.below hb3 hk2.lt
    have c0 := hk3.cell 0
    have c1 := hk3.cell 1
    have f0 := hk3.frozen
    go_wp2
    have h03 := below_next h02 h02.size hb3
    refine bodyPost_ret (results_rng3 rfl _ _ w.heap.size #[.int .i64 0, .int .i64 0] rfl ((hk3.set_ 0 (.int .i64 0)).set_ 1 (.int .i64 0)) rfl) rfl ?_
    exact ⟨A', c', by exact rfl, (h03.setCell (p := ⟨w.heap.size, 0, none⟩) (Nat.le_refl _) _).setCell (p := ⟨w.heap.size, 1, none⟩) (Nat.le_refl _) _, own_lower (ownsRow_setCell_below (ownsRow_setCell_below ho3 (by have := hk2.lt; exact this) _) (by have := hk2.lt; exact this) _) h02.size⟩
  · by_cases h0 : n = 0
    · subst h0
      go_enter Try.func16, Try.ntmps16
      go_wp2_with fail
      generalize w.alloc (.cells #[.int .i64 0, .int .i64 0] 31) = w1 at hb1 hk1 ⊢
      refine (sIs (B := B) (Nat.le_trans hB hb1.size) (hr.below hb1 hB) (by omega) HL).mono ?_
      rintro e w2 ⟨rfl, hb2⟩
      have hk2 := hk1.below hb2 hk1.lt
      have h02 := below_next hb1 hb1.size hb2
      rw [hI]
      go_wp2_with fail
      refine (sCopy (B := B) (Nat.le_trans hB h02.size) (hr.below h02 hB) (by omega) HL).mono ?_
      rintro e w3 ⟨A', c', rfl, hb3, ho3⟩
      have hk3 := hk2.below hb3 hk2.lt
      have c0 := hk3.cell 0
      have c1 := hk3.cell 1
      have f0 := hk3.frozen
      go_wp2
      have h03 := below_next h02 h02.size hb3
      refine bodyPost_ret (results_rng3 rfl _ _ w.heap.size #[.int .i64 0, .int .i64 0] rfl ((hk3.set_ 0 (.int .i64 0)).set_ 1 (.int .i64 0)) rfl) rfl ?_
      exact ⟨A', c', by exact rfl, (h03.setCell (p := ⟨w.heap.size, 0, none⟩) (Nat.le_refl _) _).setCell (p := ⟨w.heap.size, 1, none⟩) (Nat.le_refl _) _, own_lower (ownsRow_setCell_below (ownsRow_setCell_below ho3 (by have := hk2.lt; exact this) _) (by have := hk2.lt; exact this) _) h02.size⟩
    · have hz : ((n : Int) == 0) = false := by simp; omega
      have h1 : most < 1 := by
        rcases Int.lt_or_le most 1 with h | h
        · exact h
        · exfalso
          have : popOk l most = true := by
            unfold popOk
            rw [hI]
            have : l.isEmpty = false := by cases l with | nil => exact absurd HL.out.symm (by simpa using h0) | cons a t => rfl
            rw [this]; simp; omega
          rw [hno] at this; cases this
      have hd1 : decide (most < 1) = true := by simp; omega
      go_enter Try.func16, Try.ntmps16
      go_wp2_with fail
      generalize w.alloc (.cells #[.int .i64 0, .int .i64 0] 31) = w1 at hb1 hk1 ⊢
      refine (sIs (B := B) (Nat.le_trans hB hb1.size) (hr.below hb1 hB) (by omega) HL).mono ?_
      rintro e w2 ⟨rfl, hb2⟩
      have hk2 := hk1.below hb2 hk1.lt
      have h02 := below_next hb1 hb1.size hb2
      rw [hI]
      go_wp2_with fail
      refine (sCopy (B := B) (Nat.le_trans hB h02.size) (hr.below h02 hB) (by omega) HL).mono ?_
      rintro e w3 ⟨A', c', rfl, hb3, ho3⟩
      have hk3 := hk2.below hb3 hk2.lt
      have c0 := hk3.cell 0
      have c1 := hk3.cell 1
      have f0 := hk3.frozen
      go_wp2
      have h03 := below_next h02 h02.size hb3
      refine bodyPost_ret (results_rng3 rfl _ _ w.heap.size #[.int .i64 0, .int .i64 0] rfl ((hk3.set_ 0 (.int .i64 0)).set_ 1 (.int .i64 0)) rfl) rfl ?_
      exact ⟨A', c', by exact rfl, (h03.setCell (p := ⟨w.heap.size, 0, none⟩) (Nat.le_refl _) _).setCell (p := ⟨w.heap.size, 1, none⟩) (Nat.le_refl _) _, own_lower (ownsRow_setCell_below (ownsRow_setCell_below ho3 (by have := hk2.lt; exact this) _) (by have := hk2.lt; exact this) _) h02.size⟩
end Go.Proofs.Ytaackmiodkpnoaa
