/- The walk of the law FnRanges (written by gfr.py). No conditions. -/
import Derived.Test.YtaackmiodkpnoaaDoorDq4
import Derived.Test.YtaackmiodkpnoaaDoorFm2
import Derived.Test.YtaackmiodkpnoaaDoorRngC
import Derived.Test.YtaackmiodkpnoaaDoorRngD
import Derived.Test.YtaackmiodkpnoaaDoorRngL2
import Derived.Test.YtaackmiodkpnoaaDoorRngL3
namespace Go.Proofs.YtaackmiodkpnoaaDoor
open Go.ChangeShapes Go.WideShapes Go.ChangeAt Go.RowKit Go.Sort RM
set_option linter.unusedVariables false
set_option linter.unusedSimpArgs false
theorem SmR.bd {l : List R} (h : SmR l) : BdR l := fun k hk => by
  obtain ⟨⟨a, b⟩, ⟨c, d⟩⟩ := h k hk
  exact ⟨⟨by omega, by omega⟩, ⟨by omega, by omega⟩⟩
set_option maxRecDepth 20000 in
set_option maxHeartbeats 16000000 in
theorem walk_FnRanges {A : Option Addr} {c n : Nat} {l : List Int} (w : World) (ht : Tab w) (hr : Rd w w.heap.size A (bys l)) (hn : n ≤ maxLen) (HL : Hid (l.length = n)) :
    Calls Tryd.prog 4 #[.slice A n c] w fun e w' => e = .returned (.bool true) ∧ Below w.heap.size w w' := by
  unfold maxLen at hn
  by_cases hs : n ≤ 1048576
  · have hd : decide ((1048576 : Int) < (n : Int)) = false := by simp; omega
    have HT := Lib.hid ht
    have htl := ht.lt
    clear ht
    go_enter Tryd.func4, Tryd.ntmps4
    go_wp2_with (first | (go_at_call 10; go_in))
    refine (drawAdd hr hs HL).mono ?_
    rintro e w1 ⟨A1, c1, L1, x, y, rfl, hl1, ⟨hsx, hsy⟩, ho1, hb1⟩
    have al := (Below.refl w1.heap.size w1).alloc (Nat.le_refl _) (.cells #[.int .i64 x, .int .i64 y] 32)
    have kR : Bk (w1.alloc (.cells #[.int .i64 x, .int .i64 y] 32)) w1.heap.size 32 #[.int .i64 x, .int .i64 y] := heap_alloc_new w1 _
    have hA := cell_new2 w1 (.int .i64 x) (.int .i64 y) 32
    have c0 := hA.1
    have c1 := hA.2
    clear hA
    have ho1 := own_step ho1 al
    have h01 := below_next hb1 hb1.size al
    go_wp2_with fail
    clear hb1 al
    generalize w1.alloc (.cells #[.int .i64 x, .int .i64 y] 32) = W1 at kR c0 c1 ho1 h01 ⊢
    generalize w1.heap.size = gR at kR c0 c1 ⊢
    have hla : (addR L1 (x, y)).length ≤ 6 := by have := addR_len L1 (x, y); omega
    have hlb : (remR L1 (x, y)).length ≤ 10 := by have := remR_len L1 (x, y); omega
    refine (iAdd (B := W1.heap.size) (Nat.le_refl _) (own_rd ho1) (by omega) (Lib.hid rfl) x y).mono ?_
    rintro e w2 ⟨A2, c2, rfl, hb2, ho2⟩
    have h02 := below_next h01 h01.size hb2
    have ho1 := own_step ho1 hb2
    have kR := kR.below hb2 kR.lt
    clear c0 c1 hb2 h01
    have c0 := kR.cell 0
    have c1 := kR.cell 1
    go_wp2_with fail
    refine (iRem (B := w2.heap.size) (Nat.le_refl _) (own_rd ho1) (by omega) (Lib.hid rfl) x y).mono ?_
    rintro e w3 ⟨A3, c3, rfl, hb3, ho3⟩
    have h03 := below_next h02 h02.size hb3
    have ho1 := own_step ho1 hb3
    have ho2 := own_step ho2 hb3
    have kR := kR.below hb3 kR.lt
    clear c0 c1 hb3 h02
    have c0 := kR.cell 0
    have c1 := kR.cell 1
    go_wp2_with fail
    refine (sAdd (B := w3.heap.size) (Nat.le_refl _) (own_rd ho1) (by omega) (Lib.hid rfl) x y).mono ?_
    rintro e w4 ⟨A4, c4, rfl, hb4, ho4⟩
    have h04 := below_next h03 h03.size hb4
    have ho1 := own_step ho1 hb4
    have ho2 := own_step ho2 hb4
    have ho3 := own_step ho3 hb4
    have kR := kR.below hb4 kR.lt
    clear c0 c1 hb4 h03
    go_wp2_with fail
    refine (sEq (B := w4.heap.size) (Nat.le_refl _) (own_rd ho2) (own_rd ho4) (by omega) (by omega) (Lib.hid rfl) (Lib.hid rfl)).mono ?_
    rintro e w5 ⟨rfl, hb5⟩
    have h05 := below_next h04 h04.size hb5
    have ho1 := own_step ho1 hb5
    have ho2 := own_step ho2 hb5
    have ho3 := own_step ho3 hb5
    have kR := kR.below hb5 kR.lt
    rw [eqRs_self]
    clear hb5 h04 ho4
    have c0 := kR.cell 0
    have c1 := kR.cell 1
    go_wp2_with fail
    refine (sRem (B := w5.heap.size) (Nat.le_refl _) (own_rd ho1) (by omega) (Lib.hid rfl) x y).mono ?_
    rintro e w6 ⟨A6, c6, rfl, hb6, ho6⟩
    have h06 := below_next h05 h05.size hb6
    have ho1 := own_step ho1 hb6
    have ho2 := own_step ho2 hb6
    have ho3 := own_step ho3 hb6
    have kR := kR.below hb6 kR.lt
    clear c0 c1 hb6 h05
    go_wp2_with fail
    refine (sEq (B := w6.heap.size) (Nat.le_refl _) (own_rd ho3) (own_rd ho6) (by omega) (by omega) (Lib.hid rfl) (Lib.hid rfl)).mono ?_
    rintro e w7 ⟨rfl, hb7⟩
    have h07 := below_next h06 h06.size hb7
    have ho1 := own_step ho1 hb7
    have ho2 := own_step ho2 hb7
    have ho3 := own_step ho3 hb7
    have kR := kR.below hb7 kR.lt
    rw [eqRs_self]
    clear hb7 h06 ho6
    go_wp2_with fail
    refine (iIs (B := w7.heap.size) (Nat.le_refl _) (own_rd ho1) (by omega) (Lib.hid rfl)).mono ?_
    rintro e w8 ⟨rfl, hb8⟩
    have h08 := below_next h07 h07.size hb8
    have ho1 := own_step ho1 hb8
    have ho2 := own_step ho2 hb8
    have ho3 := own_step ho3 hb8
    have kR := kR.below hb8 kR.lt
    clear hb8 h07
    go_wp2_with fail
    refine (sIs (B := w8.heap.size) (Nat.le_refl _) (own_rd ho1) (by omega) (Lib.hid rfl)).mono ?_
    rintro e w9 ⟨rfl, hb9⟩
    have h09 := below_next h08 h08.size hb9
    have ho1 := own_step ho1 hb9
    have ho2 := own_step ho2 hb9
    have ho3 := own_step ho3 hb9
    have kR := kR.below hb9 kR.lt
    clear hb9 h08
    go_wp2_with fail
    refine (sIs (B := w9.heap.size) (Nat.le_refl _) (own_rd ho1) (by omega) (Lib.hid rfl)).mono ?_
    rintro e w10 ⟨rfl, hb10⟩
    have h010 := below_next h09 h09.size hb10
    have ho1 := own_step ho1 hb10
    have ho2 := own_step ho2 hb10
    have ho3 := own_step ho3 hb10
    have kR := kR.below hb10 kR.lt
    clear hb10 h09
    cases hI : isRs L1
    · clear ho1 ho2 ho3 kR
      go_wp2_with fail
      refine (drawHas ((hr.below h010 (Nat.le_refl _)).more h010.size) hs HL).mono ?_
      rintro e t1 ⟨A5, c5, L5, v5, rfl, hl5, hv0, hv1, ho5, hb5⟩
      have h1 := below_next h010 h010.size hb5
      go_wp2_with fail
      refine (iGap (B := t1.heap.size) (Nat.le_refl _) (own_rd ho5) (by omega) (Lib.hid rfl) v5).mono ?_
      rintro e t2 ⟨rfl, hb6⟩
      have h2 := below_next h1 h1.size hb6
      have ho5 := own_step ho5 hb6
      clear h1 hb6 hb5
      go_wp2_with fail
      refine (sGap (B := t2.heap.size) (Nat.le_refl _) (own_rd ho5) (by omega) (Lib.hid rfl) v5).mono ?_
      rintro e t3 ⟨rfl, hb7⟩
      have h3 := below_next h2 h2.size hb7
      have ho5 := own_step ho5 hb7
      clear h2 hb7
      obtain ⟨gp, hgp⟩ : ∃ gp, gap L5 v5 = gp := ⟨_, rfl⟩
      rw [hgp]
      by_cases hg0 : 0 ≤ gp
      · have hge := gap_ge (l := L5) (g := v5) (by rw [hgp]; exact hg0)
        rw [hgp] at hge
        obtain ⟨hge, hno⟩ := hge
        have HNO := Lib.hid hno
        clear hno hgp
        go_wp2_with fail
        refine (lSpan (B := t3.heap.size) (Nat.le_refl _) (own_rd ho5) (by omega) (Lib.hid rfl) gp).mono ?_
        rintro e w' ⟨rfl, rfl⟩
        rw [HNO.out]
        go_wp2_with fail
        refine (iHas (B := t3.heap.size) (Nat.le_refl _) (own_rd ho5) (by omega) (Lib.hid rfl) v5).mono ?_
        rintro e t4 ⟨rfl, hb8⟩
        have h4 := below_next h3 h3.size hb8
        have ho5 := own_step ho5 hb8
        go_wp2_with fail
        refine (sHas (B := t4.heap.size) (Nat.le_refl _) (own_rd ho5) (by omega) (Lib.hid rfl) v5).mono ?_
        rintro e w' ⟨rfl, rfl⟩
        generalize hasN L5 v5 = hb5v
        clear ho5 hb8 h3
        go_wp2_with fail
        refine (drawFmt ((hr.below h4 (Nat.le_refl _)).more h4.size) hs HL).mono ?_
        rintro e t5 ⟨A6, c6, L6, rfl, hl6, hs6, ho6, hb9⟩
        have h5 := below_next h4 h4.size hb9
        clear hb9 h4
        go_wp2_with fail
        refine (drawEq ((hr.below h5 (Nat.le_refl _)).more h5.size) hs HL).mono ?_
        rintro e t6 ⟨A7, c7, L7, A8, c8, L8, rfl, hl7, hl8, ho7, ho8, hb10⟩
        have h6 := below_next h5 h5.size hb10
        have ho6 := own_step ho6 hb10
        clear hb10 h5
        go_wp2_with fail
        refine (iFR (B := t6.heap.size) (Nat.le_refl _) (own_rd ho6) (by omega) (Lib.hid rfl) (Lib.hid hs6.bd) (HT.out.below h6 htl)).mono ?_
        rintro e t7 ⟨rfl, hb11⟩
        have h7 := below_next h6 h6.size hb11
        have ho6 := own_step ho6 hb11
        have ho7 := own_step ho7 hb11
        have ho8 := own_step ho8 hb11
        clear hb11 h6
        go_wp2_with fail
        refine (sFR (B := t7.heap.size) (Nat.le_refl _) (own_rd ho6) (by omega) (Lib.hid rfl) (Lib.hid hs6.bd)).mono ?_
        rintro e t8 ⟨rfl, hb12⟩
        have h8 := below_next h7 h7.size hb12
        have ho7 := own_step ho7 hb12
        have ho8 := own_step ho8 hb12
        generalize fmtR L6 = s6
        clear hb12 h7 ho6
        go_wp2_with fail
        refine (iEq (B := t8.heap.size) (Nat.le_refl _) (own_rd ho7) (own_rd ho8) (by omega) (by omega) (Lib.hid rfl) (Lib.hid rfl)).mono ?_
        rintro e t9 ⟨rfl, hb13⟩
        have h9 := below_next h8 h8.size hb13
        have ho7 := own_step ho7 hb13
        have ho8 := own_step ho8 hb13
        clear hb13 h8
        go_wp2_with fail
        refine (sEq (B := t9.heap.size) (Nat.le_refl _) (own_rd ho7) (own_rd ho8) (by omega) (by omega) (Lib.hid rfl) (Lib.hid rfl)).mono ?_
        rintro e t10 ⟨rfl, hb14⟩
        have h10 := below_next h9 h9.size hb14
        generalize eqRs L7 L8 = e78
        clear hb14 h9
        go_wp2
        go_ret
        exact ⟨rfl, h10⟩
      · clear hgp
        go_wp2_with fail
        refine (iHas (B := t3.heap.size) (Nat.le_refl _) (own_rd ho5) (by omega) (Lib.hid rfl) v5).mono ?_
        rintro e t4 ⟨rfl, hb8⟩
        have h4 := below_next h3 h3.size hb8
        have ho5 := own_step ho5 hb8
        go_wp2_with fail
        refine (sHas (B := t4.heap.size) (Nat.le_refl _) (own_rd ho5) (by omega) (Lib.hid rfl) v5).mono ?_
        rintro e w' ⟨rfl, rfl⟩
        generalize hasN L5 v5 = hb5v
        clear ho5 hb8 h3
        go_wp2_with fail
        refine (drawFmt ((hr.below h4 (Nat.le_refl _)).more h4.size) hs HL).mono ?_
        rintro e t5 ⟨A6, c6, L6, rfl, hl6, hs6, ho6, hb9⟩
        have h5 := below_next h4 h4.size hb9
        clear hb9 h4
        go_wp2_with fail
        refine (drawEq ((hr.below h5 (Nat.le_refl _)).more h5.size) hs HL).mono ?_
        rintro e t6 ⟨A7, c7, L7, A8, c8, L8, rfl, hl7, hl8, ho7, ho8, hb10⟩
        have h6 := below_next h5 h5.size hb10
        have ho6 := own_step ho6 hb10
        clear hb10 h5
        go_wp2_with fail
        refine (iFR (B := t6.heap.size) (Nat.le_refl _) (own_rd ho6) (by omega) (Lib.hid rfl) (Lib.hid hs6.bd) (HT.out.below h6 htl)).mono ?_
        rintro e t7 ⟨rfl, hb11⟩
        have h7 := below_next h6 h6.size hb11
        have ho6 := own_step ho6 hb11
        have ho7 := own_step ho7 hb11
        have ho8 := own_step ho8 hb11
        clear hb11 h6
        go_wp2_with fail
        refine (sFR (B := t7.heap.size) (Nat.le_refl _) (own_rd ho6) (by omega) (Lib.hid rfl) (Lib.hid hs6.bd)).mono ?_
        rintro e t8 ⟨rfl, hb12⟩
        have h8 := below_next h7 h7.size hb12
        have ho7 := own_step ho7 hb12
        have ho8 := own_step ho8 hb12
        generalize fmtR L6 = s6
        clear hb12 h7 ho6
        go_wp2_with fail
        refine (iEq (B := t8.heap.size) (Nat.le_refl _) (own_rd ho7) (own_rd ho8) (by omega) (by omega) (Lib.hid rfl) (Lib.hid rfl)).mono ?_
        rintro e t9 ⟨rfl, hb13⟩
        have h9 := below_next h8 h8.size hb13
        have ho7 := own_step ho7 hb13
        have ho8 := own_step ho8 hb13
        clear hb13 h8
        go_wp2_with fail
        refine (sEq (B := t9.heap.size) (Nat.le_refl _) (own_rd ho7) (own_rd ho8) (by omega) (by omega) (Lib.hid rfl) (Lib.hid rfl)).mono ?_
        rintro e t10 ⟨rfl, hb14⟩
        have h10 := below_next h9 h9.size hb14
        generalize eqRs L7 L8 = e78
        clear hb14 h9
        go_wp2
        go_ret
        exact ⟨rfl, h10⟩
    · have c0 := kR.cell 0
      have c1 := kR.cell 1
      have HA := Lib.hid (addR_is (r := (x, y)) hI)
      have HB := Lib.hid (remR_is (r := (x, y)) hI)
      obtain ⟨hsx0, hsx1⟩ := hsx
      obtain ⟨hsy0, hsy1⟩ := hsy
      by_cases f1 : 0 ≤ x
      · by_cases f2 : x < y
        · by_cases f3 : y ≤ 4611686018427387903
          · have hR : isR (x, y) = true := by show (decide (0 ≤ x) && decide (x < y) && decide (y ≤ (4611686018427387903 : Int))) = true; rw [decide_eq_true f1, decide_eq_true f2, decide_eq_true f3]; rfl
            have hfin : True := trivial
            clear hfin
            go_wp2_with fail
            refine (iIs (B := w10.heap.size) (Nat.le_refl _) (own_rd ho2) (by omega) (Lib.hid rfl)).mono ?_
            rintro e w11 ⟨rfl, hb11⟩
            have h011 := below_next h010 h010.size hb11
            have ho1 := own_step ho1 hb11
            have ho2 := own_step ho2 hb11
            have ho3 := own_step ho3 hb11
            have kR := kR.below hb11 kR.lt
            rw [HA.out]
            clear hb11 h010 c0 c1
            go_wp2_with fail
            refine (iIs (B := w11.heap.size) (Nat.le_refl _) (own_rd ho3) (by omega) (Lib.hid rfl)).mono ?_
            rintro e w12 ⟨rfl, hb12⟩
            have h012 := below_next h011 h011.size hb12
            have rL := own_rd (own_step ho1 hb12)
            have rA := own_rd (own_step ho2 hb12)
            have rB := own_rd (own_step ho3 hb12)
            have kR := kR.below hb12 kR.lt
            rw [HB.out]
            clear hb12 h011 ho1 ho2 ho3
            have hgl := kR.lt
            go_wp2_with fail
            go_loopw [8] (fun i wr => ∃ v : Int, -1 ≤ v ∧ v ≤ 40 ∧ i = .int .i64 v ∧ Below w12.heap.size w12 wr) (fun i _ => (40 - intOf i).toNat)
            case atStart => exact ⟨-1, by omega, by omega, rfl, Below.refl _ _⟩
            case round =>
              obtain ⟨v, hv1, hv2, rfl, hbw⟩ := hrel
              by_cases hlt : v < 40
              · have kr := kR.below hbw hgl
                have c0 := kr.cell 0
                have c1 := kr.cell 1
                have hA := addR_has (r := (x, y)) hI v
                have hB := remR_has (r := (x, y)) hI v
                rw [hR] at hA hB
                by_cases hx : x ≤ v
                · rw [show decide (((x, y) : R).1 ≤ v) = true by simpa using hx] at hA hB
                  by_cases hy : v < y
                  · rw [show decide (v < ((x, y) : R).2) = true by simpa using hy] at hA hB
                    cases hh : hasN L1 v
                    · rw [hh] at hA hB
                      simp only [Bool.false_and, Bool.or_false, Bool.not_false, Bool.and_true, Bool.false_or, Bool.true_or, Bool.true_and, Bool.and_false, Bool.or_true, Bool.not_true] at hA hB
                      go_wp2_with fail
                      refine (iHas (B := w12.heap.size) hbw.size (rA.below hbw (Nat.le_refl _)) (by omega) (Lib.hid rfl) v).mono ?_
                      rintro e w13 ⟨rfl, hb13⟩
                      have hbw := below_next hbw hbw.size hb13
                      rw [hA]
                      go_wp2_with fail
                      refine (lSpan (B := w12.heap.size) hbw.size (rL.below hbw (Nat.le_refl _)) (by omega) (Lib.hid rfl) v).mono ?_
                      rintro e w' ⟨rfl, rfl⟩
                      rw [hh]
                      go_wp2_with fail
                      refine (iHas (B := w12.heap.size) hbw.size (rB.below hbw (Nat.le_refl _)) (by omega) (Lib.hid rfl) v).mono ?_
                      rintro e w14 ⟨rfl, hb14⟩
                      have hbw := below_next hbw hbw.size hb14
                      rw [hB]
                      go_wp2_with fail
                      refine (lSpan (B := w12.heap.size) hbw.size (rL.below hbw (Nat.le_refl _)) (by omega) (Lib.hid rfl) v).mono ?_
                      rintro e w' ⟨rfl, rfl⟩
                      rw [hh]
                      go_wp2
                      go_roundw
                      case rel => exact ⟨v + 1, by omega, by omega, by go_num, hbw⟩
                      case measure => simp [intOf]; omega
                    · rw [hh] at hA hB
                      simp only [Bool.false_and, Bool.or_false, Bool.not_false, Bool.and_true, Bool.false_or, Bool.true_or, Bool.true_and, Bool.and_false, Bool.or_true, Bool.not_true] at hA hB
                      go_wp2_with fail
                      refine (iHas (B := w12.heap.size) hbw.size (rA.below hbw (Nat.le_refl _)) (by omega) (Lib.hid rfl) v).mono ?_
                      rintro e w13 ⟨rfl, hb13⟩
                      have hbw := below_next hbw hbw.size hb13
                      rw [hA]
                      go_wp2_with fail
                      refine (lSpan (B := w12.heap.size) hbw.size (rL.below hbw (Nat.le_refl _)) (by omega) (Lib.hid rfl) v).mono ?_
                      rintro e w' ⟨rfl, rfl⟩
                      rw [hh]
                      go_wp2_with fail
                      refine (iHas (B := w12.heap.size) hbw.size (rB.below hbw (Nat.le_refl _)) (by omega) (Lib.hid rfl) v).mono ?_
                      rintro e w14 ⟨rfl, hb14⟩
                      have hbw := below_next hbw hbw.size hb14
                      rw [hB]
                      go_wp2_with fail
                      refine (lSpan (B := w12.heap.size) hbw.size (rL.below hbw (Nat.le_refl _)) (by omega) (Lib.hid rfl) v).mono ?_
                      rintro e w' ⟨rfl, rfl⟩
                      rw [hh]
                      go_wp2
                      go_roundw
                      case rel => exact ⟨v + 1, by omega, by omega, by go_num, hbw⟩
                      case measure => simp [intOf]; omega
                  · rw [show decide (v < ((x, y) : R).2) = false by simpa using hy] at hA hB
                    cases hh : hasN L1 v
                    · rw [hh] at hA hB
                      simp only [Bool.false_and, Bool.or_false, Bool.not_false, Bool.and_true, Bool.false_or, Bool.true_or, Bool.true_and, Bool.and_false, Bool.or_true, Bool.not_true] at hA hB
                      go_wp2_with fail
                      refine (iHas (B := w12.heap.size) hbw.size (rA.below hbw (Nat.le_refl _)) (by omega) (Lib.hid rfl) v).mono ?_
                      rintro e w13 ⟨rfl, hb13⟩
                      have hbw := below_next hbw hbw.size hb13
                      rw [hA]
                      go_wp2_with fail
                      refine (lSpan (B := w12.heap.size) hbw.size (rL.below hbw (Nat.le_refl _)) (by omega) (Lib.hid rfl) v).mono ?_
                      rintro e w' ⟨rfl, rfl⟩
                      rw [hh]
                      go_wp2_with fail
                      refine (iHas (B := w12.heap.size) hbw.size (rB.below hbw (Nat.le_refl _)) (by omega) (Lib.hid rfl) v).mono ?_
                      rintro e w14 ⟨rfl, hb14⟩
                      have hbw := below_next hbw hbw.size hb14
                      rw [hB]
                      go_wp2_with fail
                      refine (lSpan (B := w12.heap.size) hbw.size (rL.below hbw (Nat.le_refl _)) (by omega) (Lib.hid rfl) v).mono ?_
                      rintro e w' ⟨rfl, rfl⟩
                      rw [hh]
                      go_wp2
                      go_roundw
                      case rel => exact ⟨v + 1, by omega, by omega, by go_num, hbw⟩
                      case measure => simp [intOf]; omega
                    · rw [hh] at hA hB
                      simp only [Bool.false_and, Bool.or_false, Bool.not_false, Bool.and_true, Bool.false_or, Bool.true_or, Bool.true_and, Bool.and_false, Bool.or_true, Bool.not_true] at hA hB
                      go_wp2_with fail
                      refine (iHas (B := w12.heap.size) hbw.size (rA.below hbw (Nat.le_refl _)) (by omega) (Lib.hid rfl) v).mono ?_
                      rintro e w13 ⟨rfl, hb13⟩
                      have hbw := below_next hbw hbw.size hb13
                      rw [hA]
                      go_wp2_with fail
                      refine (lSpan (B := w12.heap.size) hbw.size (rL.below hbw (Nat.le_refl _)) (by omega) (Lib.hid rfl) v).mono ?_
                      rintro e w' ⟨rfl, rfl⟩
                      rw [hh]
                      go_wp2_with fail
                      refine (iHas (B := w12.heap.size) hbw.size (rB.below hbw (Nat.le_refl _)) (by omega) (Lib.hid rfl) v).mono ?_
                      rintro e w14 ⟨rfl, hb14⟩
                      have hbw := below_next hbw hbw.size hb14
                      rw [hB]
                      go_wp2_with fail
                      refine (lSpan (B := w12.heap.size) hbw.size (rL.below hbw (Nat.le_refl _)) (by omega) (Lib.hid rfl) v).mono ?_
                      rintro e w' ⟨rfl, rfl⟩
                      rw [hh]
                      go_wp2
                      go_roundw
                      case rel => exact ⟨v + 1, by omega, by omega, by go_num, hbw⟩
                      case measure => simp [intOf]; omega
                · rw [show decide (((x, y) : R).1 ≤ v) = false by simpa using hx] at hA hB
                  cases hh : hasN L1 v
                  · rw [hh] at hA hB
                    simp only [Bool.false_and, Bool.or_false, Bool.not_false, Bool.and_true, Bool.false_or, Bool.true_or, Bool.true_and, Bool.and_false, Bool.or_true, Bool.not_true] at hA hB
                    go_wp2_with fail
                    refine (iHas (B := w12.heap.size) hbw.size (rA.below hbw (Nat.le_refl _)) (by omega) (Lib.hid rfl) v).mono ?_
                    rintro e w13 ⟨rfl, hb13⟩
                    have hbw := below_next hbw hbw.size hb13
                    rw [hA]
                    go_wp2_with fail
                    refine (lSpan (B := w12.heap.size) hbw.size (rL.below hbw (Nat.le_refl _)) (by omega) (Lib.hid rfl) v).mono ?_
                    rintro e w' ⟨rfl, rfl⟩
                    rw [hh]
                    go_wp2_with fail
                    refine (iHas (B := w12.heap.size) hbw.size (rB.below hbw (Nat.le_refl _)) (by omega) (Lib.hid rfl) v).mono ?_
                    rintro e w14 ⟨rfl, hb14⟩
                    have hbw := below_next hbw hbw.size hb14
                    rw [hB]
                    go_wp2_with fail
                    refine (lSpan (B := w12.heap.size) hbw.size (rL.below hbw (Nat.le_refl _)) (by omega) (Lib.hid rfl) v).mono ?_
                    rintro e w' ⟨rfl, rfl⟩
                    rw [hh]
                    go_wp2
                    go_roundw
                    case rel => exact ⟨v + 1, by omega, by omega, by go_num, hbw⟩
                    case measure => simp [intOf]; omega
                  · rw [hh] at hA hB
                    simp only [Bool.false_and, Bool.or_false, Bool.not_false, Bool.and_true, Bool.false_or, Bool.true_or, Bool.true_and, Bool.and_false, Bool.or_true, Bool.not_true] at hA hB
                    go_wp2_with fail
                    refine (iHas (B := w12.heap.size) hbw.size (rA.below hbw (Nat.le_refl _)) (by omega) (Lib.hid rfl) v).mono ?_
                    rintro e w13 ⟨rfl, hb13⟩
                    have hbw := below_next hbw hbw.size hb13
                    rw [hA]
                    go_wp2_with fail
                    refine (lSpan (B := w12.heap.size) hbw.size (rL.below hbw (Nat.le_refl _)) (by omega) (Lib.hid rfl) v).mono ?_
                    rintro e w' ⟨rfl, rfl⟩
                    rw [hh]
                    go_wp2_with fail
                    refine (iHas (B := w12.heap.size) hbw.size (rB.below hbw (Nat.le_refl _)) (by omega) (Lib.hid rfl) v).mono ?_
                    rintro e w14 ⟨rfl, hb14⟩
                    have hbw := below_next hbw hbw.size hb14
                    rw [hB]
                    go_wp2_with fail
                    refine (lSpan (B := w12.heap.size) hbw.size (rL.below hbw (Nat.le_refl _)) (by omega) (Lib.hid rfl) v).mono ?_
                    rintro e w' ⟨rfl, rfl⟩
                    rw [hh]
                    go_wp2
                    go_roundw
                    case rel => exact ⟨v + 1, by omega, by omega, by go_num, hbw⟩
                    case measure => simp [intOf]; omega
              · have h0w := below_next h012 h012.size hbw
                clear hbw rL rA rB kR hgl h012
                go_wp2_with fail
                refine (drawHas ((hr.below h0w (Nat.le_refl _)).more h0w.size) hs HL).mono ?_
                rintro e t1 ⟨A5, c5, L5, v5, rfl, hl5, hv0, hv1, ho5, hb5⟩
                have h1 := below_next h0w h0w.size hb5
                go_wp2_with fail
                refine (iGap (B := t1.heap.size) (Nat.le_refl _) (own_rd ho5) (by omega) (Lib.hid rfl) v5).mono ?_
                rintro e t2 ⟨rfl, hb6⟩
                have h2 := below_next h1 h1.size hb6
                have ho5 := own_step ho5 hb6
                clear h1 hb6 hb5
                go_wp2_with fail
                refine (sGap (B := t2.heap.size) (Nat.le_refl _) (own_rd ho5) (by omega) (Lib.hid rfl) v5).mono ?_
                rintro e t3 ⟨rfl, hb7⟩
                have h3 := below_next h2 h2.size hb7
                have ho5 := own_step ho5 hb7
                clear h2 hb7
                obtain ⟨gp, hgp⟩ : ∃ gp, gap L5 v5 = gp := ⟨_, rfl⟩
                rw [hgp]
                by_cases hg0 : 0 ≤ gp
                · have hge := gap_ge (l := L5) (g := v5) (by rw [hgp]; exact hg0)
                  rw [hgp] at hge
                  obtain ⟨hge, hno⟩ := hge
                  have HNO := Lib.hid hno
                  clear hno hgp
                  go_wp2_with fail
                  refine (lSpan (B := t3.heap.size) (Nat.le_refl _) (own_rd ho5) (by omega) (Lib.hid rfl) gp).mono ?_
                  rintro e w' ⟨rfl, rfl⟩
                  rw [HNO.out]
                  go_wp2_with fail
                  refine (iHas (B := t3.heap.size) (Nat.le_refl _) (own_rd ho5) (by omega) (Lib.hid rfl) v5).mono ?_
                  rintro e t4 ⟨rfl, hb8⟩
                  have h4 := below_next h3 h3.size hb8
                  have ho5 := own_step ho5 hb8
                  go_wp2_with fail
                  refine (sHas (B := t4.heap.size) (Nat.le_refl _) (own_rd ho5) (by omega) (Lib.hid rfl) v5).mono ?_
                  rintro e w' ⟨rfl, rfl⟩
                  generalize hasN L5 v5 = hb5v
                  clear ho5 hb8 h3
                  go_wp2_with fail
                  refine (drawFmt ((hr.below h4 (Nat.le_refl _)).more h4.size) hs HL).mono ?_
                  rintro e t5 ⟨A6, c6, L6, rfl, hl6, hs6, ho6, hb9⟩
                  have h5 := below_next h4 h4.size hb9
                  clear hb9 h4
                  go_wp2_with fail
                  refine (drawEq ((hr.below h5 (Nat.le_refl _)).more h5.size) hs HL).mono ?_
                  rintro e t6 ⟨A7, c7, L7, A8, c8, L8, rfl, hl7, hl8, ho7, ho8, hb10⟩
                  have h6 := below_next h5 h5.size hb10
                  have ho6 := own_step ho6 hb10
                  clear hb10 h5
                  go_wp2_with fail
                  refine (iFR (B := t6.heap.size) (Nat.le_refl _) (own_rd ho6) (by omega) (Lib.hid rfl) (Lib.hid hs6.bd) (HT.out.below h6 htl)).mono ?_
                  rintro e t7 ⟨rfl, hb11⟩
                  have h7 := below_next h6 h6.size hb11
                  have ho6 := own_step ho6 hb11
                  have ho7 := own_step ho7 hb11
                  have ho8 := own_step ho8 hb11
                  clear hb11 h6
                  go_wp2_with fail
                  refine (sFR (B := t7.heap.size) (Nat.le_refl _) (own_rd ho6) (by omega) (Lib.hid rfl) (Lib.hid hs6.bd)).mono ?_
                  rintro e t8 ⟨rfl, hb12⟩
                  have h8 := below_next h7 h7.size hb12
                  have ho7 := own_step ho7 hb12
                  have ho8 := own_step ho8 hb12
                  generalize fmtR L6 = s6
                  clear hb12 h7 ho6
                  go_wp2_with fail
                  refine (iEq (B := t8.heap.size) (Nat.le_refl _) (own_rd ho7) (own_rd ho8) (by omega) (by omega) (Lib.hid rfl) (Lib.hid rfl)).mono ?_
                  rintro e t9 ⟨rfl, hb13⟩
                  have h9 := below_next h8 h8.size hb13
                  have ho7 := own_step ho7 hb13
                  have ho8 := own_step ho8 hb13
                  clear hb13 h8
                  go_wp2_with fail
                  refine (sEq (B := t9.heap.size) (Nat.le_refl _) (own_rd ho7) (own_rd ho8) (by omega) (by omega) (Lib.hid rfl) (Lib.hid rfl)).mono ?_
                  rintro e t10 ⟨rfl, hb14⟩
                  have h10 := below_next h9 h9.size hb14
                  generalize eqRs L7 L8 = e78
                  clear hb14 h9
                  go_wp2
                  go_ret
                  exact ⟨rfl, h10⟩
                · clear hgp
                  go_wp2_with fail
                  refine (iHas (B := t3.heap.size) (Nat.le_refl _) (own_rd ho5) (by omega) (Lib.hid rfl) v5).mono ?_
                  rintro e t4 ⟨rfl, hb8⟩
                  have h4 := below_next h3 h3.size hb8
                  have ho5 := own_step ho5 hb8
                  go_wp2_with fail
                  refine (sHas (B := t4.heap.size) (Nat.le_refl _) (own_rd ho5) (by omega) (Lib.hid rfl) v5).mono ?_
                  rintro e w' ⟨rfl, rfl⟩
                  generalize hasN L5 v5 = hb5v
                  clear ho5 hb8 h3
                  go_wp2_with fail
                  refine (drawFmt ((hr.below h4 (Nat.le_refl _)).more h4.size) hs HL).mono ?_
                  rintro e t5 ⟨A6, c6, L6, rfl, hl6, hs6, ho6, hb9⟩
                  have h5 := below_next h4 h4.size hb9
                  clear hb9 h4
                  go_wp2_with fail
                  refine (drawEq ((hr.below h5 (Nat.le_refl _)).more h5.size) hs HL).mono ?_
                  rintro e t6 ⟨A7, c7, L7, A8, c8, L8, rfl, hl7, hl8, ho7, ho8, hb10⟩
                  have h6 := below_next h5 h5.size hb10
                  have ho6 := own_step ho6 hb10
                  clear hb10 h5
                  go_wp2_with fail
                  refine (iFR (B := t6.heap.size) (Nat.le_refl _) (own_rd ho6) (by omega) (Lib.hid rfl) (Lib.hid hs6.bd) (HT.out.below h6 htl)).mono ?_
                  rintro e t7 ⟨rfl, hb11⟩
                  have h7 := below_next h6 h6.size hb11
                  have ho6 := own_step ho6 hb11
                  have ho7 := own_step ho7 hb11
                  have ho8 := own_step ho8 hb11
                  clear hb11 h6
                  go_wp2_with fail
                  refine (sFR (B := t7.heap.size) (Nat.le_refl _) (own_rd ho6) (by omega) (Lib.hid rfl) (Lib.hid hs6.bd)).mono ?_
                  rintro e t8 ⟨rfl, hb12⟩
                  have h8 := below_next h7 h7.size hb12
                  have ho7 := own_step ho7 hb12
                  have ho8 := own_step ho8 hb12
                  generalize fmtR L6 = s6
                  clear hb12 h7 ho6
                  go_wp2_with fail
                  refine (iEq (B := t8.heap.size) (Nat.le_refl _) (own_rd ho7) (own_rd ho8) (by omega) (by omega) (Lib.hid rfl) (Lib.hid rfl)).mono ?_
                  rintro e t9 ⟨rfl, hb13⟩
                  have h9 := below_next h8 h8.size hb13
                  have ho7 := own_step ho7 hb13
                  have ho8 := own_step ho8 hb13
                  clear hb13 h8
                  go_wp2_with fail
                  refine (sEq (B := t9.heap.size) (Nat.le_refl _) (own_rd ho7) (own_rd ho8) (by omega) (by omega) (Lib.hid rfl) (Lib.hid rfl)).mono ?_
                  rintro e t10 ⟨rfl, hb14⟩
                  have h10 := below_next h9 h9.size hb14
                  generalize eqRs L7 L8 = e78
                  clear hb14 h9
                  go_wp2
                  go_ret
                  exact ⟨rfl, h10⟩
          · have hR : isR (x, y) = false := by show (decide (0 ≤ x) && decide (x < y) && decide (y ≤ (4611686018427387903 : Int))) = false; rw [decide_eq_true f1, decide_eq_true f2, decide_eq_false f3]; rfl
            have hfd : decide (y ≤ 4611686018427387903) = false := decide_eq_false f3
            have hfe : 4611686018427387903 < y := by omega
            have hfin : True := trivial
            clear hfin
            go_wp2_with fail
            refine (iIs (B := w10.heap.size) (Nat.le_refl _) (own_rd ho2) (by omega) (Lib.hid rfl)).mono ?_
            rintro e w11 ⟨rfl, hb11⟩
            have h011 := below_next h010 h010.size hb11
            have ho1 := own_step ho1 hb11
            have ho2 := own_step ho2 hb11
            have ho3 := own_step ho3 hb11
            have kR := kR.below hb11 kR.lt
            rw [HA.out]
            clear hb11 h010 c0 c1
            go_wp2_with fail
            refine (iIs (B := w11.heap.size) (Nat.le_refl _) (own_rd ho3) (by omega) (Lib.hid rfl)).mono ?_
            rintro e w12 ⟨rfl, hb12⟩
            have h012 := below_next h011 h011.size hb12
            have rL := own_rd (own_step ho1 hb12)
            have rA := own_rd (own_step ho2 hb12)
            have rB := own_rd (own_step ho3 hb12)
            have kR := kR.below hb12 kR.lt
            rw [HB.out]
            clear hb12 h011 ho1 ho2 ho3
            have hgl := kR.lt
            go_wp2_with fail
            go_loopw [8] (fun i wr => ∃ v : Int, -1 ≤ v ∧ v ≤ 40 ∧ i = .int .i64 v ∧ Below w12.heap.size w12 wr) (fun i _ => (40 - intOf i).toNat)
            case atStart => exact ⟨-1, by omega, by omega, rfl, Below.refl _ _⟩
            case round =>
              obtain ⟨v, hv1, hv2, rfl, hbw⟩ := hrel
              by_cases hlt : v < 40
              · have kr := kR.below hbw hgl
                have c0 := kr.cell 0
                have c1 := kr.cell 1
                have hA := addR_has (r := (x, y)) hI v
                have hB := remR_has (r := (x, y)) hI v
                rw [hR] at hA hB
                cases hh : hasN L1 v
                · rw [hh] at hA hB
                  simp only [Bool.false_and, Bool.or_false, Bool.not_false, Bool.and_true, Bool.false_or, Bool.true_or, Bool.true_and] at hA hB
                  go_wp2_with fail
                  refine (iHas (B := w12.heap.size) hbw.size (rA.below hbw (Nat.le_refl _)) (by omega) (Lib.hid rfl) v).mono ?_
                  rintro e w13 ⟨rfl, hb13⟩
                  have hbw := below_next hbw hbw.size hb13
                  rw [hA]
                  go_wp2_with fail
                  refine (lSpan (B := w12.heap.size) hbw.size (rL.below hbw (Nat.le_refl _)) (by omega) (Lib.hid rfl) v).mono ?_
                  rintro e w' ⟨rfl, rfl⟩
                  rw [hh]
                  go_wp2_with fail
                  refine (iHas (B := w12.heap.size) hbw.size (rB.below hbw (Nat.le_refl _)) (by omega) (Lib.hid rfl) v).mono ?_
                  rintro e w14 ⟨rfl, hb14⟩
                  have hbw := below_next hbw hbw.size hb14
                  rw [hB]
                  go_wp2_with fail
                  refine (lSpan (B := w12.heap.size) hbw.size (rL.below hbw (Nat.le_refl _)) (by omega) (Lib.hid rfl) v).mono ?_
                  rintro e w' ⟨rfl, rfl⟩
                  rw [hh]
                  go_wp2
                  go_roundw
                  case rel => exact ⟨v + 1, by omega, by omega, by go_num, hbw⟩
                  case measure => simp [intOf]; omega
                · rw [hh] at hA hB
                  simp only [Bool.false_and, Bool.or_false, Bool.not_false, Bool.and_true, Bool.false_or, Bool.true_or, Bool.true_and] at hA hB
                  go_wp2_with fail
                  refine (iHas (B := w12.heap.size) hbw.size (rA.below hbw (Nat.le_refl _)) (by omega) (Lib.hid rfl) v).mono ?_
                  rintro e w13 ⟨rfl, hb13⟩
                  have hbw := below_next hbw hbw.size hb13
                  rw [hA]
                  go_wp2_with fail
                  refine (lSpan (B := w12.heap.size) hbw.size (rL.below hbw (Nat.le_refl _)) (by omega) (Lib.hid rfl) v).mono ?_
                  rintro e w' ⟨rfl, rfl⟩
                  rw [hh]
                  go_wp2_with fail
                  refine (iHas (B := w12.heap.size) hbw.size (rB.below hbw (Nat.le_refl _)) (by omega) (Lib.hid rfl) v).mono ?_
                  rintro e w14 ⟨rfl, hb14⟩
                  have hbw := below_next hbw hbw.size hb14
                  rw [hB]
                  go_wp2_with fail
                  refine (lSpan (B := w12.heap.size) hbw.size (rL.below hbw (Nat.le_refl _)) (by omega) (Lib.hid rfl) v).mono ?_
                  rintro e w' ⟨rfl, rfl⟩
                  rw [hh]
                  go_wp2
                  go_roundw
                  case rel => exact ⟨v + 1, by omega, by omega, by go_num, hbw⟩
                  case measure => simp [intOf]; omega
              · have h0w := below_next h012 h012.size hbw
                clear hbw rL rA rB kR hgl h012
                go_wp2_with fail
                refine (drawHas ((hr.below h0w (Nat.le_refl _)).more h0w.size) hs HL).mono ?_
                rintro e t1 ⟨A5, c5, L5, v5, rfl, hl5, hv0, hv1, ho5, hb5⟩
                have h1 := below_next h0w h0w.size hb5
                go_wp2_with fail
                refine (iGap (B := t1.heap.size) (Nat.le_refl _) (own_rd ho5) (by omega) (Lib.hid rfl) v5).mono ?_
                rintro e t2 ⟨rfl, hb6⟩
                have h2 := below_next h1 h1.size hb6
                have ho5 := own_step ho5 hb6
                clear h1 hb6 hb5
                go_wp2_with fail
                refine (sGap (B := t2.heap.size) (Nat.le_refl _) (own_rd ho5) (by omega) (Lib.hid rfl) v5).mono ?_
                rintro e t3 ⟨rfl, hb7⟩
                have h3 := below_next h2 h2.size hb7
                have ho5 := own_step ho5 hb7
                clear h2 hb7
                obtain ⟨gp, hgp⟩ : ∃ gp, gap L5 v5 = gp := ⟨_, rfl⟩
                rw [hgp]
                by_cases hg0 : 0 ≤ gp
                · have hge := gap_ge (l := L5) (g := v5) (by rw [hgp]; exact hg0)
                  rw [hgp] at hge
                  obtain ⟨hge, hno⟩ := hge
                  have HNO := Lib.hid hno
                  clear hno hgp
                  go_wp2_with fail
                  refine (lSpan (B := t3.heap.size) (Nat.le_refl _) (own_rd ho5) (by omega) (Lib.hid rfl) gp).mono ?_
                  rintro e w' ⟨rfl, rfl⟩
                  rw [HNO.out]
                  go_wp2_with fail
                  refine (iHas (B := t3.heap.size) (Nat.le_refl _) (own_rd ho5) (by omega) (Lib.hid rfl) v5).mono ?_
                  rintro e t4 ⟨rfl, hb8⟩
                  have h4 := below_next h3 h3.size hb8
                  have ho5 := own_step ho5 hb8
                  go_wp2_with fail
                  refine (sHas (B := t4.heap.size) (Nat.le_refl _) (own_rd ho5) (by omega) (Lib.hid rfl) v5).mono ?_
                  rintro e w' ⟨rfl, rfl⟩
                  generalize hasN L5 v5 = hb5v
                  clear ho5 hb8 h3
                  go_wp2_with fail
                  refine (drawFmt ((hr.below h4 (Nat.le_refl _)).more h4.size) hs HL).mono ?_
                  rintro e t5 ⟨A6, c6, L6, rfl, hl6, hs6, ho6, hb9⟩
                  have h5 := below_next h4 h4.size hb9
                  clear hb9 h4
                  go_wp2_with fail
                  refine (drawEq ((hr.below h5 (Nat.le_refl _)).more h5.size) hs HL).mono ?_
                  rintro e t6 ⟨A7, c7, L7, A8, c8, L8, rfl, hl7, hl8, ho7, ho8, hb10⟩
                  have h6 := below_next h5 h5.size hb10
                  have ho6 := own_step ho6 hb10
                  clear hb10 h5
                  go_wp2_with fail
                  refine (iFR (B := t6.heap.size) (Nat.le_refl _) (own_rd ho6) (by omega) (Lib.hid rfl) (Lib.hid hs6.bd) (HT.out.below h6 htl)).mono ?_
                  rintro e t7 ⟨rfl, hb11⟩
                  have h7 := below_next h6 h6.size hb11
                  have ho6 := own_step ho6 hb11
                  have ho7 := own_step ho7 hb11
                  have ho8 := own_step ho8 hb11
                  clear hb11 h6
                  go_wp2_with fail
                  refine (sFR (B := t7.heap.size) (Nat.le_refl _) (own_rd ho6) (by omega) (Lib.hid rfl) (Lib.hid hs6.bd)).mono ?_
                  rintro e t8 ⟨rfl, hb12⟩
                  have h8 := below_next h7 h7.size hb12
                  have ho7 := own_step ho7 hb12
                  have ho8 := own_step ho8 hb12
                  generalize fmtR L6 = s6
                  clear hb12 h7 ho6
                  go_wp2_with fail
                  refine (iEq (B := t8.heap.size) (Nat.le_refl _) (own_rd ho7) (own_rd ho8) (by omega) (by omega) (Lib.hid rfl) (Lib.hid rfl)).mono ?_
                  rintro e t9 ⟨rfl, hb13⟩
                  have h9 := below_next h8 h8.size hb13
                  have ho7 := own_step ho7 hb13
                  have ho8 := own_step ho8 hb13
                  clear hb13 h8
                  go_wp2_with fail
                  refine (sEq (B := t9.heap.size) (Nat.le_refl _) (own_rd ho7) (own_rd ho8) (by omega) (by omega) (Lib.hid rfl) (Lib.hid rfl)).mono ?_
                  rintro e t10 ⟨rfl, hb14⟩
                  have h10 := below_next h9 h9.size hb14
                  generalize eqRs L7 L8 = e78
                  clear hb14 h9
                  go_wp2
                  go_ret
                  exact ⟨rfl, h10⟩
                · clear hgp
                  go_wp2_with fail
                  refine (iHas (B := t3.heap.size) (Nat.le_refl _) (own_rd ho5) (by omega) (Lib.hid rfl) v5).mono ?_
                  rintro e t4 ⟨rfl, hb8⟩
                  have h4 := below_next h3 h3.size hb8
                  have ho5 := own_step ho5 hb8
                  go_wp2_with fail
                  refine (sHas (B := t4.heap.size) (Nat.le_refl _) (own_rd ho5) (by omega) (Lib.hid rfl) v5).mono ?_
                  rintro e w' ⟨rfl, rfl⟩
                  generalize hasN L5 v5 = hb5v
                  clear ho5 hb8 h3
                  go_wp2_with fail
                  refine (drawFmt ((hr.below h4 (Nat.le_refl _)).more h4.size) hs HL).mono ?_
                  rintro e t5 ⟨A6, c6, L6, rfl, hl6, hs6, ho6, hb9⟩
                  have h5 := below_next h4 h4.size hb9
                  clear hb9 h4
                  go_wp2_with fail
                  refine (drawEq ((hr.below h5 (Nat.le_refl _)).more h5.size) hs HL).mono ?_
                  rintro e t6 ⟨A7, c7, L7, A8, c8, L8, rfl, hl7, hl8, ho7, ho8, hb10⟩
                  have h6 := below_next h5 h5.size hb10
                  have ho6 := own_step ho6 hb10
                  clear hb10 h5
                  go_wp2_with fail
                  refine (iFR (B := t6.heap.size) (Nat.le_refl _) (own_rd ho6) (by omega) (Lib.hid rfl) (Lib.hid hs6.bd) (HT.out.below h6 htl)).mono ?_
                  rintro e t7 ⟨rfl, hb11⟩
                  have h7 := below_next h6 h6.size hb11
                  have ho6 := own_step ho6 hb11
                  have ho7 := own_step ho7 hb11
                  have ho8 := own_step ho8 hb11
                  clear hb11 h6
                  go_wp2_with fail
                  refine (sFR (B := t7.heap.size) (Nat.le_refl _) (own_rd ho6) (by omega) (Lib.hid rfl) (Lib.hid hs6.bd)).mono ?_
                  rintro e t8 ⟨rfl, hb12⟩
                  have h8 := below_next h7 h7.size hb12
                  have ho7 := own_step ho7 hb12
                  have ho8 := own_step ho8 hb12
                  generalize fmtR L6 = s6
                  clear hb12 h7 ho6
                  go_wp2_with fail
                  refine (iEq (B := t8.heap.size) (Nat.le_refl _) (own_rd ho7) (own_rd ho8) (by omega) (by omega) (Lib.hid rfl) (Lib.hid rfl)).mono ?_
                  rintro e t9 ⟨rfl, hb13⟩
                  have h9 := below_next h8 h8.size hb13
                  have ho7 := own_step ho7 hb13
                  have ho8 := own_step ho8 hb13
                  clear hb13 h8
                  go_wp2_with fail
                  refine (sEq (B := t9.heap.size) (Nat.le_refl _) (own_rd ho7) (own_rd ho8) (by omega) (by omega) (Lib.hid rfl) (Lib.hid rfl)).mono ?_
                  rintro e t10 ⟨rfl, hb14⟩
                  have h10 := below_next h9 h9.size hb14
                  generalize eqRs L7 L8 = e78
                  clear hb14 h9
                  go_wp2
                  go_ret
                  exact ⟨rfl, h10⟩
        · have hR : isR (x, y) = false := by show (decide (0 ≤ x) && decide (x < y) && decide (y ≤ (4611686018427387903 : Int))) = false; rw [decide_eq_true f1, decide_eq_false f2]; rfl
          have hfin : True := trivial
          clear hfin
          go_wp2_with fail
          refine (iIs (B := w10.heap.size) (Nat.le_refl _) (own_rd ho2) (by omega) (Lib.hid rfl)).mono ?_
          rintro e w11 ⟨rfl, hb11⟩
          have h011 := below_next h010 h010.size hb11
          have ho1 := own_step ho1 hb11
          have ho2 := own_step ho2 hb11
          have ho3 := own_step ho3 hb11
          have kR := kR.below hb11 kR.lt
          rw [HA.out]
          clear hb11 h010 c0 c1
          go_wp2_with fail
          refine (iIs (B := w11.heap.size) (Nat.le_refl _) (own_rd ho3) (by omega) (Lib.hid rfl)).mono ?_
          rintro e w12 ⟨rfl, hb12⟩
          have h012 := below_next h011 h011.size hb12
          have rL := own_rd (own_step ho1 hb12)
          have rA := own_rd (own_step ho2 hb12)
          have rB := own_rd (own_step ho3 hb12)
          have kR := kR.below hb12 kR.lt
          rw [HB.out]
          clear hb12 h011 ho1 ho2 ho3
          have hgl := kR.lt
          go_wp2_with fail
          go_loopw [8] (fun i wr => ∃ v : Int, -1 ≤ v ∧ v ≤ 40 ∧ i = .int .i64 v ∧ Below w12.heap.size w12 wr) (fun i _ => (40 - intOf i).toNat)
          case atStart => exact ⟨-1, by omega, by omega, rfl, Below.refl _ _⟩
          case round =>
            obtain ⟨v, hv1, hv2, rfl, hbw⟩ := hrel
            by_cases hlt : v < 40
            · have kr := kR.below hbw hgl
              have c0 := kr.cell 0
              have c1 := kr.cell 1
              have hA := addR_has (r := (x, y)) hI v
              have hB := remR_has (r := (x, y)) hI v
              rw [hR] at hA hB
              cases hh : hasN L1 v
              · rw [hh] at hA hB
                simp only [Bool.false_and, Bool.or_false, Bool.not_false, Bool.and_true, Bool.false_or, Bool.true_or, Bool.true_and] at hA hB
                go_wp2_with fail
                refine (iHas (B := w12.heap.size) hbw.size (rA.below hbw (Nat.le_refl _)) (by omega) (Lib.hid rfl) v).mono ?_
                rintro e w13 ⟨rfl, hb13⟩
                have hbw := below_next hbw hbw.size hb13
                rw [hA]
                go_wp2_with fail
                refine (lSpan (B := w12.heap.size) hbw.size (rL.below hbw (Nat.le_refl _)) (by omega) (Lib.hid rfl) v).mono ?_
                rintro e w' ⟨rfl, rfl⟩
                rw [hh]
                go_wp2_with fail
                refine (iHas (B := w12.heap.size) hbw.size (rB.below hbw (Nat.le_refl _)) (by omega) (Lib.hid rfl) v).mono ?_
                rintro e w14 ⟨rfl, hb14⟩
                have hbw := below_next hbw hbw.size hb14
                rw [hB]
                go_wp2_with fail
                refine (lSpan (B := w12.heap.size) hbw.size (rL.below hbw (Nat.le_refl _)) (by omega) (Lib.hid rfl) v).mono ?_
                rintro e w' ⟨rfl, rfl⟩
                rw [hh]
                go_wp2
                go_roundw
                case rel => exact ⟨v + 1, by omega, by omega, by go_num, hbw⟩
                case measure => simp [intOf]; omega
              · rw [hh] at hA hB
                simp only [Bool.false_and, Bool.or_false, Bool.not_false, Bool.and_true, Bool.false_or, Bool.true_or, Bool.true_and] at hA hB
                go_wp2_with fail
                refine (iHas (B := w12.heap.size) hbw.size (rA.below hbw (Nat.le_refl _)) (by omega) (Lib.hid rfl) v).mono ?_
                rintro e w13 ⟨rfl, hb13⟩
                have hbw := below_next hbw hbw.size hb13
                rw [hA]
                go_wp2_with fail
                refine (lSpan (B := w12.heap.size) hbw.size (rL.below hbw (Nat.le_refl _)) (by omega) (Lib.hid rfl) v).mono ?_
                rintro e w' ⟨rfl, rfl⟩
                rw [hh]
                go_wp2_with fail
                refine (iHas (B := w12.heap.size) hbw.size (rB.below hbw (Nat.le_refl _)) (by omega) (Lib.hid rfl) v).mono ?_
                rintro e w14 ⟨rfl, hb14⟩
                have hbw := below_next hbw hbw.size hb14
                rw [hB]
                go_wp2_with fail
                refine (lSpan (B := w12.heap.size) hbw.size (rL.below hbw (Nat.le_refl _)) (by omega) (Lib.hid rfl) v).mono ?_
                rintro e w' ⟨rfl, rfl⟩
                rw [hh]
                go_wp2
                go_roundw
                case rel => exact ⟨v + 1, by omega, by omega, by go_num, hbw⟩
                case measure => simp [intOf]; omega
            · have h0w := below_next h012 h012.size hbw
              clear hbw rL rA rB kR hgl h012
              go_wp2_with fail
              refine (drawHas ((hr.below h0w (Nat.le_refl _)).more h0w.size) hs HL).mono ?_
              rintro e t1 ⟨A5, c5, L5, v5, rfl, hl5, hv0, hv1, ho5, hb5⟩
              have h1 := below_next h0w h0w.size hb5
              go_wp2_with fail
              refine (iGap (B := t1.heap.size) (Nat.le_refl _) (own_rd ho5) (by omega) (Lib.hid rfl) v5).mono ?_
              rintro e t2 ⟨rfl, hb6⟩
              have h2 := below_next h1 h1.size hb6
              have ho5 := own_step ho5 hb6
              clear h1 hb6 hb5
              go_wp2_with fail
              refine (sGap (B := t2.heap.size) (Nat.le_refl _) (own_rd ho5) (by omega) (Lib.hid rfl) v5).mono ?_
              rintro e t3 ⟨rfl, hb7⟩
              have h3 := below_next h2 h2.size hb7
              have ho5 := own_step ho5 hb7
              clear h2 hb7
              obtain ⟨gp, hgp⟩ : ∃ gp, gap L5 v5 = gp := ⟨_, rfl⟩
              rw [hgp]
              by_cases hg0 : 0 ≤ gp
              · have hge := gap_ge (l := L5) (g := v5) (by rw [hgp]; exact hg0)
                rw [hgp] at hge
                obtain ⟨hge, hno⟩ := hge
                have HNO := Lib.hid hno
                clear hno hgp
                go_wp2_with fail
                refine (lSpan (B := t3.heap.size) (Nat.le_refl _) (own_rd ho5) (by omega) (Lib.hid rfl) gp).mono ?_
                rintro e w' ⟨rfl, rfl⟩
                rw [HNO.out]
                go_wp2_with fail
                refine (iHas (B := t3.heap.size) (Nat.le_refl _) (own_rd ho5) (by omega) (Lib.hid rfl) v5).mono ?_
                rintro e t4 ⟨rfl, hb8⟩
                have h4 := below_next h3 h3.size hb8
                have ho5 := own_step ho5 hb8
                go_wp2_with fail
                refine (sHas (B := t4.heap.size) (Nat.le_refl _) (own_rd ho5) (by omega) (Lib.hid rfl) v5).mono ?_
                rintro e w' ⟨rfl, rfl⟩
                generalize hasN L5 v5 = hb5v
                clear ho5 hb8 h3
                go_wp2_with fail
                refine (drawFmt ((hr.below h4 (Nat.le_refl _)).more h4.size) hs HL).mono ?_
                rintro e t5 ⟨A6, c6, L6, rfl, hl6, hs6, ho6, hb9⟩
                have h5 := below_next h4 h4.size hb9
                clear hb9 h4
                go_wp2_with fail
                refine (drawEq ((hr.below h5 (Nat.le_refl _)).more h5.size) hs HL).mono ?_
                rintro e t6 ⟨A7, c7, L7, A8, c8, L8, rfl, hl7, hl8, ho7, ho8, hb10⟩
                have h6 := below_next h5 h5.size hb10
                have ho6 := own_step ho6 hb10
                clear hb10 h5
                go_wp2_with fail
                refine (iFR (B := t6.heap.size) (Nat.le_refl _) (own_rd ho6) (by omega) (Lib.hid rfl) (Lib.hid hs6.bd) (HT.out.below h6 htl)).mono ?_
                rintro e t7 ⟨rfl, hb11⟩
                have h7 := below_next h6 h6.size hb11
                have ho6 := own_step ho6 hb11
                have ho7 := own_step ho7 hb11
                have ho8 := own_step ho8 hb11
                clear hb11 h6
                go_wp2_with fail
                refine (sFR (B := t7.heap.size) (Nat.le_refl _) (own_rd ho6) (by omega) (Lib.hid rfl) (Lib.hid hs6.bd)).mono ?_
                rintro e t8 ⟨rfl, hb12⟩
                have h8 := below_next h7 h7.size hb12
                have ho7 := own_step ho7 hb12
                have ho8 := own_step ho8 hb12
                generalize fmtR L6 = s6
                clear hb12 h7 ho6
                go_wp2_with fail
                refine (iEq (B := t8.heap.size) (Nat.le_refl _) (own_rd ho7) (own_rd ho8) (by omega) (by omega) (Lib.hid rfl) (Lib.hid rfl)).mono ?_
                rintro e t9 ⟨rfl, hb13⟩
                have h9 := below_next h8 h8.size hb13
                have ho7 := own_step ho7 hb13
                have ho8 := own_step ho8 hb13
                clear hb13 h8
                go_wp2_with fail
                refine (sEq (B := t9.heap.size) (Nat.le_refl _) (own_rd ho7) (own_rd ho8) (by omega) (by omega) (Lib.hid rfl) (Lib.hid rfl)).mono ?_
                rintro e t10 ⟨rfl, hb14⟩
                have h10 := below_next h9 h9.size hb14
                generalize eqRs L7 L8 = e78
                clear hb14 h9
                go_wp2
                go_ret
                exact ⟨rfl, h10⟩
              · clear hgp
                go_wp2_with fail
                refine (iHas (B := t3.heap.size) (Nat.le_refl _) (own_rd ho5) (by omega) (Lib.hid rfl) v5).mono ?_
                rintro e t4 ⟨rfl, hb8⟩
                have h4 := below_next h3 h3.size hb8
                have ho5 := own_step ho5 hb8
                go_wp2_with fail
                refine (sHas (B := t4.heap.size) (Nat.le_refl _) (own_rd ho5) (by omega) (Lib.hid rfl) v5).mono ?_
                rintro e w' ⟨rfl, rfl⟩
                generalize hasN L5 v5 = hb5v
                clear ho5 hb8 h3
                go_wp2_with fail
                refine (drawFmt ((hr.below h4 (Nat.le_refl _)).more h4.size) hs HL).mono ?_
                rintro e t5 ⟨A6, c6, L6, rfl, hl6, hs6, ho6, hb9⟩
                have h5 := below_next h4 h4.size hb9
                clear hb9 h4
                go_wp2_with fail
                refine (drawEq ((hr.below h5 (Nat.le_refl _)).more h5.size) hs HL).mono ?_
                rintro e t6 ⟨A7, c7, L7, A8, c8, L8, rfl, hl7, hl8, ho7, ho8, hb10⟩
                have h6 := below_next h5 h5.size hb10
                have ho6 := own_step ho6 hb10
                clear hb10 h5
                go_wp2_with fail
                refine (iFR (B := t6.heap.size) (Nat.le_refl _) (own_rd ho6) (by omega) (Lib.hid rfl) (Lib.hid hs6.bd) (HT.out.below h6 htl)).mono ?_
                rintro e t7 ⟨rfl, hb11⟩
                have h7 := below_next h6 h6.size hb11
                have ho6 := own_step ho6 hb11
                have ho7 := own_step ho7 hb11
                have ho8 := own_step ho8 hb11
                clear hb11 h6
                go_wp2_with fail
                refine (sFR (B := t7.heap.size) (Nat.le_refl _) (own_rd ho6) (by omega) (Lib.hid rfl) (Lib.hid hs6.bd)).mono ?_
                rintro e t8 ⟨rfl, hb12⟩
                have h8 := below_next h7 h7.size hb12
                have ho7 := own_step ho7 hb12
                have ho8 := own_step ho8 hb12
                generalize fmtR L6 = s6
                clear hb12 h7 ho6
                go_wp2_with fail
                refine (iEq (B := t8.heap.size) (Nat.le_refl _) (own_rd ho7) (own_rd ho8) (by omega) (by omega) (Lib.hid rfl) (Lib.hid rfl)).mono ?_
                rintro e t9 ⟨rfl, hb13⟩
                have h9 := below_next h8 h8.size hb13
                have ho7 := own_step ho7 hb13
                have ho8 := own_step ho8 hb13
                clear hb13 h8
                go_wp2_with fail
                refine (sEq (B := t9.heap.size) (Nat.le_refl _) (own_rd ho7) (own_rd ho8) (by omega) (by omega) (Lib.hid rfl) (Lib.hid rfl)).mono ?_
                rintro e t10 ⟨rfl, hb14⟩
                have h10 := below_next h9 h9.size hb14
                generalize eqRs L7 L8 = e78
                clear hb14 h9
                go_wp2
                go_ret
                exact ⟨rfl, h10⟩
      · have hR : isR (x, y) = false := by show (decide (0 ≤ x) && decide (x < y) && decide (y ≤ (4611686018427387903 : Int))) = false; rw [decide_eq_false f1]; rfl
        have hfin : True := trivial
        clear hfin
        go_wp2_with fail
        refine (iIs (B := w10.heap.size) (Nat.le_refl _) (own_rd ho2) (by omega) (Lib.hid rfl)).mono ?_
        rintro e w11 ⟨rfl, hb11⟩
        have h011 := below_next h010 h010.size hb11
        have ho1 := own_step ho1 hb11
        have ho2 := own_step ho2 hb11
        have ho3 := own_step ho3 hb11
        have kR := kR.below hb11 kR.lt
        rw [HA.out]
        clear hb11 h010 c0 c1
        go_wp2_with fail
        refine (iIs (B := w11.heap.size) (Nat.le_refl _) (own_rd ho3) (by omega) (Lib.hid rfl)).mono ?_
        rintro e w12 ⟨rfl, hb12⟩
        have h012 := below_next h011 h011.size hb12
        have rL := own_rd (own_step ho1 hb12)
        have rA := own_rd (own_step ho2 hb12)
        have rB := own_rd (own_step ho3 hb12)
        have kR := kR.below hb12 kR.lt
        rw [HB.out]
        clear hb12 h011 ho1 ho2 ho3
        have hgl := kR.lt
        go_wp2_with fail
        go_loopw [8] (fun i wr => ∃ v : Int, -1 ≤ v ∧ v ≤ 40 ∧ i = .int .i64 v ∧ Below w12.heap.size w12 wr) (fun i _ => (40 - intOf i).toNat)
        case atStart => exact ⟨-1, by omega, by omega, rfl, Below.refl _ _⟩
        case round =>
          obtain ⟨v, hv1, hv2, rfl, hbw⟩ := hrel
          by_cases hlt : v < 40
          · have kr := kR.below hbw hgl
            have c0 := kr.cell 0
            have c1 := kr.cell 1
            have hA := addR_has (r := (x, y)) hI v
            have hB := remR_has (r := (x, y)) hI v
            rw [hR] at hA hB
            cases hh : hasN L1 v
            · rw [hh] at hA hB
              simp only [Bool.false_and, Bool.or_false, Bool.not_false, Bool.and_true, Bool.false_or, Bool.true_or, Bool.true_and] at hA hB
              go_wp2_with fail
              refine (iHas (B := w12.heap.size) hbw.size (rA.below hbw (Nat.le_refl _)) (by omega) (Lib.hid rfl) v).mono ?_
              rintro e w13 ⟨rfl, hb13⟩
              have hbw := below_next hbw hbw.size hb13
              rw [hA]
              go_wp2_with fail
              refine (lSpan (B := w12.heap.size) hbw.size (rL.below hbw (Nat.le_refl _)) (by omega) (Lib.hid rfl) v).mono ?_
              rintro e w' ⟨rfl, rfl⟩
              rw [hh]
              go_wp2_with fail
              refine (iHas (B := w12.heap.size) hbw.size (rB.below hbw (Nat.le_refl _)) (by omega) (Lib.hid rfl) v).mono ?_
              rintro e w14 ⟨rfl, hb14⟩
              have hbw := below_next hbw hbw.size hb14
              rw [hB]
              go_wp2_with fail
              refine (lSpan (B := w12.heap.size) hbw.size (rL.below hbw (Nat.le_refl _)) (by omega) (Lib.hid rfl) v).mono ?_
              rintro e w' ⟨rfl, rfl⟩
              rw [hh]
              go_wp2
              go_roundw
              case rel => exact ⟨v + 1, by omega, by omega, by go_num, hbw⟩
              case measure => simp [intOf]; omega
            · rw [hh] at hA hB
              simp only [Bool.false_and, Bool.or_false, Bool.not_false, Bool.and_true, Bool.false_or, Bool.true_or, Bool.true_and] at hA hB
              go_wp2_with fail
              refine (iHas (B := w12.heap.size) hbw.size (rA.below hbw (Nat.le_refl _)) (by omega) (Lib.hid rfl) v).mono ?_
              rintro e w13 ⟨rfl, hb13⟩
              have hbw := below_next hbw hbw.size hb13
              rw [hA]
              go_wp2_with fail
              refine (lSpan (B := w12.heap.size) hbw.size (rL.below hbw (Nat.le_refl _)) (by omega) (Lib.hid rfl) v).mono ?_
              rintro e w' ⟨rfl, rfl⟩
              rw [hh]
              go_wp2_with fail
              refine (iHas (B := w12.heap.size) hbw.size (rB.below hbw (Nat.le_refl _)) (by omega) (Lib.hid rfl) v).mono ?_
              rintro e w14 ⟨rfl, hb14⟩
              have hbw := below_next hbw hbw.size hb14
              rw [hB]
              go_wp2_with fail
              refine (lSpan (B := w12.heap.size) hbw.size (rL.below hbw (Nat.le_refl _)) (by omega) (Lib.hid rfl) v).mono ?_
              rintro e w' ⟨rfl, rfl⟩
              rw [hh]
              go_wp2
              go_roundw
              case rel => exact ⟨v + 1, by omega, by omega, by go_num, hbw⟩
              case measure => simp [intOf]; omega
          · have h0w := below_next h012 h012.size hbw
            clear hbw rL rA rB kR hgl h012
            go_wp2_with fail
            refine (drawHas ((hr.below h0w (Nat.le_refl _)).more h0w.size) hs HL).mono ?_
            rintro e t1 ⟨A5, c5, L5, v5, rfl, hl5, hv0, hv1, ho5, hb5⟩
            have h1 := below_next h0w h0w.size hb5
            go_wp2_with fail
            refine (iGap (B := t1.heap.size) (Nat.le_refl _) (own_rd ho5) (by omega) (Lib.hid rfl) v5).mono ?_
            rintro e t2 ⟨rfl, hb6⟩
            have h2 := below_next h1 h1.size hb6
            have ho5 := own_step ho5 hb6
            clear h1 hb6 hb5
            go_wp2_with fail
            refine (sGap (B := t2.heap.size) (Nat.le_refl _) (own_rd ho5) (by omega) (Lib.hid rfl) v5).mono ?_
            rintro e t3 ⟨rfl, hb7⟩
            have h3 := below_next h2 h2.size hb7
            have ho5 := own_step ho5 hb7
            clear h2 hb7
            obtain ⟨gp, hgp⟩ : ∃ gp, gap L5 v5 = gp := ⟨_, rfl⟩
            rw [hgp]
            by_cases hg0 : 0 ≤ gp
            · have hge := gap_ge (l := L5) (g := v5) (by rw [hgp]; exact hg0)
              rw [hgp] at hge
              obtain ⟨hge, hno⟩ := hge
              have HNO := Lib.hid hno
              clear hno hgp
              go_wp2_with fail
              refine (lSpan (B := t3.heap.size) (Nat.le_refl _) (own_rd ho5) (by omega) (Lib.hid rfl) gp).mono ?_
              rintro e w' ⟨rfl, rfl⟩
              rw [HNO.out]
              go_wp2_with fail
              refine (iHas (B := t3.heap.size) (Nat.le_refl _) (own_rd ho5) (by omega) (Lib.hid rfl) v5).mono ?_
              rintro e t4 ⟨rfl, hb8⟩
              have h4 := below_next h3 h3.size hb8
              have ho5 := own_step ho5 hb8
              go_wp2_with fail
              refine (sHas (B := t4.heap.size) (Nat.le_refl _) (own_rd ho5) (by omega) (Lib.hid rfl) v5).mono ?_
              rintro e w' ⟨rfl, rfl⟩
              generalize hasN L5 v5 = hb5v
              clear ho5 hb8 h3
              go_wp2_with fail
              refine (drawFmt ((hr.below h4 (Nat.le_refl _)).more h4.size) hs HL).mono ?_
              rintro e t5 ⟨A6, c6, L6, rfl, hl6, hs6, ho6, hb9⟩
              have h5 := below_next h4 h4.size hb9
              clear hb9 h4
              go_wp2_with fail
              refine (drawEq ((hr.below h5 (Nat.le_refl _)).more h5.size) hs HL).mono ?_
              rintro e t6 ⟨A7, c7, L7, A8, c8, L8, rfl, hl7, hl8, ho7, ho8, hb10⟩
              have h6 := below_next h5 h5.size hb10
              have ho6 := own_step ho6 hb10
              clear hb10 h5
              go_wp2_with fail
              refine (iFR (B := t6.heap.size) (Nat.le_refl _) (own_rd ho6) (by omega) (Lib.hid rfl) (Lib.hid hs6.bd) (HT.out.below h6 htl)).mono ?_
              rintro e t7 ⟨rfl, hb11⟩
              have h7 := below_next h6 h6.size hb11
              have ho6 := own_step ho6 hb11
              have ho7 := own_step ho7 hb11
              have ho8 := own_step ho8 hb11
              clear hb11 h6
              go_wp2_with fail
              refine (sFR (B := t7.heap.size) (Nat.le_refl _) (own_rd ho6) (by omega) (Lib.hid rfl) (Lib.hid hs6.bd)).mono ?_
              rintro e t8 ⟨rfl, hb12⟩
              have h8 := below_next h7 h7.size hb12
              have ho7 := own_step ho7 hb12
              have ho8 := own_step ho8 hb12
              generalize fmtR L6 = s6
              clear hb12 h7 ho6
              go_wp2_with fail
              refine (iEq (B := t8.heap.size) (Nat.le_refl _) (own_rd ho7) (own_rd ho8) (by omega) (by omega) (Lib.hid rfl) (Lib.hid rfl)).mono ?_
              rintro e t9 ⟨rfl, hb13⟩
              have h9 := below_next h8 h8.size hb13
              have ho7 := own_step ho7 hb13
              have ho8 := own_step ho8 hb13
              clear hb13 h8
              go_wp2_with fail
              refine (sEq (B := t9.heap.size) (Nat.le_refl _) (own_rd ho7) (own_rd ho8) (by omega) (by omega) (Lib.hid rfl) (Lib.hid rfl)).mono ?_
              rintro e t10 ⟨rfl, hb14⟩
              have h10 := below_next h9 h9.size hb14
              generalize eqRs L7 L8 = e78
              clear hb14 h9
              go_wp2
              go_ret
              exact ⟨rfl, h10⟩
            · clear hgp
              go_wp2_with fail
              refine (iHas (B := t3.heap.size) (Nat.le_refl _) (own_rd ho5) (by omega) (Lib.hid rfl) v5).mono ?_
              rintro e t4 ⟨rfl, hb8⟩
              have h4 := below_next h3 h3.size hb8
              have ho5 := own_step ho5 hb8
              go_wp2_with fail
              refine (sHas (B := t4.heap.size) (Nat.le_refl _) (own_rd ho5) (by omega) (Lib.hid rfl) v5).mono ?_
              rintro e w' ⟨rfl, rfl⟩
              generalize hasN L5 v5 = hb5v
              clear ho5 hb8 h3
              go_wp2_with fail
              refine (drawFmt ((hr.below h4 (Nat.le_refl _)).more h4.size) hs HL).mono ?_
              rintro e t5 ⟨A6, c6, L6, rfl, hl6, hs6, ho6, hb9⟩
              have h5 := below_next h4 h4.size hb9
              clear hb9 h4
              go_wp2_with fail
              refine (drawEq ((hr.below h5 (Nat.le_refl _)).more h5.size) hs HL).mono ?_
              rintro e t6 ⟨A7, c7, L7, A8, c8, L8, rfl, hl7, hl8, ho7, ho8, hb10⟩
              have h6 := below_next h5 h5.size hb10
              have ho6 := own_step ho6 hb10
              clear hb10 h5
              go_wp2_with fail
              refine (iFR (B := t6.heap.size) (Nat.le_refl _) (own_rd ho6) (by omega) (Lib.hid rfl) (Lib.hid hs6.bd) (HT.out.below h6 htl)).mono ?_
              rintro e t7 ⟨rfl, hb11⟩
              have h7 := below_next h6 h6.size hb11
              have ho6 := own_step ho6 hb11
              have ho7 := own_step ho7 hb11
              have ho8 := own_step ho8 hb11
              clear hb11 h6
              go_wp2_with fail
              refine (sFR (B := t7.heap.size) (Nat.le_refl _) (own_rd ho6) (by omega) (Lib.hid rfl) (Lib.hid hs6.bd)).mono ?_
              rintro e t8 ⟨rfl, hb12⟩
              have h8 := below_next h7 h7.size hb12
              have ho7 := own_step ho7 hb12
              have ho8 := own_step ho8 hb12
              generalize fmtR L6 = s6
              clear hb12 h7 ho6
              go_wp2_with fail
              refine (iEq (B := t8.heap.size) (Nat.le_refl _) (own_rd ho7) (own_rd ho8) (by omega) (by omega) (Lib.hid rfl) (Lib.hid rfl)).mono ?_
              rintro e t9 ⟨rfl, hb13⟩
              have h9 := below_next h8 h8.size hb13
              have ho7 := own_step ho7 hb13
              have ho8 := own_step ho8 hb13
              clear hb13 h8
              go_wp2_with fail
              refine (sEq (B := t9.heap.size) (Nat.le_refl _) (own_rd ho7) (own_rd ho8) (by omega) (by omega) (Lib.hid rfl) (Lib.hid rfl)).mono ?_
              rintro e t10 ⟨rfl, hb14⟩
              have h10 := below_next h9 h9.size hb14
              generalize eqRs L7 L8 = e78
              clear hb14 h9
              go_wp2
              go_ret
              exact ⟨rfl, h10⟩
  · have hd : decide ((1048576 : Int) < (n : Int)) = true := by simp; omega
    go_enter Tryd.func4, Tryd.ntmps4
    go_wp2_with (first | (go_at_call 10; go_in))
    go_ret
    exact ⟨rfl, Below.refl _ _⟩
end Go.Proofs.YtaackmiodkpnoaaDoor
