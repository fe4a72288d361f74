/- The walk of the law on PopRange. No conditions. -/
import Derived.Test.YtaackmiodkpnoaaRngQ
import Derived.Test.YtaackmiodkpnoaaRngL4
namespace Go.Proofs.Ytaackmiodkpnoaa
open Go.ChangeShapes Go.WideShapes Go.ChangeAt Go.RowKit Go.Sort RM
set_option linter.unusedVariables false
set_option linter.unusedSimpArgs false
theorem iPop {A : Option Addr} {c n : Nat} {w : World} {B : Nat} {l : List R} (hB : B ≤ w.heap.size) (hr : Rd w B A (encR l)) (hm : n ≤ 1048576) (HL : Hid (l.length = n)) (most : Int) (hmx : most ≤ 9223372036854775807) :
    Calls Try.prog 17 #[.slice A n c, .int .i64 most] w (OutPop w (popR l most)) := by
  cases h : popOk l most
  · rw [popR_no h]; exact iPopNo hB hr hm HL most h
  · rw [popR_yes h]; exact iPopYes hB hr hm HL most hmx h
theorem sPop {A : Option Addr} {c n : Nat} {w : World} {B : Nat} {l : List R} (hB : B ≤ w.heap.size) (hr : Rd w B A (encR l)) (hm : n ≤ 1048576) (HL : Hid (l.length = n)) (most : Int) (hmx : most ≤ 9223372036854775807) :
    Calls Try.prog 16 #[.slice A n c, .int .i64 most] w (OutPop w (popR l most)) := by
  cases h : popOk l most
  · rw [popR_no h]; exact sPopNo hB hr hm HL most h
  · rw [popR_yes h]; exact sPopYes hB hr hm HL most hmx h
theorem popR_len (l : List R) (most : Int) : (popR l most).2.1.length ≤ 2 * l.length := by
  unfold popR
  split
  · exact remR_len _ _
  · show l.length ≤ _; omega
set_option maxRecDepth 20000 in
set_option maxHeartbeats 4000000 in
theorem walk_FnExactPopRange (A : Option Addr) (c n : Nat) (l : List R) (w : World) (hr : Rd w w.heap.size A (encR l)) (hm : n ≤ 9223372036854775807) (HL : Hid (l.length = n)) (most : Int) (hwm : (Lit.int .i64 most).wf = true) :
    Calls Try.prog 4 #[.slice A n c, .int .i64 most] w fun e w' => e = .returned (.bool true) ∧ Below w.heap.size w w' := by
  have hmx : most ≤ 9223372036854775807 := by simp [Lit.wf, IntKind.min, IntKind.max, IntKind.signed, IntKind.bits] at hwm; omega
  clear hwm
  by_cases hn : n ≤ 1048576
  · have hsz : (if n ≤ 1048576 then 1048576 - (n : Int) else -1) = 1048576 - (n : Int) := if_pos hn
    have hd1 : decide (1048576 - (n : Int) < 0) = false := by simp; omega
    obtain ⟨r1, r2, L, t, hP⟩ : ∃ r1 r2 L t, popR l most = ((r1, r2), L, t) := ⟨_, _, _, _, rfl⟩
    have hll : L.length ≤ 2097152 := by have := popR_len l most; rw [hP, HL.out] at this; simp only at this; omega
    have hS := fun (W : World) (A : Option Addr) (c B : Nat) (hB : B ≤ W.heap.size) (hr : Rd W B A (encR l)) => sPop (c := c) hB hr hn HL most hmx
    have hI := fun (W : World) (A : Option Addr) (c B : Nat) (hB : B ≤ W.heap.size) (hr : Rd W B A (encR l)) => iPop (c := c) hB hr hn HL most hmx
    rw [hP] at hS hI
    unfold OutPop at hS hI
    simp only at hS hI
    have hself := eqRs_self l
    have hself1 : eqRb r1 r2 r1 r2 = true := by simp [eqRb]
    have hself2 := eqRs_self L
    have htt : (t != t) = false := by simp
    go_enter Try.func4, Try.ntmps4
    go_wp2_with fail
    refine (szRangeS_any hm).mono ?_
    rintro e w' ⟨rfl, rfl⟩
    rw [hsz]
    go_wp2_with fail
    refine (toRangeS_any (B := w.heap.size) (Nat.le_refl _) hr (by omega) HL).mono ?_
    rintro e w1 ⟨rfl, hb1, ho1⟩
    have h01 := hb1
    go_wp2_with fail
    refine (hS w1 (some ⟨w.heap.size, 0, none⟩) n w1.heap.size (Nat.le_refl _) (own_rd ho1)).mono ?_
    rintro e w2 ⟨A2, cc2, rfl, hb2, ho2⟩
    have h02 := below_next h01 h01.size hb2
    have ra2 := own_step ho1 hb2
    go_wp2_with fail
    have al2 := (Below.refl w2.heap.size w2).alloc (Nat.le_refl _) (.cells #[.int .i64 r1, .int .i64 r2] 31)
    have kW : Bk (w2.alloc (.cells #[.int .i64 r1, .int .i64 r2] 31)) w2.heap.size 31 #[.int .i64 r1, .int .i64 r2] := heap_alloc_new w2 _
    have hgW : w2.heap.size < (w2.alloc (.cells #[.int .i64 r1, .int .i64 r2] 31)).heap.size := kW.lt
    have rL2b := own_step ho2 al2
    have h02b := below_next h02 h02.size al2
    clear al2
    generalize w2.alloc (.cells #[.int .i64 r1, .int .i64 r2] 31) = W2 at kW hgW h02b rL2b ⊢
    have zW : w2.heap.size ≤ W2.heap.size := Nat.le_of_lt hgW
    generalize hGW : w2.heap.size = gW at kW hgW ⊢
    refine (toRangeS_any (B := w.heap.size) h02b.size (hr.below h02b (Nat.le_refl _)) (by omega) HL).mono ?_
    rintro e w3 ⟨rfl, hb3, ho3⟩
    have h03 := below_next h02b h02b.size hb3
    have rL3 := own_step rL2b hb3
    replace kW := kW.below hb3 kW.lt
    have hzX : W2.heap.size < w3.heap.size := (ho3.lt _ rfl).2
    go_wp2_with fail
    refine (hI w3 (some ⟨W2.heap.size, 0, none⟩) n w3.heap.size (Nat.le_refl _) (own_rd ho3)).mono ?_
    rintro e w4 ⟨A4, cc4, rfl, hb4, ho4⟩
    have h04 := below_next h03 h03.size hb4
    have rL4 := own_step rL3 hb4
    have rX4 := own_step ho3 hb4
    replace kW := kW.below hb4 kW.lt
    go_upto_region 8 with (fail)
    have al4 := (Below.refl w4.heap.size w4).alloc (Nat.le_refl _) (.cells #[.int .i64 r1, .int .i64 r2] 31)
    have kG : Bk (w4.alloc (.cells #[.int .i64 r1, .int .i64 r2] 31)) w4.heap.size 31 #[.int .i64 r1, .int .i64 r2] := heap_alloc_new w4 _
    replace kW := kW.below al4 kW.lt
    have hgG : w4.heap.size < (w4.alloc (.cells #[.int .i64 r1, .int .i64 r2] 31)).heap.size := kG.lt
    have rL4b := own_step rL4 al4
    have rX4b := own_step rX4 al4
    have rG4b := own_step ho4 al4
    have h04b := below_next h04 h04.size al4
    clear al4
    generalize w4.alloc (.cells #[.int .i64 r1, .int .i64 r2] 31) = W4 at kG hgG h04b rL4b rX4b rG4b kW ⊢
    have zG : w4.heap.size ≤ W4.heap.size := Nat.le_of_lt hgG
    generalize hGG : w4.heap.size = gG at kG hgG ⊢
    have cW0 := kW.cell 0
    have cW1 := kW.cell 1
    have cG0 := kG.cell 0
    have cG1 := kG.cell 1
    go_wp2_with fail
    refine (eqRange_any r1 r2 r1 r2 _).mono ?_
    rintro e w5 ⟨rfl, hb5⟩
    have h05 := below_next h04b h04b.size hb5
    have rL5 := own_step rL4b hb5
    have rX5 := own_step rX4b hb5
    have rG5 := own_step rG4b hb5
    replace kW := kW.below hb5 kW.lt
    replace kG := kG.below hb5 kG.lt
    rw [hself1]
    go_wp2_with fail
    refine (eqRangeS_any L L _ _ _ _ _ _ w5 w5.heap.size (Nat.le_refl _) (own_rd rG5) (own_rd rL5) (by omega) (by omega) rfl rfl).mono ?_
    rintro e w6 ⟨rfl, hb6⟩
    have h06 := below_next h05 h05.size hb6
    have rL6 := own_step rL5 hb6
    have rX6 := own_step rX5 hb6
    have rG6 := own_step rG5 hb6
    replace kW := kW.below hb6 kW.lt
    replace kG := kG.below hb6 kG.lt
    rw [hself2]
    clear cW0 cW1 cG0 cG1
    go_wp2_with fail
    refine (toRangeS_any (B := w.heap.size) h06.size (hr.below h06 (Nat.le_refl _)) (by omega) HL).mono ?_
    rintro e w7 ⟨rfl, hb7, ho7⟩
    have h07 := below_next h06 h06.size hb7
    have rL7 := own_step rL6 hb7
    have rX7 := own_step rX6 hb7
    have rG7 := own_step rG6 hb7
    replace kW := kW.below hb7 kW.lt
    replace kG := kG.below hb7 kG.lt
    go_wp2_with fail
    refine (eqRangeS_any l l n n _ _ _ _ w7 w7.heap.size (Nat.le_refl _) (own_rd rX7) (own_rd ho7) (by omega) (by omega) HL.out HL.out).mono ?_
    rintro e w8 ⟨rfl, hb8⟩
    have h08 := below_next h07 h07.size hb8
    have rL8 := own_step rL7 hb8
    have rX8 := own_step rX7 hb8
    have rG8 := own_step rG7 hb8
    have rT8 := own_step ho7 hb8
    replace kW := kW.below hb8 kW.lt
    replace kG := kG.below hb8 kG.lt
    rw [hself]
    go_wp2_with fail
    refine (markRangeS_any 1 rX8 (by omega) (by omega) (by omega)).mono ?_
    rintro e w9 ⟨rfl, hoX, hg'⟩
    have hgX : w8.grownBy w9 (some W2.heap.size) := hg'
    clear hg'
    have h09 := below_only h08 hgX h08.size (fun k hk => by injection hk; have := h02b.size; omega)
    have rL9 := own_other rL8 hgX (fun k hk e => by injection hk; have := (ho2.lt _ e).2; omega)
    have rG9 := own_far rG8 hgX (fun k hk => by injection hk; omega)
    replace kW := kW.grown hgX (fun e => by injection e; have := hb4.size; omega)
    replace kG := kG.grown hgX (fun e => by injection e; have := hb4.size; omega)
    have cW0 := kW.cell 0
    have cW1 := kW.cell 1
    have cG0 := kG.cell 0
    have cG1 := kG.cell 1
    go_wp2_with fail
    refine (eqRange_any r1 r2 r1 r2 _).mono ?_
    rintro e w10 ⟨rfl, hb10⟩
    have h010 := below_next h09 h09.size hb10
    have rL10 := own_step rL9 hb10
    have rG10 := own_step rG9 hb10
    replace kW := kW.below hb10 kW.lt
    replace kG := kG.below hb10 kG.lt
    rw [hself1]
    go_wp2_with fail
    refine (eqRangeS_any L L _ _ _ _ _ _ w10 w10.heap.size (Nat.le_refl _) (own_rd rG10) (own_rd rL10) (by omega) (by omega) rfl rfl).mono ?_
    rintro e w11 ⟨rfl, hb11⟩
    have h011 := below_next h010 h010.size hb11
    have rL11 := own_step rL10 hb11
    have rG11 := own_step rG10 hb11
    replace kW := kW.below hb11 kW.lt
    replace kG := kG.below hb11 kG.lt
    rw [hself2]
    clear cW0 cW1 cG0 cG1
    have hA4 : ∀ k, (Value.slice A4 L.length cc4).ownBlock = some k → w3.heap.size ≤ k ∧ k < w4.heap.size := fun k hk => ho4.lt k hk
    go_wp2_with fail
    refine (markRangeS_any 1 rG11 (by omega) (by omega) (by omega)).mono ?_
    rintro e w12 ⟨rfl, hoG, hgG2⟩
    have h012 := below_only h011 hgG2 h011.size (fun k hk => by have := hA4 k hk; have := h03.size; omega)
    have rL12 := own_other rL11 hgG2 (fun k hk e => by have := hA4 k hk; have := (ho2.lt _ e).2; omega)
    replace kW := kW.grown hgG2 (fun e => by have := hA4 _ e.symm; omega)
    replace kG := kG.grown hgG2 (fun e => by have := hA4 _ e.symm; omega)
    go_wp2_with fail
    refine (heldRangeS_any 1 (own_rd hoG) (by omega) (by omega) (by omega)).mono ?_
    rintro e w' ⟨rfl, rfl⟩
    go_wp2_with fail
    refine (toRangeS_any (B := w.heap.size) h012.size (hr.below h012 (Nat.le_refl _)) (by omega) HL).mono ?_
    rintro e w13 ⟨rfl, hb13, ho13⟩
    have h013 := below_next h012 h012.size hb13
    have rL13 := own_step rL12 hb13
    have rG13 := own_step hoG hb13
    replace kW := kW.below hb13 kW.lt
    replace kG := kG.below hb13 kG.lt
    go_wp2_with fail
    refine (hI w13 _ n w13.heap.size (Nat.le_refl _) (own_rd ho13)).mono ?_
    rintro e w14 ⟨A14, cc14, rfl, hb14, ho14⟩
    have h014 := below_next h013 h013.size hb14
    have rL14 := own_step rL13 hb14
    have rG14 := own_step rG13 hb14
    have rY14 := own_step ho13 hb14
    replace kW := kW.below hb14 kW.lt
    replace kG := kG.below hb14 kG.lt
    go_upto_region 25 with (fail)
    have al14 := (Below.refl w14.heap.size w14).alloc (Nat.le_refl _) (.cells #[.int .i64 r1, .int .i64 r2] 31)
    have kH : Bk (w14.alloc (.cells #[.int .i64 r1, .int .i64 r2] 31)) w14.heap.size 31 #[.int .i64 r1, .int .i64 r2] := heap_alloc_new w14 _
    replace kW := kW.below al14 kW.lt
    replace kG := kG.below al14 kG.lt
    have hgH : w14.heap.size < (w14.alloc (.cells #[.int .i64 r1, .int .i64 r2] 31)).heap.size := kH.lt
    have rL14b := own_step rL14 al14
    have rG14b := own_step rG14 al14
    have rH14b := own_step ho14 al14
    have h014b := below_next h014 h014.size al14
    clear al14
    generalize w14.alloc (.cells #[.int .i64 r1, .int .i64 r2] 31) = W14 at kH hgH h014b rL14b rG14b rH14b kW kG ⊢
    have zH : w14.heap.size ≤ W14.heap.size := Nat.le_of_lt hgH
    generalize hGH : w14.heap.size = gH at kH hgH ⊢
    have cW0 := kW.cell 0
    have cW1 := kW.cell 1
    have cH0 := kH.cell 0
    have cH1 := kH.cell 1
    go_wp2_with fail
    refine (eqRange_any r1 r2 r1 r2 _).mono ?_
    rintro e w15 ⟨rfl, hb15⟩
    have h015 := below_next h014b h014b.size hb15
    have rL15 := own_step rL14b hb15
    have rG15 := own_step rG14b hb15
    have rH15 := own_step rH14b hb15
    replace kW := kW.below hb15 kW.lt
    replace kG := kG.below hb15 kG.lt
    replace kH := kH.below hb15 kH.lt
    rw [hself1]
    go_wp2_with fail
    refine (eqRangeS_any L L _ _ _ _ _ _ w15 w15.heap.size (Nat.le_refl _) (own_rd rH15) (own_rd rL15) (by omega) (by omega) rfl rfl).mono ?_
    rintro e w16 ⟨rfl, hb16⟩
    have h016 := below_next h015 h015.size hb16
    have rL16 := own_step rL15 hb16
    have rG16 := own_step rG15 hb16
    have rH16 := own_step rH15 hb16
    replace kW := kW.below hb16 kW.lt
    replace kG := kG.below hb16 kG.lt
    replace kH := kH.below hb16 kH.lt
    rw [hself2]
    clear cW0 cW1 cH0 cH1
    go_wp2_with fail
    refine (heldRangeS_any 1 (own_rd rG16) (by omega) (by omega) (by omega)).mono ?_
    rintro e w' ⟨rfl, rfl⟩
    go_wp2
    go_ret
    exact ⟨rfl, h016⟩
  · have hsz : (if n ≤ 1048576 then 1048576 - (n : Int) else -1) = -1 := if_neg hn
    go_enter Try.func4, Try.ntmps4
    go_wp2_with fail
    refine (szRangeS_any hm).mono ?_
    rintro e w' ⟨rfl, rfl⟩
    rw [hsz]
    go_wp2
    go_ret
    exact ⟨rfl, Below.refl _ _⟩
end Go.Proofs.Ytaackmiodkpnoaa
