/- The walk of the law FnPops, first half. No conditions. -/
import Derived.Test.YtaackmiodkpnoaaDr3
import Derived.Test.YtaackmiodkpnoaaRngL5
namespace Go.Proofs.Ytaackmiodkpnoaa
open Go.ChangeShapes Go.WideShapes Go.ChangeAt Go.RowKit Go.Sort RM
set_option linter.unusedVariables false
set_option linter.unusedSimpArgs false
theorem comR_has {a b : List R} (ha : isRs a = true) (hb : isRs b = true) (n : Int) : hasN (comR a b) n = (hasN a n && hasN b n) := by
  unfold comR; rw [ha, hb]; exact comAll_has a b n
theorem countR_bd (l : List R) : -1 ≤ countR l ∧ countR l ≤ 4611686018427387904 := by
  unfold countR
  cases h : isRs l
  · simp
  · have := cnt_take h l.length
    rw [List.take_length] at this
    exact ⟨by simp; omega, by simp; omega⟩
theorem pop_facts {l L : List R} {x r1 r2 : Int} (h : popR l x = ((r1, r2), L, true)) : 0 ≤ r1 ∧ r1 ≤ r2 ∧ r2 ≤ 4611686018427387904 ∧ r2 - r1 ≤ x ∧ countR L = countR l - (r2 - r1) ∧ (∀ y u, L = y :: u → r2 ≤ y.1) ∧ -1 ≤ countR l ∧ countR l ≤ 4611686018427387904 ∧ -1 ≤ countR L ∧ countR L ≤ 4611686018427387904 := by
  cases ho : popOk l x
  · rw [popR_no ho] at h; simp at h
  · rw [popR_yes ho] at h
    unfold popOk at ho
    simp only [Bool.and_eq_true, decide_eq_true_eq] at ho
    obtain ⟨⟨h0, h1⟩, hI⟩ := ho
    cases l with
    | nil => cases h0
    | cons a t =>
      have hg : (a :: t).getD 0 (0, 0) = a := rfl
      rw [hg] at h
      injection h with h2 h3
      injection h3 with h3 _
      obtain ⟨q1, q2, q3⟩ := pop_law h1 hI a t rfl
      obtain ⟨b0, b1, b2⟩ := isRs_get hI 0 (by simp)
      simp only [List.getElem_cons_zero] at b0 b1 b2
      have hp : popFirst a x = (a.1, a.1 + min x (a.2 - a.1)) := rfl
      rw [h3] at q2 q3
      rw [h2] at q1 q2 q3 hp
      injection hp with p1 p2
      simp only at q1 q2 q3
      have hmn : min x (a.2 - a.1) ≤ a.2 - a.1 := Int.min_le_right _ _
      have hmn2 : 0 ≤ min x (a.2 - a.1) := by omega
      have z1 := countR_bd (a :: t)
      have z2 := countR_bd L
      exact ⟨by omega, by omega, by omega, q1, q2, q3, z1.1, z1.2, z2.1, z2.2⟩
set_option maxRecDepth 20000 in
set_option maxHeartbeats 8000000 in
theorem walk_FnPops {A : Option Addr} {c n : Nat} {l : List Int} (w : World) (hr : Rd w w.heap.size A (bys l)) (hn : n ≤ maxLen) (HL : Hid (l.length = n)) :
    Calls Try.prog 5 #[.slice A n c] w fun e w' => e = .returned (.bool true) ∧ Below w.heap.size w w' := by
  unfold maxLen at hn
  by_cases hs : n ≤ 1048576
  · have hd : decide ((1048576 : Int) < (n : Int)) = false := by simp; omega
    go_enter Try.func5, Try.ntmps5
    go_wp2_with (first | (go_at_call 19; go_in))
    refine (drawCommon hr hs HL).mono ?_
    rintro e w1 ⟨A1, c1, La, A1', c1', Lb, rfl, hla, hlb, hoa, hob, hb1⟩
    go_wp2_with fail
    refine (iCom (B := w1.heap.size) (Nat.le_refl _) (own_rd hoa) (own_rd hob) (by omega) (by omega) (Lib.hid rfl) (Lib.hid rfl)).mono ?_
    rintro e w2 ⟨A2, c2, rfl, hb2, ho2⟩
    have h02 := below_next hb1 hb1.size hb2
    have hoa2 := own_step hoa hb2
    have hob2 := own_step hob hb2
    go_wp2_with fail
    refine (sCom (B := w2.heap.size) (Nat.le_refl _) (own_rd hoa2) (own_rd hob2) (by omega) (by omega) (Lib.hid rfl) (Lib.hid rfl)).mono ?_
    rintro e w3 ⟨A3, c3, rfl, hb3, ho3⟩
    have h03 := below_next h02 h02.size hb3
    have hoa3 := own_step hoa2 hb3
    have hob3 := own_step hob2 hb3
    have ho23 := own_step ho2 hb3
    have hlc : (comR La Lb).length ≤ 1099511627776 := comR_len2 rfl rfl (by omega) (by omega)
    go_wp2_with fail
    refine (sEq (B := w3.heap.size) (Nat.le_refl _) (own_rd ho23) (own_rd ho3) (by omega) (by omega) (Lib.hid rfl) (Lib.hid rfl)).mono ?_
    rintro e w4 ⟨rfl, hb4⟩
    have h04 := below_next h03 h03.size hb4
    have ra := own_rd (own_step hoa3 hb4)
    have rb := own_rd (own_step hob3 hb4)
    have rc := own_rd (own_step ho23 hb4)
    rw [eqRs_self]
    clear hoa hob hoa2 hob2 hoa3 hob3 ho2 ho3 ho23 hb1 hb2 hb3 hb4 h02 h03
    go_wp2_with fail
    go_loopw [6] (fun i wr => ∃ k : Nat, k ≤ 40 ∧ i = .int .i64 k ∧ Below w4.heap.size w4 wr) (fun i _ => 40 - (intOf i).toNat)
    case atStart => exact ⟨0, by decide, rfl, Below.refl _ _⟩
    case round =>
      obtain ⟨k, hk, rfl, hbw⟩ := hrel
      have h0w := below_next h04 h04.size hbw
      by_cases hlt : k < 40
      · have d4 : decide ((k : Int) < 40) = true := by simp; omega
        go_wp2_with fail
        refine (sIs (B := w4.heap.size) hbw.size (ra.below hbw (Nat.le_refl _)) (by omega) (Lib.hid rfl)).mono ?_
        rintro e w5 ⟨rfl, hb5⟩
        have h05 := below_next h0w h0w.size hb5
        have hbw5 := below_next hbw hbw.size hb5
        cases hI : isRs La
        · have hrc := (hr.below h05 (Nat.le_refl _)).more h05.size
          go_wp2_with fail
          refine (drawPop hrc hs HL).mono ?_
          rintro e w5 ⟨A5, c5, L5, x, rfl, hl5, hx0, hx1, ho5, hb5⟩
          have h05 := below_next h05 h05.size hb5
          obtain ⟨r1, r2, L, t, hP⟩ : ∃ r1 r2 L t, popR L5 x = ((r1, r2), L, t) := ⟨_, _, _, _, rfl⟩
          have hll : L.length ≤ 10 := by have := popR_len L5 x; rw [hP] at this; simp only at this; omega
          have hS := fun (W : World) (A : Option Addr) (c B : Nat) (hB : B ≤ W.heap.size) (hr : Rd W B A (encR L5)) => sPop (c := c) hB hr (show L5.length ≤ 1048576 by omega) (Lib.hid rfl) x (by omega)
          have hI := fun (W : World) (A : Option Addr) (c B : Nat) (hB : B ≤ W.heap.size) (hr : Rd W B A (encR L5)) => iPop (c := c) hB hr (show L5.length ≤ 1048576 by omega) (Lib.hid rfl) x (by omega)
          rw [hP] at hS hI
          unfold OutPop at hS hI
          simp only at hS hI
          have HP := Lib.hid hP; clear hP
          have hself1 : eqRb r1 r2 r1 r2 = true := by simp [eqRb]
          have hne := fun W => run_neq_rng r1 r2 r1 r2 W
          simp only [hself1, Bool.not_true] at hne
          clear hrc hb5
          go_wp2_with fail
          refine (hI w5 A5 c5 w5.heap.size (Nat.le_refl _) (own_rd ho5)).mono ?_
          rintro e w6 ⟨A6, c6, rfl, hb6, ho6⟩
          have ho56 := own_step ho5 hb6
          have h06 := below_next h05 h05.size hb6
          go_wp2_with fail
          have al := (Below.refl w6.heap.size w6).alloc (Nat.le_refl _) (.cells #[.int .i64 r1, .int .i64 r2] 31)
          have kR : Bk (w6.alloc (.cells #[.int .i64 r1, .int .i64 r2] 31)) w6.heap.size 31 #[.int .i64 r1, .int .i64 r2] := heap_alloc_new w6 _
          have ho56' := own_step ho56 al
          have ho66 := own_step ho6 al
          have h06' := below_next h06 h06.size al
          clear al ho5 ho56 ho6 h06 hb6 h05
          generalize w6.alloc (.cells #[.int .i64 r1, .int .i64 r2] 31) = W6 at kR ho56' ho66 h06' ⊢
          generalize w6.heap.size = gR at kR ⊢
          refine (hS W6 A5 c5 W6.heap.size (Nat.le_refl _) (own_rd ho56')).mono ?_
          rintro e w7 ⟨A7, c7, rfl, hb7, ho7⟩
          have ho57 := own_step ho56' hb7
          have ho67 := own_step ho66 hb7
          have h07 := below_next h06' h06'.size hb7
          replace kR := kR.below hb7 kR.lt
          go_wp2_with fail
          have al := (Below.refl w7.heap.size w7).alloc (Nat.le_refl _) (.cells #[.int .i64 r1, .int .i64 r2] 31)
          have kX : Bk (w7.alloc (.cells #[.int .i64 r1, .int .i64 r2] 31)) w7.heap.size 31 #[.int .i64 r1, .int .i64 r2] := heap_alloc_new w7 _
          have ho57' := own_step ho57 al
          have ho67' := own_step ho67 al
          have ho77 := own_step ho7 al
          have h07' := below_next h07 h07.size al
          replace kR := kR.below al kR.lt
          clear al ho57 ho67 ho7 h07 hb7 ho56' ho66 h06'
          generalize w7.alloc (.cells #[.int .i64 r1, .int .i64 r2] 31) = W7 at kR kX ho57' ho67' ho77 h07' ⊢
          generalize w7.heap.size = gX at kX ⊢
          refine (iCount (B := W7.heap.size) (Nat.le_refl _) (own_rd ho57') (by omega) (Lib.hid rfl)).mono ?_
          rintro e w8 ⟨rfl, hb8⟩
          have ho58 := own_step ho57' hb8
          have ho68 := own_step ho67' hb8
          have ho78 := own_step ho77 hb8
          have h08 := below_next h07' h07'.size hb8
          replace kR := kR.below hb8 kR.lt
          replace kX := kX.below hb8 kX.lt
          clear ho57' ho67' ho77 h07' hb8
          have c0 := kR.cell 0
          have c1 := kR.cell 1
          have d0 := kX.cell 0
          have d1 := kX.cell 1
          go_wp2_with fail
          refine (sEq (B := w8.heap.size) (Nat.le_refl _) (own_rd ho68) (own_rd ho78) (by omega) (by omega) (Lib.hid rfl) (Lib.hid rfl)).mono ?_
          rintro e w9 ⟨rfl, hb9⟩
          have ho59 := own_step ho58 hb9
          have ho79 := own_step ho78 hb9
          have h09 := below_next h08 h08.size hb9
          replace kR := kR.below hb9 kR.lt
          rw [eqRs_self]
          clear ho58 ho68 ho78 h08 hb9 c0 c1 d0 d1 kX
          go_wp2_with fail
          refine (sCount (B := w9.heap.size) (Nat.le_refl _) (own_rd ho59) (by omega) (Lib.hid rfl)).mono ?_
          rintro e w10 ⟨rfl, hb10⟩
          have ho710 := own_step ho79 hb10
          have h010 := below_next h09 h09.size hb10
          replace kR := kR.below hb10 kR.lt
          clear ho59 ho79 h09 hb10
          have c0 := kR.cell 0
          have c1 := kR.cell 1
          have hgl := kR.lt
          have k0 := cell_regrown c0
          have k1 := cell_regrown c1
          have hcq := fun (d : Nat) (os : Array Obj) => iCount (c := c7) (n := L.length) (B := w10.heap.size) (below_regrown w10 d os).size ((own_rd ho710).below (below_regrown w10 d os) (Nat.le_refl _)) (by omega) (Lib.hid rfl)
          cases t
          · go_wp2_with fail
            refine wp_region_quiet_below (by kernel_rfl) (by kernel_rfl) ?_
            repeat (go_big_quiet_step ((go_at_call 25; exact Calls.regrown_of (hcq _ _))))
            refine wpQuiet_nil ?_
            intro _ hw'
            obtain ⟨⟨dq, osq⟩, hw''⟩ := hw'
            subst hw''
            have hb2 := below_next h010 h010.size (below_regrown w10 dq osq)
            generalize grow (redrawn w10 dq) osq = w11 at hb2 ⊢
            go_wp2
            go_ret
            exact ⟨rfl, hb2⟩
          · obtain ⟨hr0, hr12, hr2, hmx, hcn, hfirst, hca, hcb, hcc, hcd⟩ := pop_facts HP.out
            generalize countR L5 = cl at hcn hca hcb ⊢
            generalize countR L = cL at hcn hcc hcd hcq ⊢
            have e1 : decide (r2 - r1 ≤ x) = true := by simp; omega
            have e2 : (cL == cl - (r2 - r1)) = true := by simp; omega
            rcases L with _ | ⟨⟨y1, y2⟩, u⟩
            · go_wp2_with fail
              refine wp_region_quiet_below (by kernel_rfl) (by kernel_rfl) ?_
              repeat (go_big_quiet_step ((go_at_call 25; exact Calls.regrown_of (hcq _ _))))
              refine wpQuiet_nil ?_
              intro _ hw'
              obtain ⟨⟨dq, osq⟩, hw''⟩ := hw'
              subst hw''
              have hb2 := below_next h010 h010.size (below_regrown w10 dq osq)
              generalize grow (redrawn w10 dq) osq = w11 at hb2 ⊢
              go_wp2
              go_ret
              exact ⟨rfl, hb2⟩
            · have hy1 := hfirst _ _ rfl
              have e3 : decide (r2 ≤ y1) = true := by simp; exact hy1
              obtain ⟨b, off, y1', y2', rfl, hb, HXy, d0, d1⟩ := (own_rd ho710).rng (k := 0) (by simp)
              obtain ⟨rfl, rfl⟩ : y1 = y1' ∧ y2 = y2' := by have := HXy.out; simpa using this
              simp only [Nat.zero_mul, Nat.add_zero] at d0 d1
              have k2 := cell_regrown d0
              have hun : ((((y1, y2) :: u : List R).length : Int) == 0) = false := by first | (simp; done) | (simp; omega)
              have hu0 : (0 : Int) < (((y1, y2) :: u : List R).length : Int) := by first | (simp; done) | (simp; omega)
              generalize ((y1, y2) :: u : List R).length = m at *
              go_wp2_with fail
              refine wp_region_quiet_below (by kernel_rfl) (by kernel_rfl) ?_
              repeat (go_big_quiet_step ((go_at_call 25; exact Calls.regrown_of (hcq _ _))))
              refine wpQuiet_nil ?_
              intro _ hw'
              obtain ⟨⟨dq, osq⟩, hw''⟩ := hw'
              subst hw''
              have hb2 := below_next h010 h010.size (below_regrown w10 dq osq)
              generalize grow (redrawn w10 dq) osq = w11 at hb2 ⊢
              go_wp2
              go_ret
              exact ⟨rfl, hb2⟩
        · go_wp2_with fail
          refine (sIs (B := w4.heap.size) hbw5.size (rb.below hbw5 (Nat.le_refl _)) (by omega) (Lib.hid rfl)).mono ?_
          rintro e w6 ⟨rfl, hb6⟩
          have h06 := below_next h05 h05.size hb6
          have hbw6 := below_next hbw5 hbw5.size hb6
          cases hJ : isRs Lb
          · have hrc := (hr.below h06 (Nat.le_refl _)).more h06.size
            go_wp2_with fail
            refine (drawPop hrc hs HL).mono ?_
            rintro e w5 ⟨A5, c5, L5, x, rfl, hl5, hx0, hx1, ho5, hb5⟩
            have h05 := below_next h06 h06.size hb5
            obtain ⟨r1, r2, L, t, hP⟩ : ∃ r1 r2 L t, popR L5 x = ((r1, r2), L, t) := ⟨_, _, _, _, rfl⟩
            have hll : L.length ≤ 10 := by have := popR_len L5 x; rw [hP] at this; simp only at this; omega
            have hS := fun (W : World) (A : Option Addr) (c B : Nat) (hB : B ≤ W.heap.size) (hr : Rd W B A (encR L5)) => sPop (c := c) hB hr (show L5.length ≤ 1048576 by omega) (Lib.hid rfl) x (by omega)
            have hI := fun (W : World) (A : Option Addr) (c B : Nat) (hB : B ≤ W.heap.size) (hr : Rd W B A (encR L5)) => iPop (c := c) hB hr (show L5.length ≤ 1048576 by omega) (Lib.hid rfl) x (by omega)
            rw [hP] at hS hI
            unfold OutPop at hS hI
            simp only at hS hI
            have HP := Lib.hid hP; clear hP
            have hself1 : eqRb r1 r2 r1 r2 = true := by simp [eqRb]
            have hne := fun W => run_neq_rng r1 r2 r1 r2 W
            simp only [hself1, Bool.not_true] at hne
            clear hrc hb5
            go_wp2_with fail
            refine (hI w5 A5 c5 w5.heap.size (Nat.le_refl _) (own_rd ho5)).mono ?_
            rintro e w6 ⟨A6, c6, rfl, hb6, ho6⟩
            have ho56 := own_step ho5 hb6
            have h06 := below_next h05 h05.size hb6
            go_wp2_with fail
            have al := (Below.refl w6.heap.size w6).alloc (Nat.le_refl _) (.cells #[.int .i64 r1, .int .i64 r2] 31)
            have kR : Bk (w6.alloc (.cells #[.int .i64 r1, .int .i64 r2] 31)) w6.heap.size 31 #[.int .i64 r1, .int .i64 r2] := heap_alloc_new w6 _
            have ho56' := own_step ho56 al
            have ho66 := own_step ho6 al
            have h06' := below_next h06 h06.size al
            clear al ho5 ho56 ho6 h06 hb6 h05
            generalize w6.alloc (.cells #[.int .i64 r1, .int .i64 r2] 31) = W6 at kR ho56' ho66 h06' ⊢
            generalize w6.heap.size = gR at kR ⊢
            refine (hS W6 A5 c5 W6.heap.size (Nat.le_refl _) (own_rd ho56')).mono ?_
            rintro e w7 ⟨A7, c7, rfl, hb7, ho7⟩
            have ho57 := own_step ho56' hb7
            have ho67 := own_step ho66 hb7
            have h07 := below_next h06' h06'.size hb7
            replace kR := kR.below hb7 kR.lt
            go_wp2_with fail
            have al := (Below.refl w7.heap.size w7).alloc (Nat.le_refl _) (.cells #[.int .i64 r1, .int .i64 r2] 31)
            have kX : Bk (w7.alloc (.cells #[.int .i64 r1, .int .i64 r2] 31)) w7.heap.size 31 #[.int .i64 r1, .int .i64 r2] := heap_alloc_new w7 _
            have ho57' := own_step ho57 al
            have ho67' := own_step ho67 al
            have ho77 := own_step ho7 al
            have h07' := below_next h07 h07.size al
            replace kR := kR.below al kR.lt
            clear al ho57 ho67 ho7 h07 hb7 ho56' ho66 h06'
            generalize w7.alloc (.cells #[.int .i64 r1, .int .i64 r2] 31) = W7 at kR kX ho57' ho67' ho77 h07' ⊢
            generalize w7.heap.size = gX at kX ⊢
            refine (iCount (B := W7.heap.size) (Nat.le_refl _) (own_rd ho57') (by omega) (Lib.hid rfl)).mono ?_
            rintro e w8 ⟨rfl, hb8⟩
            have ho58 := own_step ho57' hb8
            have ho68 := own_step ho67' hb8
            have ho78 := own_step ho77 hb8
            have h08 := below_next h07' h07'.size hb8
            replace kR := kR.below hb8 kR.lt
            replace kX := kX.below hb8 kX.lt
            clear ho57' ho67' ho77 h07' hb8
            have c0 := kR.cell 0
            have c1 := kR.cell 1
            have d0 := kX.cell 0
            have d1 := kX.cell 1
            go_wp2_with fail
            refine (sEq (B := w8.heap.size) (Nat.le_refl _) (own_rd ho68) (own_rd ho78) (by omega) (by omega) (Lib.hid rfl) (Lib.hid rfl)).mono ?_
            rintro e w9 ⟨rfl, hb9⟩
            have ho59 := own_step ho58 hb9
            have ho79 := own_step ho78 hb9
            have h09 := below_next h08 h08.size hb9
            replace kR := kR.below hb9 kR.lt
            rw [eqRs_self]
            clear ho58 ho68 ho78 h08 hb9 c0 c1 d0 d1 kX
            go_wp2_with fail
            refine (sCount (B := w9.heap.size) (Nat.le_refl _) (own_rd ho59) (by omega) (Lib.hid rfl)).mono ?_
            rintro e w10 ⟨rfl, hb10⟩
            have ho710 := own_step ho79 hb10
            have h010 := below_next h09 h09.size hb10
            replace kR := kR.below hb10 kR.lt
            clear ho59 ho79 h09 hb10
            have c0 := kR.cell 0
            have c1 := kR.cell 1
            have hgl := kR.lt
            have k0 := cell_regrown c0
            have k1 := cell_regrown c1
            have hcq := fun (d : Nat) (os : Array Obj) => iCount (c := c7) (n := L.length) (B := w10.heap.size) (below_regrown w10 d os).size ((own_rd ho710).below (below_regrown w10 d os) (Nat.le_refl _)) (by omega) (Lib.hid rfl)
            cases t
            · go_wp2_with fail
              refine wp_region_quiet_below (by kernel_rfl) (by kernel_rfl) ?_
              repeat (go_big_quiet_step ((go_at_call 25; exact Calls.regrown_of (hcq _ _))))
              refine wpQuiet_nil ?_
              intro _ hw'
              obtain ⟨⟨dq, osq⟩, hw''⟩ := hw'
              subst hw''
              have hb2 := below_next h010 h010.size (below_regrown w10 dq osq)
              generalize grow (redrawn w10 dq) osq = w11 at hb2 ⊢
              go_wp2
              go_ret
              exact ⟨rfl, hb2⟩
            · obtain ⟨hr0, hr12, hr2, hmx, hcn, hfirst, hca, hcb, hcc, hcd⟩ := pop_facts HP.out
              generalize countR L5 = cl at hcn hca hcb ⊢
              generalize countR L = cL at hcn hcc hcd hcq ⊢
              have e1 : decide (r2 - r1 ≤ x) = true := by simp; omega
              have e2 : (cL == cl - (r2 - r1)) = true := by simp; omega
              rcases L with _ | ⟨⟨y1, y2⟩, u⟩
              · go_wp2_with fail
                refine wp_region_quiet_below (by kernel_rfl) (by kernel_rfl) ?_
                repeat (go_big_quiet_step ((go_at_call 25; exact Calls.regrown_of (hcq _ _))))
                refine wpQuiet_nil ?_
                intro _ hw'
                obtain ⟨⟨dq, osq⟩, hw''⟩ := hw'
                subst hw''
                have hb2 := below_next h010 h010.size (below_regrown w10 dq osq)
                generalize grow (redrawn w10 dq) osq = w11 at hb2 ⊢
                go_wp2
                go_ret
                exact ⟨rfl, hb2⟩
              · have hy1 := hfirst _ _ rfl
                have e3 : decide (r2 ≤ y1) = true := by simp; exact hy1
                obtain ⟨b, off, y1', y2', rfl, hb, HXy, d0, d1⟩ := (own_rd ho710).rng (k := 0) (by simp)
                obtain ⟨rfl, rfl⟩ : y1 = y1' ∧ y2 = y2' := by have := HXy.out; simpa using this
                simp only [Nat.zero_mul, Nat.add_zero] at d0 d1
                have k2 := cell_regrown d0
                have hun : ((((y1, y2) :: u : List R).length : Int) == 0) = false := by first | (simp; done) | (simp; omega)
                have hu0 : (0 : Int) < (((y1, y2) :: u : List R).length : Int) := by first | (simp; done) | (simp; omega)
                generalize ((y1, y2) :: u : List R).length = m at *
                go_wp2_with fail
                refine wp_region_quiet_below (by kernel_rfl) (by kernel_rfl) ?_
                repeat (go_big_quiet_step ((go_at_call 25; exact Calls.regrown_of (hcq _ _))))
                refine wpQuiet_nil ?_
                intro _ hw'
                obtain ⟨⟨dq, osq⟩, hw''⟩ := hw'
                subst hw''
                have hb2 := below_next h010 h010.size (below_regrown w10 dq osq)
                generalize grow (redrawn w10 dq) osq = w11 at hb2 ⊢
                go_wp2
                go_ret
                exact ⟨rfl, hb2⟩
          · have hcr := comR_has hI hJ (k : Int)
            go_wp2_with fail
            refine (lSpan (B := w4.heap.size) hbw6.size (rc.below hbw6 (Nat.le_refl _)) (by omega) (Lib.hid rfl) _).mono ?_
            rintro e w' ⟨rfl, rfl⟩
            rw [hcr]
            go_wp2_with fail
            refine (lSpan (B := w4.heap.size) hbw6.size (ra.below hbw6 (Nat.le_refl _)) (by omega) (Lib.hid rfl) _).mono ?_
            rintro e w' ⟨rfl, rfl⟩
            cases hha : hasN La (k : Int)
            · go_wp2
              go_roundw
              case rel => exact ⟨k + 1, by omega, by go_num, hbw6⟩
              case measure => simp [intOf]; omega
            · go_wp2_with fail
              refine (lSpan (B := w4.heap.size) hbw6.size (rb.below hbw6 (Nat.le_refl _)) (by omega) (Lib.hid rfl) _).mono ?_
              rintro e w' ⟨rfl, rfl⟩
              cases hhb : hasN Lb (k : Int)
              · go_wp2
                go_roundw
                case rel => exact ⟨k + 1, by omega, by go_num, hbw6⟩
                case measure => simp [intOf]; omega
              · go_wp2
                go_roundw
                case rel => exact ⟨k + 1, by omega, by go_num, hbw6⟩
                case measure => simp [intOf]; omega
      · have d4 : decide ((k : Int) < 40) = false := by simp; omega
        have hrc := (hr.below h0w (Nat.le_refl _)).more h0w.size
        go_wp2_with fail
        refine (drawPop hrc hs HL).mono ?_
        rintro e w5 ⟨A5, c5, L5, x, rfl, hl5, hx0, hx1, ho5, hb5⟩
        have h05 := below_next h0w h0w.size hb5
        obtain ⟨r1, r2, L, t, hP⟩ : ∃ r1 r2 L t, popR L5 x = ((r1, r2), L, t) := ⟨_, _, _, _, rfl⟩
        have hll : L.length ≤ 10 := by have := popR_len L5 x; rw [hP] at this; simp only at this; omega
        have hS := fun (W : World) (A : Option Addr) (c B : Nat) (hB : B ≤ W.heap.size) (hr : Rd W B A (encR L5)) => sPop (c := c) hB hr (show L5.length ≤ 1048576 by omega) (Lib.hid rfl) x (by omega)
        have hI := fun (W : World) (A : Option Addr) (c B : Nat) (hB : B ≤ W.heap.size) (hr : Rd W B A (encR L5)) => iPop (c := c) hB hr (show L5.length ≤ 1048576 by omega) (Lib.hid rfl) x (by omega)
        rw [hP] at hS hI
        unfold OutPop at hS hI
        simp only at hS hI
        have HP := Lib.hid hP; clear hP
        have hself1 : eqRb r1 r2 r1 r2 = true := by simp [eqRb]
        have hne := fun W => run_neq_rng r1 r2 r1 r2 W
        simp only [hself1, Bool.not_true] at hne
        clear hrc hb5
        go_wp2_with fail
        refine (hI w5 A5 c5 w5.heap.size (Nat.le_refl _) (own_rd ho5)).mono ?_
        rintro e w6 ⟨A6, c6, rfl, hb6, ho6⟩
        have ho56 := own_step ho5 hb6
        have h06 := below_next h05 h05.size hb6
        go_wp2_with fail
        have al := (Below.refl w6.heap.size w6).alloc (Nat.le_refl _) (.cells #[.int .i64 r1, .int .i64 r2] 31)
        have kR : Bk (w6.alloc (.cells #[.int .i64 r1, .int .i64 r2] 31)) w6.heap.size 31 #[.int .i64 r1, .int .i64 r2] := heap_alloc_new w6 _
        have ho56' := own_step ho56 al
        have ho66 := own_step ho6 al
        have h06' := below_next h06 h06.size al
        clear al ho5 ho56 ho6 h06 hb6 h05
        generalize w6.alloc (.cells #[.int .i64 r1, .int .i64 r2] 31) = W6 at kR ho56' ho66 h06' ⊢
        generalize w6.heap.size = gR at kR ⊢
        refine (hS W6 A5 c5 W6.heap.size (Nat.le_refl _) (own_rd ho56')).mono ?_
        rintro e w7 ⟨A7, c7, rfl, hb7, ho7⟩
        have ho57 := own_step ho56' hb7
        have ho67 := own_step ho66 hb7
        have h07 := below_next h06' h06'.size hb7
        replace kR := kR.below hb7 kR.lt
        go_wp2_with fail
        have al := (Below.refl w7.heap.size w7).alloc (Nat.le_refl _) (.cells #[.int .i64 r1, .int .i64 r2] 31)
        have kX : Bk (w7.alloc (.cells #[.int .i64 r1, .int .i64 r2] 31)) w7.heap.size 31 #[.int .i64 r1, .int .i64 r2] := heap_alloc_new w7 _
        have ho57' := own_step ho57 al
        have ho67' := own_step ho67 al
        have ho77 := own_step ho7 al
        have h07' := below_next h07 h07.size al
        replace kR := kR.below al kR.lt
        clear al ho57 ho67 ho7 h07 hb7 ho56' ho66 h06'
        generalize w7.alloc (.cells #[.int .i64 r1, .int .i64 r2] 31) = W7 at kR kX ho57' ho67' ho77 h07' ⊢
        generalize w7.heap.size = gX at kX ⊢
        refine (iCount (B := W7.heap.size) (Nat.le_refl _) (own_rd ho57') (by omega) (Lib.hid rfl)).mono ?_
        rintro e w8 ⟨rfl, hb8⟩
        have ho58 := own_step ho57' hb8
        have ho68 := own_step ho67' hb8
        have ho78 := own_step ho77 hb8
        have h08 := below_next h07' h07'.size hb8
        replace kR := kR.below hb8 kR.lt
        replace kX := kX.below hb8 kX.lt
        clear ho57' ho67' ho77 h07' hb8
        have c0 := kR.cell 0
        have c1 := kR.cell 1
        have d0 := kX.cell 0
        have d1 := kX.cell 1
        go_wp2_with fail
        refine (sEq (B := w8.heap.size) (Nat.le_refl _) (own_rd ho68) (own_rd ho78) (by omega) (by omega) (Lib.hid rfl) (Lib.hid rfl)).mono ?_
        rintro e w9 ⟨rfl, hb9⟩
        have ho59 := own_step ho58 hb9
        have ho79 := own_step ho78 hb9
        have h09 := below_next h08 h08.size hb9
        replace kR := kR.below hb9 kR.lt
        rw [eqRs_self]
        clear ho58 ho68 ho78 h08 hb9 c0 c1 d0 d1 kX
        go_wp2_with fail
        refine (sCount (B := w9.heap.size) (Nat.le_refl _) (own_rd ho59) (by omega) (Lib.hid rfl)).mono ?_
        rintro e w10 ⟨rfl, hb10⟩
        have ho710 := own_step ho79 hb10
        have h010 := below_next h09 h09.size hb10
        replace kR := kR.below hb10 kR.lt
        clear ho59 ho79 h09 hb10
        have c0 := kR.cell 0
        have c1 := kR.cell 1
        have hgl := kR.lt
        have k0 := cell_regrown c0
        have k1 := cell_regrown c1
        have hcq := fun (d : Nat) (os : Array Obj) => iCount (c := c7) (n := L.length) (B := w10.heap.size) (below_regrown w10 d os).size ((own_rd ho710).below (below_regrown w10 d os) (Nat.le_refl _)) (by omega) (Lib.hid rfl)
        cases t
        · go_wp2_with fail
          refine wp_region_quiet_below (by kernel_rfl) (by kernel_rfl) ?_
          repeat (go_big_quiet_step ((go_at_call 25; exact Calls.regrown_of (hcq _ _))))
          refine wpQuiet_nil ?_
          intro _ hw'
          obtain ⟨⟨dq, osq⟩, hw''⟩ := hw'
          subst hw''
          have hb2 := below_next h010 h010.size (below_regrown w10 dq osq)
          generalize grow (redrawn w10 dq) osq = w11 at hb2 ⊢
          go_wp2
          go_ret
          exact ⟨rfl, hb2⟩
        · obtain ⟨hr0, hr12, hr2, hmx, hcn, hfirst, hca, hcb, hcc, hcd⟩ := pop_facts HP.out
          generalize countR L5 = cl at hcn hca hcb ⊢
          generalize countR L = cL at hcn hcc hcd hcq ⊢
          have e1 : decide (r2 - r1 ≤ x) = true := by simp; omega
          have e2 : (cL == cl - (r2 - r1)) = true := by simp; omega
          rcases L with _ | ⟨⟨y1, y2⟩, u⟩
          · go_wp2_with fail
            refine wp_region_quiet_below (by kernel_rfl) (by kernel_rfl) ?_
            repeat (go_big_quiet_step ((go_at_call 25; exact Calls.regrown_of (hcq _ _))))
            refine wpQuiet_nil ?_
            intro _ hw'
            obtain ⟨⟨dq, osq⟩, hw''⟩ := hw'
            subst hw''
            have hb2 := below_next h010 h010.size (below_regrown w10 dq osq)
            generalize grow (redrawn w10 dq) osq = w11 at hb2 ⊢
            go_wp2
            go_ret
            exact ⟨rfl, hb2⟩
          · have hy1 := hfirst _ _ rfl
            have e3 : decide (r2 ≤ y1) = true := by simp; exact hy1
            obtain ⟨b, off, y1', y2', rfl, hb, HXy, d0, d1⟩ := (own_rd ho710).rng (k := 0) (by simp)
            obtain ⟨rfl, rfl⟩ : y1 = y1' ∧ y2 = y2' := by have := HXy.out; simpa using this
            simp only [Nat.zero_mul, Nat.add_zero] at d0 d1
            have k2 := cell_regrown d0
            have hun : ((((y1, y2) :: u : List R).length : Int) == 0) = false := by first | (simp; done) | (simp; omega)
            have hu0 : (0 : Int) < (((y1, y2) :: u : List R).length : Int) := by first | (simp; done) | (simp; omega)
            generalize ((y1, y2) :: u : List R).length = m at *
            go_wp2_with fail
            refine wp_region_quiet_below (by kernel_rfl) (by kernel_rfl) ?_
            repeat (go_big_quiet_step ((go_at_call 25; exact Calls.regrown_of (hcq _ _))))
            refine wpQuiet_nil ?_
            intro _ hw'
            obtain ⟨⟨dq, osq⟩, hw''⟩ := hw'
            subst hw''
            have hb2 := below_next h010 h010.size (below_regrown w10 dq osq)
            generalize grow (redrawn w10 dq) osq = w11 at hb2 ⊢
            go_wp2
            go_ret
            exact ⟨rfl, hb2⟩
  · have hd : decide ((1048576 : Int) < (n : Int)) = true := by simp; omega
    go_enter Try.func5, Try.ntmps5
    go_wp2_with (first | (go_at_call 19; go_in))
    go_ret
    exact ⟨rfl, Below.refl _ _⟩
end Go.Proofs.Ytaackmiodkpnoaa
