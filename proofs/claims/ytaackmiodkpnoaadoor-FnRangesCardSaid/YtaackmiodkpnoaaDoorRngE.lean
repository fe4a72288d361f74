/- Contracts of the functions that build a slice of ranges: AddRange of the reference. No conditions. -/
import Derived.Test.YtaackmiodkpnoaaDoorRngC
import Derived.StillTailTactics
namespace Go.Proofs.YtaackmiodkpnoaaDoor
open Go.ChangeShapes Go.WideShapes Go.ChangeAt Go.RowKit Go.Sort RM
set_option linter.unusedVariables false
theorem Inv.store1 {w wr : World} {a b : Int} {v : Value} {L : List R} (h : Inv w wr a b v L) (a' : Int) : Inv w (wr.setCell ⟨w.heap.size, 0, none⟩ (.int .i64 a')) a' b v L :=
  ⟨ownsRow_setCell_below h.own (by show w.heap.size < _; omega) _, by simpa using h.box.set_ 0 (.int .i64 a'), h.bel.setCell (p := ⟨w.heap.size, 0, none⟩) (Nat.le_refl _) _⟩
theorem Inv.store2 {w wr : World} {a b : Int} {v : Value} {L : List R} (h : Inv w wr a b v L) (b' : Int) : Inv w (wr.setCell ⟨w.heap.size, 1, none⟩ (.int .i64 b')) a b' v L :=
  ⟨ownsRow_setCell_below h.own (by show w.heap.size < _; omega) _, by simpa using h.box.set_ 1 (.int .i64 b'), h.bel.setCell (p := ⟨w.heap.size, 1, none⟩) (Nat.le_refl _) _⟩
theorem Inv.drew {w wr : World} {a b : Int} {v : Value} {L : List R} (h : Inv w wr a b v L) : Inv w wr.drew a b v L := ⟨h.own, h.box, h.bel.drew⟩
theorem cell_far_set {w : World} {p q : Addr} {u v : Value} (h : w.cell? q = some v) (hne : q.block ≠ p.block) : (w.setCell p u).drew.cell? q = some v := by
  show (w.setCell p u).cell? q = some v
  rw [World.cell?_setCell_other w p q u (fun e => hne (by rw [e]))]; exact h
theorem cell_far_set0 {w : World} {g : Nat} {u v : Value} (h : w.cell? ⟨g, 1, none⟩ = some v) : (w.setCell ⟨g, 0, none⟩ u).drew.cell? ⟨g, 1, none⟩ = some v := by
  show (w.setCell ⟨g, 0, none⟩ u).cell? ⟨g, 1, none⟩ = some v
  rw [World.cell?_setCell_other w _ _ u (fun e => by injection e with _ e; cases e)]; exact h
set_option maxRecDepth 20000 in
set_option maxHeartbeats 4000000 in
theorem sAdd {A : Option Addr} {c n : Nat} {w : World} {B : Nat} {l : List R} (hB : B ≤ w.heap.size) (hr : Rd w B A (encR l)) (hm : n ≤ 1048576) (HL : Hid (l.length = n)) (a b : Int) :
    Calls Tryd.prog 15 #[.slice A n c, .agg #[.int .i64 a, .int .i64 b]] w (OutR w (addR l (a, b))) := by
  obtain ⟨i0, hi, hz0, hz1, hz2⟩ := info_parts info_rng
  have hb1 : Below w.heap.size w (w.alloc (.cells #[.int .i64 a, .int .i64 b] 32)) := (Below.refl _ _).alloc (Nat.le_refl _) _
  have hk1 : Bk (w.alloc (.cells #[.int .i64 a, .int .i64 b] 32)) w.heap.size 32 #[.int .i64 a, .int .i64 b] := heap_alloc_new w _
  cases hI : isRs l
  · have HR := Lib.hid (show addR l (a, b) = l by unfold addR; rw [hI]; rfl)
    go_enter Tryd.func15, Tryd.ntmps15
    go_wp2_with fail
    generalize w.alloc (.cells #[.int .i64 a, .int .i64 b] 32) = w1 at hb1 hk1 ⊢
    refine (sIs (B := B) (by have := hb1.size; omega) (hr.below hb1 hB) (by omega) HL).mono ?_
    rintro e w2 ⟨rfl, hb2⟩
    have h02 := below_next hb1 hb1.size hb2
    rw [hI]
    go_wp2_with fail
    refine (sCopy (B := B) (by have := h02.size; omega) (hr.below h02 hB) (by omega) HL).mono ?_
    rintro e w3 ⟨A', c', rfl, hb3, ho3⟩
    go_wp2
    go_ret
    rw [HR.out]
    exact ⟨A', c', rfl, below_next h02 h02.size hb3, own_lower ho3 h02.size⟩
  · cases hf : isR (a, b)
    · have HR := Lib.hid (show addR l (a, b) = l by unfold addR; rw [hI, hf]; rfl)
      go_enter Tryd.func15, Tryd.ntmps15
      go_wp2_with fail
      generalize w.alloc (.cells #[.int .i64 a, .int .i64 b] 32) = w1 at hb1 hk1 ⊢
      refine (sIs (B := B) (by have := hb1.size; omega) (hr.below hb1 hB) (by omega) HL).mono ?_
      rintro e w2 ⟨rfl, hb2⟩
      have h02 := below_next hb1 hb1.size hb2
      rw [hI]
      have hk2 := hk1.below hb2 hk1.lt
      have c0 := hk2.cell 0
      have c1 := hk2.cell 1
      go_wp2_with fail
      refine (l3Fine_any a b _).mono ?_
      rintro e w3 ⟨rfl, hb3⟩
      have h03 := below_next h02 h02.size hb3
      rw [hf]
      go_wp2_with fail
      refine (sCopy (B := B) (by have := h03.size; omega) (hr.below h03 hB) (by omega) HL).mono ?_
      rintro e w4 ⟨A', c', rfl, hb4, ho4⟩
      go_wp2
      go_ret
      rw [HR.out]
      exact ⟨A', c', rfl, below_next h03 h03.size hb4, own_lower ho4 h03.size⟩
    · have HR := Lib.hid (show addR l (a, b) = (addFold l (a, b)).fin by unfold addR; rw [hI, hf]; rfl)
      go_enter Tryd.func15, Tryd.ntmps15
      go_wp2_with fail
      generalize w.alloc (.cells #[.int .i64 a, .int .i64 b] 32) = w1 at hb1 hk1 ⊢
      refine (sIs (B := B) (by have := hb1.size; omega) (hr.below hb1 hB) (by omega) HL).mono ?_
      rintro e w2 ⟨rfl, hb2⟩
      have h02 := below_next hb1 hb1.size hb2
      rw [hI]
      have hk2 := hk1.below hb2 hk1.lt
      have c0 := hk2.cell 0
      have c1 := hk2.cell 1
      go_wp2_with fail
      refine (l3Fine_any a b _).mono ?_
      rintro e w3 ⟨rfl, hb3⟩
      have h03 := below_next h02 h02.size hb3
      have hk3 := hk2.below hb3 hk2.lt
      rw [hf]
      clear c0 c1
      have HI := Lib.hid hI; clear hI
      have HF := Lib.hid hf; clear hf
      have hsz : w.heap.size + 1 ≤ w3.heap.size := hk3.lt
      have hown := own_empty w3 (w.heap.size + 1) 32 2 hsz
      have h04 := h03.alloc h03.size (.cells #[] 32)
      have hk4 : Bk (w3.alloc (.cells #[] 32)) w.heap.size 32 #[.int .i64 a, .int .i64 b] := (Below.heap_alloc w3 _ _ hk3.lt).trans hk3
      have HV0 : Hid (Inv w (w3.alloc (.cells #[] 32)) a b (.slice (some ⟨w3.heap.size, 0, none⟩) 0 0) []) := ⟨hown, hk4, h04⟩
      clear hk4 hk1 hk2 hk3 hown hb1 h02 h03 h04 hb2 hb3
      go_wp2
      go_loopw [5, 6, 7] (fun v pl i wr => ∃ (k : Nat) (o : List R) (p : Bool) (a' b' : Int), k ≤ n ∧ i = .int .i64 k ∧ pl = .bool p ∧ (l.take k).foldl addStep ⟨[], false, (a, b)⟩ = ⟨o, p, (a', b')⟩ ∧ Inv w wr a' b' v o) (fun v pl i _ => n - (intOf i).toNat)
      case atStart => exact ⟨0, [], false, a, b, Nat.zero_le _, rfl, rfl, rfl, HV0.out⟩
      case round =>
        obtain ⟨k, o, p, a', b', hk, rfl, rfl, hst, hinv⟩ := hrel
        clear HV0
        have HLN := Lib.hid (add_len HL.out hst)
        have HST := Lib.hid hst; clear hst
        have HV := Lib.hid hinv; clear hinv
        have e0 : wr.cell? ⟨w.heap.size, 0, none⟩ = some (.int .i64 a') := HV.out.box.cell 0
        have e1 : wr.cell? ⟨w.heap.size, 1, none⟩ = some (.int .i64 b') := HV.out.box.cell 1
        by_cases hlt : k < n
        · obtain ⟨b1, off1, x, y, rfl, hb', HX, d0, d1⟩ := (hr.below HV.out.bel hB).rng (k := k) (by rw [HL.out]; exact hlt)
          have HS := Lib.hid (add_snoc ⟨[], false, (a, b)⟩ (by rw [HL.out]; exact hlt) HX.out)
          by_cases h1 : y < a'
          · have hdt : decide (y < a') = true := by simpa using h1
            have k0 := cell_regrown d0
            have k1 := cell_regrown d1
            have g0 := cell_regrown e0
            have g1 := cell_regrown e1
            go_wp2
            refine wp_region_quiet_below (by kernel_rfl) (by kernel_rfl) ?_
            repeat (go_big_quiet_step (fail))
            refine wpQuiet_nil ?_
            intro _ hw'
            obtain ⟨⟨dq, osq⟩, hw''⟩ := hw'
            subst hw''
            have HVn := Lib.hid (HV.out.below (below_regrown _ dq osq))
            replace d0 := k0 dq osq
            replace d1 := k1 dq osq
            replace e0 := g0 dq osq
            replace e1 := g1 dq osq
            clear k0 k1 g0 g1
            generalize grow (redrawn _ dq) osq = w4 at HVn d0 d1 e0 e1 ⊢
            clear HV
            rename Hid (Inv w w4 a' b' _ _) => HV
            have hsz2 : w.heap.size < w4.heap.size := HV.out.box.lt
            have HP2 : Hid (Below w4.heap.size w4 (w4.alloc (.cells #[.int .i64 x, .int .i64 y] 32))) := (Below.refl _ _).alloc (Nat.le_refl _) _
            go_wp2_with (at_builtin; refine wpList_append_own _ rfl (.tmp 52) (.tmp 57) 25 rfl (w.heap.size + 1) 32 i0 (.agg #[.int .i64 0, .int .i64 0]) 2 16 Tryd.underlying25 hi hz0 hz1 hz2 rfl (by decide) _ _ _ rfl (HV.out.own.alloc _) ⟨w4.heap.size, 0, none⟩ 1 1 [.int .i64 x, .int .i64 y] rfl rfl (news2 _ _ (by simp)) (one2 _ _) (by have := HLN.out; unfold maxLen; omega) (by have := HLN.out; omega) (by simp; omega) ?_)
            intro v1 w5 hown1 hgrow1 _
            have HV1 := Lib.hid (HV.out.app HP2.out (by simp) hown1 hgrow1)
            clear hown1 hgrow1 d0 d1 e0 e1
            go_wp2
            go_roundw
            case rel => exact ⟨k + 1, _, _, a', b', by omega, by go_num, rfl, by rw [HS.out, HST.out, as_lo (by omega)], HV1.out⟩
            case measure => simp [intOf]; omega
          · have hdt : decide (y < a') = false := by simp; omega
            have k0 := cell_regrown d0
            have k1 := cell_regrown d1
            have g0 := cell_regrown e0
            have g1 := cell_regrown e1
            go_wp2
            refine wp_region_quiet_below (by kernel_rfl) (by kernel_rfl) ?_
            repeat (go_big_quiet_step (fail))
            refine wpQuiet_nil ?_
            intro _ hw'
            obtain ⟨⟨dq, osq⟩, hw''⟩ := hw'
            subst hw''
            have HVn := Lib.hid (HV.out.below (below_regrown _ dq osq))
            replace d0 := k0 dq osq
            replace d1 := k1 dq osq
            replace e0 := g0 dq osq
            replace e1 := g1 dq osq
            clear k0 k1 g0 g1
            generalize grow (redrawn _ dq) osq = w4 at HVn d0 d1 e0 e1 ⊢
            clear HV
            rename Hid (Inv w w4 a' b' _ _) => HV
            clear hdt
            by_cases h2 : b' < x
            · have hdt : decide (b' < x) = true := by simpa using h2
              have k0 := cell_regrown d0
              have k1 := cell_regrown d1
              have g0 := cell_regrown e0
              have g1 := cell_regrown e1
              go_wp2
              refine wp_region_quiet_below (by kernel_rfl) (by kernel_rfl) ?_
              repeat (go_big_quiet_step (fail))
              refine wpQuiet_nil ?_
              intro _ hw'
              obtain ⟨⟨dq, osq⟩, hw''⟩ := hw'
              subst hw''
              have HVn := Lib.hid (HV.out.below (below_regrown _ dq osq))
              replace d0 := k0 dq osq
              replace d1 := k1 dq osq
              replace e0 := g0 dq osq
              replace e1 := g1 dq osq
              clear k0 k1 g0 g1
              generalize grow (redrawn _ dq) osq = w5 at HVn d0 d1 e0 e1 ⊢
              clear HV
              rename Hid (Inv w w5 a' b' _ _) => HV
              have hsz2 : w.heap.size < w5.heap.size := HV.out.box.lt
              cases p
              · have HP3 : Hid (Below w5.heap.size w5 (w5.alloc (.cells #[.int .i64 a', .int .i64 b'] 32))) := (Below.refl _ _).alloc (Nat.le_refl _) _
                go_wp2_with (at_builtin; refine wpList_append_own _ rfl (.tmp 70) (.tmp 72) 25 rfl (w.heap.size + 1) 32 i0 (.agg #[.int .i64 0, .int .i64 0]) 2 16 Tryd.underlying25 hi hz0 hz1 hz2 rfl (by decide) _ _ _ rfl (HV.out.own.alloc _) ⟨w5.heap.size, 0, none⟩ 1 1 [.int .i64 a', .int .i64 b'] rfl rfl (news2 _ _ (by simp)) (one2 _ _) (by have := HLN.out; unfold maxLen; omega) (by have := HLN.out; omega) (by simp; omega) ?_)
                intro v1 w6 hown1 hgrow1 _
                have HV1 := Lib.hid (HV.out.app HP3.out (by simp) hown1 hgrow1)
                have q0 : w6.cell? ⟨b1, off1 + k * 2, none⟩ = some (.int .i64 x) := by rw [hgrow1.cell (cell_alloc d0 _) (fun e => by have := (HV.out.own.lt _ e.symm).1; simp only at this; omega)]
                have q1 : w6.cell? ⟨b1, off1 + k * 2 + 1, none⟩ = some (.int .i64 y) := by rw [hgrow1.cell (cell_alloc d1 _) (fun e => by have := (HV.out.own.lt _ e.symm).1; simp only at this; omega)]
                have hz4 := HV1.out.lt
                clear hown1 hgrow1 d0 d1 e0 e1
                have HP4 : Hid (Below w6.heap.size w6 (w6.alloc (.cells #[.int .i64 x, .int .i64 y] 32))) := (Below.refl _ _).alloc (Nat.le_refl _) _
                go_wp2_with (at_builtin; refine wpList_append_own _ rfl (.tmp 74) (.tmp 79) 25 rfl (w.heap.size + 1) 32 i0 (.agg #[.int .i64 0, .int .i64 0]) 2 16 Tryd.underlying25 hi hz0 hz1 hz2 rfl (by decide) _ _ _ rfl (HV1.out.own.alloc _) ⟨w6.heap.size, 0, none⟩ 1 1 [.int .i64 x, .int .i64 y] rfl rfl (news2 _ _ (by simp)) (one2 _ _) (by have := HLN.out; unfold maxLen; simp only [List.length_append, List.length_singleton]; omega) (by have := HLN.out; simp only [List.length_append, List.length_singleton]; omega) (by simp; omega) ?_)
                intro v2 w7 hown2 hgrow2 _
                have HV2 := Lib.hid (HV1.out.app HP4.out (by simp) hown2 hgrow2)
                clear hown2 hgrow2 q0 q1
                go_wp2
                go_roundw
                case rel => exact ⟨k + 1, _, true, a', b', by omega, by go_num, rfl, by rw [HS.out, HST.out, as_put (by omega) (by omega)], HV2.out⟩
                case measure => simp [intOf]; omega
              · have HP2 : Hid (Below w5.heap.size w5 (w5.alloc (.cells #[.int .i64 x, .int .i64 y] 32))) := (Below.refl _ _).alloc (Nat.le_refl _) _
                go_wp2_with (at_builtin; refine wpList_append_own _ rfl (.tmp 74) (.tmp 79) 25 rfl (w.heap.size + 1) 32 i0 (.agg #[.int .i64 0, .int .i64 0]) 2 16 Tryd.underlying25 hi hz0 hz1 hz2 rfl (by decide) _ _ _ rfl (HV.out.own.alloc _) ⟨w5.heap.size, 0, none⟩ 1 1 [.int .i64 x, .int .i64 y] rfl rfl (news2 _ _ (by simp)) (one2 _ _) (by have := HLN.out; unfold maxLen; omega) (by have := HLN.out; omega) (by simp; omega) ?_)
                intro v1 w6 hown1 hgrow1 _
                have HV1 := Lib.hid (HV.out.app HP2.out (by simp) hown1 hgrow1)
                clear hown1 hgrow1 d0 d1 e0 e1
                go_wp2
                go_roundw
                case rel => exact ⟨k + 1, _, true, a', b', by omega, by go_num, rfl, by rw [HS.out, HST.out, as_hi (by omega) (by omega)], HV1.out⟩
                case measure => simp [intOf]; omega
            · have hdt : decide (b' < x) = false := by simp; omega
              have k0 := cell_regrown d0
              have k1 := cell_regrown d1
              have g0 := cell_regrown e0
              have g1 := cell_regrown e1
              go_wp2
              refine wp_region_quiet_below (by kernel_rfl) (by kernel_rfl) ?_
              repeat (go_big_quiet_step (fail))
              refine wpQuiet_nil ?_
              intro _ hw'
              obtain ⟨⟨dq, osq⟩, hw''⟩ := hw'
              subst hw''
              have HVn := Lib.hid (HV.out.below (below_regrown _ dq osq))
              replace d0 := k0 dq osq
              replace d1 := k1 dq osq
              replace e0 := g0 dq osq
              replace e1 := g1 dq osq
              clear k0 k1 g0 g1
              generalize grow (redrawn _ dq) osq = w5 at HVn d0 d1 e0 e1 ⊢
              clear HV
              rename Hid (Inv w w5 a' b' _ _) => HV
              clear hdt
              have f0 : w5.frozen? ⟨w.heap.size, 0, none⟩ = false := HV.out.box.frozen 0
              have f1 : w5.frozen? ⟨w.heap.size, 1, none⟩ = false := HV.out.box.frozen 1
              have hki0 : 0 ≤ (k : Int) := Int.natCast_nonneg _
              have hki1 : (k : Int) < (n : Int) := by omega
              rcases (show (x < a' ∧ b' < y) ∨ (x < a' ∧ y ≤ b') ∨ (a' ≤ x ∧ b' < y) ∨ (a' ≤ x ∧ y ≤ b') by omega) with ⟨j1, j2⟩ | ⟨j1, j2⟩ | ⟨j1, j2⟩ | ⟨j1, j2⟩
              · have HE : Hid (((x, y) : R) = (min a' x, max b' y)) := by show ((x, y) : R) = (min a' x, max b' y); congr 1 <;> omega
                go_wp2
                go_still_tail 9, (by kernel_rfl)
                change wpList _ _ _ _ _ w5.drew
                have HV6 := Lib.hid (HV.out.store1 x).drew
                have h1' := cell_far_set (w := w5) (p := ⟨w.heap.size, 0, none⟩) (u := .int .i64 x) d1 (by show b1 ≠ w.heap.size; omega)
                have h2' := cell_far_set0 (w := w5) (u := .int .i64 x) e1
                go_wp2
                clear e0 e1 d0 d1 f0 f1
                generalize (w5.setCell ⟨w.heap.size, 0, none⟩ (.int .i64 x)).drew = w6 at HV6 h1' h2' ⊢
                have g0 : w6.cell? ⟨w.heap.size, 1, none⟩ = some (.int .i64 b') := HV6.out.box.cell 1
                have g1 : w6.frozen? ⟨w.heap.size, 1, none⟩ = false := HV6.out.box.frozen 1
                have hs6 : w.heap.size < w6.heap.size := HV6.out.box.lt
                go_still_tail 9, (by kernel_rfl)
                change wpList _ _ _ _ _ w6.drew
                have HV7 := Lib.hid (HV6.out.store2 y).drew
                go_wp2
                go_roundw
                case rel => exact ⟨k + 1, _, _, _, _, by omega, by go_num, rfl, by rw [HS.out, HST.out, as_mid (by omega) (by omega), ← HE.out], HV7.out⟩
                case measure => simp [intOf]; omega
              · have HE : Hid (((x, b') : R) = (min a' x, max b' y)) := by show ((x, b') : R) = (min a' x, max b' y); congr 1 <;> omega
                go_wp2
                go_still_tail 9, (by kernel_rfl)
                change wpList _ _ _ _ _ w5.drew
                have HV6 := Lib.hid (HV.out.store1 x).drew
                have h1' := cell_far_set (w := w5) (p := ⟨w.heap.size, 0, none⟩) (u := .int .i64 x) d1 (by show b1 ≠ w.heap.size; omega)
                have h2' := cell_far_set0 (w := w5) (u := .int .i64 x) e1
                go_wp2
                clear e0 e1 d0 d1 f0 f1
                generalize (w5.setCell ⟨w.heap.size, 0, none⟩ (.int .i64 x)).drew = w6 at HV6 h1' h2' ⊢
                have g0 : w6.cell? ⟨w.heap.size, 1, none⟩ = some (.int .i64 b') := HV6.out.box.cell 1
                have g1 : w6.frozen? ⟨w.heap.size, 1, none⟩ = false := HV6.out.box.frozen 1
                have hs6 : w.heap.size < w6.heap.size := HV6.out.box.lt
                go_still_tail 9, (by kernel_rfl)
                change wpList _ _ _ _ _ w6.drew
                have HV7 := Lib.hid (HV6.out.store2 b').drew
                go_wp2
                go_roundw
                case rel => exact ⟨k + 1, _, _, _, _, by omega, by go_num, rfl, by rw [HS.out, HST.out, as_mid (by omega) (by omega), ← HE.out], HV7.out⟩
                case measure => simp [intOf]; omega
              · have HE : Hid (((a', y) : R) = (min a' x, max b' y)) := by show ((a', y) : R) = (min a' x, max b' y); congr 1 <;> omega
                go_wp2
                go_still_tail 9, (by kernel_rfl)
                change wpList _ _ _ _ _ w5.drew
                have HV6 := Lib.hid (HV.out.store1 a').drew
                have h1' := cell_far_set (w := w5) (p := ⟨w.heap.size, 0, none⟩) (u := .int .i64 a') d1 (by show b1 ≠ w.heap.size; omega)
                have h2' := cell_far_set0 (w := w5) (u := .int .i64 a') e1
                go_wp2
                clear e0 e1 d0 d1 f0 f1
                generalize (w5.setCell ⟨w.heap.size, 0, none⟩ (.int .i64 a')).drew = w6 at HV6 h1' h2' ⊢
                have g0 : w6.cell? ⟨w.heap.size, 1, none⟩ = some (.int .i64 b') := HV6.out.box.cell 1
                have g1 : w6.frozen? ⟨w.heap.size, 1, none⟩ = false := HV6.out.box.frozen 1
                have hs6 : w.heap.size < w6.heap.size := HV6.out.box.lt
                go_still_tail 9, (by kernel_rfl)
                change wpList _ _ _ _ _ w6.drew
                have HV7 := Lib.hid (HV6.out.store2 y).drew
                go_wp2
                go_roundw
                case rel => exact ⟨k + 1, _, _, _, _, by omega, by go_num, rfl, by rw [HS.out, HST.out, as_mid (by omega) (by omega), ← HE.out], HV7.out⟩
                case measure => simp [intOf]; omega
              · have HE : Hid (((a', b') : R) = (min a' x, max b' y)) := by show ((a', b') : R) = (min a' x, max b' y); congr 1 <;> omega
                go_wp2
                go_still_tail 9, (by kernel_rfl)
                change wpList _ _ _ _ _ w5.drew
                have HV6 := Lib.hid (HV.out.store1 a').drew
                have h1' := cell_far_set (w := w5) (p := ⟨w.heap.size, 0, none⟩) (u := .int .i64 a') d1 (by show b1 ≠ w.heap.size; omega)
                have h2' := cell_far_set0 (w := w5) (u := .int .i64 a') e1
                go_wp2
                clear e0 e1 d0 d1 f0 f1
                generalize (w5.setCell ⟨w.heap.size, 0, none⟩ (.int .i64 a')).drew = w6 at HV6 h1' h2' ⊢
                have g0 : w6.cell? ⟨w.heap.size, 1, none⟩ = some (.int .i64 b') := HV6.out.box.cell 1
                have g1 : w6.frozen? ⟨w.heap.size, 1, none⟩ = false := HV6.out.box.frozen 1
                have hs6 : w.heap.size < w6.heap.size := HV6.out.box.lt
                go_still_tail 9, (by kernel_rfl)
                change wpList _ _ _ _ _ w6.drew
                have HV7 := Lib.hid (HV6.out.store2 b').drew
                go_wp2
                go_roundw
                case rel => exact ⟨k + 1, _, _, _, _, by omega, by go_num, rfl, by rw [HS.out, HST.out, as_mid (by omega) (by omega), ← HE.out], HV7.out⟩
                case measure => simp [intOf]; omega
        · have HE := Lib.hid (show addFold l (a, b) = ⟨o, p, (a', b')⟩ by have := HST.out; rw [gap_all HL.out (by omega)] at this; exact this)
          have hsz2 : w.heap.size < wr.heap.size := HV.out.box.lt
          cases p
          · have HP5 : Hid (Below wr.heap.size wr (wr.alloc (.cells #[.int .i64 a', .int .i64 b'] 32))) := (Below.refl _ _).alloc (Nat.le_refl _) _
            go_wp2_with (at_builtin; refine wpList_append_own _ rfl (.tmp 83) (.tmp 85) 25 rfl (w.heap.size + 1) 32 i0 (.agg #[.int .i64 0, .int .i64 0]) 2 16 Tryd.underlying25 hi hz0 hz1 hz2 rfl (by decide) _ _ _ rfl (HV.out.own.alloc _) ⟨wr.heap.size, 0, none⟩ 1 1 [.int .i64 a', .int .i64 b'] rfl rfl (news2 _ _ (by simp)) (one2 _ _) (by have := HLN.out; unfold maxLen; omega) (by have := HLN.out; omega) (by simp; omega) ?_)
            intro v1 w4 hown1 hgrow1 _
            have HV1 := Lib.hid (HV.out.app HP5.out (by simp) hown1 hgrow1)
            clear hown1 hgrow1 e0 e1
            go_wp2
            go_ret
            rw [HR.out, HE.out]
            exact HV1.out.fin
          · go_wp2
            go_ret
            rw [HR.out, HE.out]
            exact HV.out.fin
end Go.Proofs.YtaackmiodkpnoaaDoor
