/- Contracts of the functions that build a slice of ranges: RemoveRange of the reference. No conditions. -/
import Derived.Test.YtaackmiodkpnoaaDoorRngC
import Derived.Deep.RegionHeld3
import Derived.Deep.AppendLies
namespace Go.Proofs.YtaackmiodkpnoaaDoor
open Go.ChangeShapes Go.WideShapes Go.ChangeAt Go.RowKit Go.Sort RM
set_option linter.unusedVariables false
set_option maxRecDepth 100000 in
set_option maxHeartbeats 4000000 in
theorem sRem {A : Option Addr} {c n : Nat} {w : World} {B : Nat} {l : List R} (hB : B ≤ w.heap.size) (hr : Rd w B A (encR l)) (hm : n ≤ 1048576) (HL : Hid (l.length = n)) (a b : Int) :
    Calls Tryd.prog 16 #[.slice A n c, .agg #[.int .i64 a, .int .i64 b]] w (OutR w (remR l (a, b))) := by
  obtain ⟨i0, hi, hz0, hz1, hz2⟩ := info_parts info_rng
  have hb1 : Below w.heap.size w (w.alloc (.cells #[.int .i64 a, .int .i64 b] 32)) := (Below.refl _ _).alloc (Nat.le_refl _) _
  have hk1 : Bk (w.alloc (.cells #[.int .i64 a, .int .i64 b] 32)) w.heap.size 32 #[.int .i64 a, .int .i64 b] := heap_alloc_new w _
  cases hI : isRs l
  · have HR := Lib.hid (show remR l (a, b) = l by unfold remR; rw [hI]; rfl)
    go_enter Tryd.func16, Tryd.ntmps16
    go_wp2_with fail
    generalize w.alloc (.cells #[.int .i64 a, .int .i64 b] 32) = w1 at hb1 hk1 ⊢
    refine (sIs (B := B) (by have := hb1.size; omega) (hr.below hb1 hB) (by omega) HL).mono ?_
    rintro e w2 ⟨rfl, hb2⟩
    have h02 := below_next hb1 hb1.size hb2
    rw [hI]
    go_wp2_with fail
    refine (sCopy (B := B) (by have := h02.size; omega) (hr.below h02 hB) (by omega) HL).mono ?_
    rintro e w3 ⟨A', c', rfl, hb3, ho3⟩
    go_wp2
    go_ret
    rw [HR.out]
    exact ⟨A', c', rfl, below_next h02 h02.size hb3, own_lower ho3 h02.size⟩
  · cases hf : isR (a, b)
    · have HR := Lib.hid (show remR l (a, b) = l by unfold remR; rw [hI, hf]; rfl)
      go_enter Tryd.func16, Tryd.ntmps16
      go_wp2_with fail
      generalize w.alloc (.cells #[.int .i64 a, .int .i64 b] 32) = w1 at hb1 hk1 ⊢
      refine (sIs (B := B) (by have := hb1.size; omega) (hr.below hb1 hB) (by omega) HL).mono ?_
      rintro e w2 ⟨rfl, hb2⟩
      have h02 := below_next hb1 hb1.size hb2
      rw [hI]
      have hk2 := hk1.below hb2 hk1.lt
      have c0 := hk2.cell 0
      have c1 := hk2.cell 1
      go_wp2_with fail
      refine (l3Fine_any a b _).mono ?_
      rintro e w3 ⟨rfl, hb3⟩
      have h03 := below_next h02 h02.size hb3
      rw [hf]
      go_wp2_with fail
      refine (sCopy (B := B) (by have := h03.size; omega) (hr.below h03 hB) (by omega) HL).mono ?_
      rintro e w4 ⟨A', c', rfl, hb4, ho4⟩
      go_wp2
      go_ret
      rw [HR.out]
      exact ⟨A', c', rfl, below_next h03 h03.size hb4, own_lower ho4 h03.size⟩
    · have HR := Lib.hid (show remR l (a, b) = l.flatMap (remOne (a, b)) by unfold remR; rw [hI, hf]; rfl)
      go_enter Tryd.func16, Tryd.ntmps16
      go_wp2_with fail
      generalize w.alloc (.cells #[.int .i64 a, .int .i64 b] 32) = w1 at hb1 hk1 ⊢
      refine (sIs (B := B) (by have := hb1.size; omega) (hr.below hb1 hB) (by omega) HL).mono ?_
      rintro e w2 ⟨rfl, hb2⟩
      have h02 := below_next hb1 hb1.size hb2
      rw [hI]
      have hk2 := hk1.below hb2 hk1.lt
      have c0 := hk2.cell 0
      have c1 := hk2.cell 1
      go_wp2_with fail
      refine (l3Fine_any a b _).mono ?_
      rintro e w3 ⟨rfl, hb3⟩
      have h03 := below_next h02 h02.size hb3
      have hk3 := hk2.below hb3 hk2.lt
      rw [hf]
      clear c0 c1
      have HI := Lib.hid hI; clear hI
      have HF := Lib.hid hf; clear hf
      have hsz : w.heap.size + 1 ≤ w3.heap.size := hk3.lt
      have hown := own_empty w3 (w.heap.size + 1) 32 2 hsz
      have h04 := h03.alloc h03.size (.cells #[] 32)
      have hk4 : Bk (w3.alloc (.cells #[] 32)) w.heap.size 32 #[.int .i64 a, .int .i64 b] := (Below.heap_alloc w3 _ _ hk3.lt).trans hk3
      have HV0 : Hid (Inv w (w3.alloc (.cells #[] 32)) a b (.slice (some ⟨w3.heap.size, 0, none⟩) 0 0) []) := ⟨hown, hk4, h04⟩
      clear hk4 hk1 hk2 hk3 hown hb1 h02 h03 h04 hb2 hb3
      go_wp2
      go_loopw [5, 6] (fun v i wr => ∃ k : Nat, k ≤ n ∧ i = .int .i64 k ∧ Inv w wr a b v ((l.take k).flatMap (remOne (a, b)))) (fun v i _ => n - (intOf i).toNat)
      case atStart => exact ⟨0, Nat.zero_le _, rfl, HV0.out⟩
      case round =>
        obtain ⟨k, hk, rfl, hinv⟩ := hrel
        clear HV0
        have HV := Lib.hid hinv; clear hinv
        by_cases hlt : k < n
        · obtain ⟨b1, off1, x, y, rfl, hb', HX, d0, d1⟩ := (hr.below HV.out.bel hB).rng (k := k) (by rw [HL.out]; exact hlt)
          have hsz2 : w.heap.size < wr.heap.size := HV.out.box.lt
          have e0 : wr.cell? ⟨w.heap.size, 0, none⟩ = some (.int .i64 a) := HV.out.box.cell 0
          have e1 : wr.cell? ⟨w.heap.size, 1, none⟩ = some (.int .i64 b) := HV.out.box.cell 1
          have HS := Lib.hid (rem_snoc (a, b) (by rw [HL.out]; exact hlt) HX.out)
          have HLN := Lib.hid (rem_take_len l (a, b) k n HL.out)
          generalize (l.take k).flatMap (remOne (a, b)) = L at HV HS HLN ⊢
          obtain ⟨hx0, hxy, hy1⟩ := rng_bd HI.out (by rw [HL.out]; exact hlt) HX.out
          have hab : a < b := by have := HF.out; simp [isR] at this; omega
          have hik0 : 0 ≤ (k : Int) := Int.natCast_nonneg _
          have hik1 : (k : Int) < (n : Int) := by omega
          rcases (show (a < y ∧ x < b ∧ x < a ∧ b < y) ∨ (a < y ∧ x < b ∧ x < a ∧ y ≤ b) ∨ (a < y ∧ x < b ∧ a ≤ x ∧ b < y) ∨ (a < y ∧ x < b ∧ a ≤ x ∧ y ≤ b) ∨ (a < y ∧ b ≤ x ∧ a ≤ x ∧ x < y) ∨ (y ≤ a ∧ x < b ∧ x < y ∧ y ≤ b) by omega) with ⟨j1, j2, j3, j4⟩ | ⟨j1, j2, j3, j4⟩ | ⟨j1, j2, j3, j4⟩ | ⟨j1, j2, j3, j4⟩ | ⟨j1, j2, j3, j4⟩ | ⟨j1, j2, j3, j4⟩
          · have HRM : Hid (remOne (a, b) (x, y) = [(x, a), (b, y)]) := by
              show remOne (a, b) (x, y) = _
              simp only [remOne]
              rw [if_pos (show x < min y a by omega), if_pos (show max x b < y by omega), show min y a = a by first | omega | (split <;> omega), show max x b = b by first | omega | (split <;> omega)]
              rfl
            have k0 := cell_regrown d0
            have k1 := cell_regrown d1
            have g0 := cell_regrown e0
            have g1 := cell_regrown e1
            go_wp2
            refine wp_region_quiet_below (by kernel_rfl) (by kernel_rfl) ?_
            repeat (go_big_quiet_step (fail))
            refine wpQuiet_nil ?_
            intro _ hw'
            obtain ⟨⟨dq, osq⟩, hw''⟩ := hw'
            subst hw''
            have HVn := Lib.hid (HV.out.below (below_regrown _ dq osq))
            replace d0 := k0 dq osq
            replace d1 := k1 dq osq
            replace e0 := g0 dq osq
            replace e1 := g1 dq osq
            clear k0 k1 g0 g1
            generalize grow (redrawn _ dq) osq = w4 at HVn d0 d1 e0 e1 ⊢
            clear HV
            rename Hid (Inv w w4 a b _ _) => HV
            go_wp2
            have hbs1 := HV.out.lt
            go_region_held3 (fun w' => w'.cell? ⟨b1, off1 + k * 2, none⟩ = some (.int .i64 x) ∧ w'.cell? ⟨b1, off1 + k * 2 + 1, none⟩ = some (.int .i64 y) ∧ w'.cell? ⟨w.heap.size, 0, none⟩ = some (.int .i64 a) ∧ w'.cell? ⟨w.heap.size, 1, none⟩ = some (.int .i64 b))
              (first
                | go_keep
                | (go_split_ands
                   refine ⟨?_, ?_, ?_, ?_⟩
                   · (rw [hgrow1.cell_far _ (by simp; omega) (fun e => by have := (HV.out.own.lt _ e.symm).1; simp only at this; omega)]; simp [*])
                   · (rw [hgrow1.cell_far _ (by simp; omega) (fun e => by have := (HV.out.own.lt _ e.symm).1; simp only at this; omega)]; simp [*])
                   · (rw [hgrow1.cell_far _ (by simp; omega) (fun e => by have := (HV.out.own.lt _ e.symm).1; simp only at this; omega)]; simp [*])
                   · (rw [hgrow1.cell_far _ (by simp; omega) (fun e => by have := (HV.out.own.lt _ e.symm).1; simp only at this; omega)]; simp [*])))
              ((refine step_append_lies _ (by rfl) _ _ _ (by rfl) (w.heap.size + 1) 32 i0 _ 2 16 Tryd.underlying25 hi hz0 hz1 hz2 rfl (by omega) _ _ _ (by rfl) ((HV.out.own.alloc _).drew) ⟨w4.heap.size, 0, none⟩ 1 1 [.int .i64 x, .int .i64 a] (by rfl) (by rfl) (World.news_of_block (cs := #[.int .i64 x, .int .i64 a]) (t := 32) (fr := (0, 0)) (heap_alloc_new w4 _)) (by simp [Value.oneCell']) (by omega) (by have := HLN.out; unfold maxLen; omega) (by have := HLN.out; omega) (by simp; omega) (w4.heap.size + 1) (by simp) ?_; intro gg1 cap1 w1 hown1 hgrow1 hat1 hlt1))
            have HV1 := Lib.hid (HV.out.app ((Below.refl _ w4).drew.alloc (by simp) (.cells #[.int .i64 x, .int .i64 a] 32)) (by simp) hown1 hgrow1)
            have hd0 : w1.cell? ⟨b1, off1 + k * 2, none⟩ = some (.int .i64 x) := by simp [*]
            have hd1 : w1.cell? ⟨b1, off1 + k * 2 + 1, none⟩ = some (.int .i64 y) := by simp [*]
            have he0 : w1.cell? ⟨w.heap.size, 0, none⟩ = some (.int .i64 a) := by simp [*]
            have he1 : w1.cell? ⟨w.heap.size, 1, none⟩ = some (.int .i64 b) := by simp [*]
            clear d0 d1 e0 e1 hown1 hgrow1 hat1 hlt1
            have d0 := hd0; clear hd0
            have d1 := hd1; clear hd1
            have e0 := he0; clear he0
            have e1 := he1; clear he1
            have k0 := cell_regrown d0
            have k1 := cell_regrown d1
            have g0 := cell_regrown e0
            have g1 := cell_regrown e1
            go_wp2
            refine wp_region_quiet_below (by kernel_rfl) (by kernel_rfl) ?_
            repeat (go_big_quiet_step (fail))
            refine wpQuiet_nil ?_
            intro _ hw'
            obtain ⟨⟨dq, osq⟩, hw''⟩ := hw'
            subst hw''
            have HV1n := Lib.hid (HV1.out.below (below_regrown _ dq osq))
            replace d0 := k0 dq osq
            replace d1 := k1 dq osq
            replace e0 := g0 dq osq
            replace e1 := g1 dq osq
            clear k0 k1 g0 g1
            generalize grow (redrawn _ dq) osq = w5 at HV1n d0 d1 e0 e1 ⊢
            clear HV1
            rename Hid (Inv w w5 a b _ _) => HV1
            go_wp2
            have hbs2 := HV1.out.lt
            go_region_held3 (fun w' => w'.cell? ⟨b1, off1 + k * 2, none⟩ = some (.int .i64 x) ∧ w'.cell? ⟨b1, off1 + k * 2 + 1, none⟩ = some (.int .i64 y) ∧ w'.cell? ⟨w.heap.size, 0, none⟩ = some (.int .i64 a) ∧ w'.cell? ⟨w.heap.size, 1, none⟩ = some (.int .i64 b))
              (first
                | go_keep
                | (go_split_ands
                   refine ⟨?_, ?_, ?_, ?_⟩
                   · (rw [hgrow2.cell_far _ (by simp; omega) (fun e => by have := (HV1.out.own.lt _ e.symm).1; simp only at this; omega)]; simp [*])
                   · (rw [hgrow2.cell_far _ (by simp; omega) (fun e => by have := (HV1.out.own.lt _ e.symm).1; simp only at this; omega)]; simp [*])
                   · (rw [hgrow2.cell_far _ (by simp; omega) (fun e => by have := (HV1.out.own.lt _ e.symm).1; simp only at this; omega)]; simp [*])
                   · (rw [hgrow2.cell_far _ (by simp; omega) (fun e => by have := (HV1.out.own.lt _ e.symm).1; simp only at this; omega)]; simp [*])))
              ((refine step_append_lies _ (by rfl) _ _ _ (by rfl) (w.heap.size + 1) 32 i0 _ 2 16 Tryd.underlying25 hi hz0 hz1 hz2 rfl (by omega) _ _ _ (by rfl) ((HV1.out.own.alloc _).drew) ⟨w5.heap.size, 0, none⟩ 1 1 [.int .i64 b, .int .i64 y] (by rfl) (by rfl) (World.news_of_block (cs := #[.int .i64 b, .int .i64 y]) (t := 32) (fr := (0, 0)) (heap_alloc_new w5 _)) (by simp [Value.oneCell']) (by omega) (by have := HLN.out; unfold maxLen; simp only [List.length_append, List.length_singleton]; omega) (by have := HLN.out; simp only [List.length_append, List.length_singleton]; omega) (by simp; omega) (w5.heap.size + 1) (by simp) ?_; intro gg2 cap2 w2 hown2 hgrow2 hat2 hlt2))
            have HV2 := Lib.hid (HV1.out.app ((Below.refl _ w5).drew.alloc (by simp) (.cells #[.int .i64 b, .int .i64 y] 32)) (by simp) hown2 hgrow2)
            clear d0 d1 e0 e1 hown2 hgrow2 hat2 hlt2
            go_wp2
            go_roundw
            case rel => exact ⟨k + 1, by omega, by go_num, by rw [HS.out, HRM.out]; simpa using HV2.out⟩
            case measure => simp [intOf]; omega
          · have HRM : Hid (remOne (a, b) (x, y) = [(x, a)]) := by
              show remOne (a, b) (x, y) = _
              simp only [remOne]
              rw [if_pos (show x < min y a by omega), if_neg (show ¬ max x b < y by omega), show min y a = a by first | omega | (split <;> omega)]
              rfl
            have k0 := cell_regrown d0
            have k1 := cell_regrown d1
            have g0 := cell_regrown e0
            have g1 := cell_regrown e1
            go_wp2
            refine wp_region_quiet_below (by kernel_rfl) (by kernel_rfl) ?_
            repeat (go_big_quiet_step (fail))
            refine wpQuiet_nil ?_
            intro _ hw'
            obtain ⟨⟨dq, osq⟩, hw''⟩ := hw'
            subst hw''
            have HVn := Lib.hid (HV.out.below (below_regrown _ dq osq))
            replace d0 := k0 dq osq
            replace d1 := k1 dq osq
            replace e0 := g0 dq osq
            replace e1 := g1 dq osq
            clear k0 k1 g0 g1
            generalize grow (redrawn _ dq) osq = w4 at HVn d0 d1 e0 e1 ⊢
            clear HV
            rename Hid (Inv w w4 a b _ _) => HV
            go_wp2
            have hbs1 := HV.out.lt
            go_region_held3 (fun w' => w'.cell? ⟨b1, off1 + k * 2, none⟩ = some (.int .i64 x) ∧ w'.cell? ⟨b1, off1 + k * 2 + 1, none⟩ = some (.int .i64 y) ∧ w'.cell? ⟨w.heap.size, 0, none⟩ = some (.int .i64 a) ∧ w'.cell? ⟨w.heap.size, 1, none⟩ = some (.int .i64 b))
              (first
                | go_keep
                | (go_split_ands
                   refine ⟨?_, ?_, ?_, ?_⟩
                   · (rw [hgrow1.cell_far _ (by simp; omega) (fun e => by have := (HV.out.own.lt _ e.symm).1; simp only at this; omega)]; simp [*])
                   · (rw [hgrow1.cell_far _ (by simp; omega) (fun e => by have := (HV.out.own.lt _ e.symm).1; simp only at this; omega)]; simp [*])
                   · (rw [hgrow1.cell_far _ (by simp; omega) (fun e => by have := (HV.out.own.lt _ e.symm).1; simp only at this; omega)]; simp [*])
                   · (rw [hgrow1.cell_far _ (by simp; omega) (fun e => by have := (HV.out.own.lt _ e.symm).1; simp only at this; omega)]; simp [*])))
              ((refine step_append_lies _ (by rfl) _ _ _ (by rfl) (w.heap.size + 1) 32 i0 _ 2 16 Tryd.underlying25 hi hz0 hz1 hz2 rfl (by omega) _ _ _ (by rfl) ((HV.out.own.alloc _).drew) ⟨w4.heap.size, 0, none⟩ 1 1 [.int .i64 x, .int .i64 a] (by rfl) (by rfl) (World.news_of_block (cs := #[.int .i64 x, .int .i64 a]) (t := 32) (fr := (0, 0)) (heap_alloc_new w4 _)) (by simp [Value.oneCell']) (by omega) (by have := HLN.out; unfold maxLen; omega) (by have := HLN.out; omega) (by simp; omega) (w4.heap.size + 1) (by simp) ?_; intro gg1 cap1 w1 hown1 hgrow1 hat1 hlt1))
            have HV1 := Lib.hid (HV.out.app ((Below.refl _ w4).drew.alloc (by simp) (.cells #[.int .i64 x, .int .i64 a] 32)) (by simp) hown1 hgrow1)
            have hd0 : w1.cell? ⟨b1, off1 + k * 2, none⟩ = some (.int .i64 x) := by simp [*]
            have hd1 : w1.cell? ⟨b1, off1 + k * 2 + 1, none⟩ = some (.int .i64 y) := by simp [*]
            have he0 : w1.cell? ⟨w.heap.size, 0, none⟩ = some (.int .i64 a) := by simp [*]
            have he1 : w1.cell? ⟨w.heap.size, 1, none⟩ = some (.int .i64 b) := by simp [*]
            clear d0 d1 e0 e1 hown1 hgrow1 hat1 hlt1
            have d0 := hd0; clear hd0
            have d1 := hd1; clear hd1
            have e0 := he0; clear he0
            have e1 := he1; clear he1
            have k0 := cell_regrown d0
            have k1 := cell_regrown d1
            have g0 := cell_regrown e0
            have g1 := cell_regrown e1
            go_wp2
            refine wp_region_quiet_below (by kernel_rfl) (by kernel_rfl) ?_
            repeat (go_big_quiet_step (fail))
            refine wpQuiet_nil ?_
            intro _ hw'
            obtain ⟨⟨dq, osq⟩, hw''⟩ := hw'
            subst hw''
            have HV1n := Lib.hid (HV1.out.below (below_regrown _ dq osq))
            replace d0 := k0 dq osq
            replace d1 := k1 dq osq
            replace e0 := g0 dq osq
            replace e1 := g1 dq osq
            clear k0 k1 g0 g1
            generalize grow (redrawn _ dq) osq = w5 at HV1n d0 d1 e0 e1 ⊢
            clear HV1
            rename Hid (Inv w w5 a b _ _) => HV1
            go_wp2
            go_roundw
            case rel => exact ⟨k + 1, by omega, by go_num, by rw [HS.out, HRM.out]; simpa using HV1.out⟩
            case measure => simp [intOf]; omega
          · have HRM : Hid (remOne (a, b) (x, y) = [(b, y)]) := by
              show remOne (a, b) (x, y) = _
              simp only [remOne]
              rw [if_neg (show ¬ x < min y a by omega), if_pos (show max x b < y by omega), show max x b = b by first | omega | (split <;> omega)]
              rfl
            have k0 := cell_regrown d0
            have k1 := cell_regrown d1
            have g0 := cell_regrown e0
            have g1 := cell_regrown e1
            go_wp2
            refine wp_region_quiet_below (by kernel_rfl) (by kernel_rfl) ?_
            repeat (go_big_quiet_step (fail))
            refine wpQuiet_nil ?_
            intro _ hw'
            obtain ⟨⟨dq, osq⟩, hw''⟩ := hw'
            subst hw''
            have HVn := Lib.hid (HV.out.below (below_regrown _ dq osq))
            replace d0 := k0 dq osq
            replace d1 := k1 dq osq
            replace e0 := g0 dq osq
            replace e1 := g1 dq osq
            clear k0 k1 g0 g1
            generalize grow (redrawn _ dq) osq = w4 at HVn d0 d1 e0 e1 ⊢
            clear HV
            rename Hid (Inv w w4 a b _ _) => HV
            have k0 := cell_regrown d0
            have k1 := cell_regrown d1
            have g0 := cell_regrown e0
            have g1 := cell_regrown e1
            go_wp2
            refine wp_region_quiet_below (by kernel_rfl) (by kernel_rfl) ?_
            repeat (go_big_quiet_step (fail))
            refine wpQuiet_nil ?_
            intro _ hw'
            obtain ⟨⟨dq, osq⟩, hw''⟩ := hw'
            subst hw''
            have HVn := Lib.hid (HV.out.below (below_regrown _ dq osq))
            replace d0 := k0 dq osq
            replace d1 := k1 dq osq
            replace e0 := g0 dq osq
            replace e1 := g1 dq osq
            clear k0 k1 g0 g1
            generalize grow (redrawn _ dq) osq = w5 at HVn d0 d1 e0 e1 ⊢
            clear HV
            rename Hid (Inv w w5 a b _ _) => HV
            go_wp2
            have hbs2 := HV.out.lt
            go_region_held3 (fun w' => w'.cell? ⟨b1, off1 + k * 2, none⟩ = some (.int .i64 x) ∧ w'.cell? ⟨b1, off1 + k * 2 + 1, none⟩ = some (.int .i64 y) ∧ w'.cell? ⟨w.heap.size, 0, none⟩ = some (.int .i64 a) ∧ w'.cell? ⟨w.heap.size, 1, none⟩ = some (.int .i64 b))
              (first
                | go_keep
                | (go_split_ands
                   refine ⟨?_, ?_, ?_, ?_⟩
                   · (rw [hgrow2.cell_far _ (by simp; omega) (fun e => by have := (HV.out.own.lt _ e.symm).1; simp only at this; omega)]; simp [*])
                   · (rw [hgrow2.cell_far _ (by simp; omega) (fun e => by have := (HV.out.own.lt _ e.symm).1; simp only at this; omega)]; simp [*])
                   · (rw [hgrow2.cell_far _ (by simp; omega) (fun e => by have := (HV.out.own.lt _ e.symm).1; simp only at this; omega)]; simp [*])
                   · (rw [hgrow2.cell_far _ (by simp; omega) (fun e => by have := (HV.out.own.lt _ e.symm).1; simp only at this; omega)]; simp [*])))
              ((refine step_append_lies _ (by rfl) _ _ _ (by rfl) (w.heap.size + 1) 32 i0 _ 2 16 Tryd.underlying25 hi hz0 hz1 hz2 rfl (by omega) _ _ _ (by rfl) ((HV.out.own.alloc _).drew) ⟨w5.heap.size, 0, none⟩ 1 1 [.int .i64 b, .int .i64 y] (by rfl) (by rfl) (World.news_of_block (cs := #[.int .i64 b, .int .i64 y]) (t := 32) (fr := (0, 0)) (heap_alloc_new w5 _)) (by simp [Value.oneCell']) (by omega) (by have := HLN.out; unfold maxLen; omega) (by have := HLN.out; omega) (by simp; omega) (w5.heap.size + 1) (by simp) ?_; intro gg2 cap2 w2 hown2 hgrow2 hat2 hlt2))
            have HV2 := Lib.hid (HV.out.app ((Below.refl _ w5).drew.alloc (by simp) (.cells #[.int .i64 b, .int .i64 y] 32)) (by simp) hown2 hgrow2)
            clear d0 d1 e0 e1 hown2 hgrow2 hat2 hlt2
            go_wp2
            go_roundw
            case rel => exact ⟨k + 1, by omega, by go_num, by rw [HS.out, HRM.out]; simpa using HV2.out⟩
            case measure => simp [intOf]; omega
          · have HRM : Hid (remOne (a, b) (x, y) = []) := by
              show remOne (a, b) (x, y) = _
              simp only [remOne]
              rw [if_neg (show ¬ x < min y a by omega), if_neg (show ¬ max x b < y by omega)]
              rfl
            have k0 := cell_regrown d0
            have k1 := cell_regrown d1
            have g0 := cell_regrown e0
            have g1 := cell_regrown e1
            go_wp2
            refine wp_region_quiet_below (by kernel_rfl) (by kernel_rfl) ?_
            repeat (go_big_quiet_step (fail))
            refine wpQuiet_nil ?_
            intro _ hw'
            obtain ⟨⟨dq, osq⟩, hw''⟩ := hw'
            subst hw''
            have HVn := Lib.hid (HV.out.below (below_regrown _ dq osq))
            replace d0 := k0 dq osq
            replace d1 := k1 dq osq
            replace e0 := g0 dq osq
            replace e1 := g1 dq osq
            clear k0 k1 g0 g1
            generalize grow (redrawn _ dq) osq = w4 at HVn d0 d1 e0 e1 ⊢
            clear HV
            rename Hid (Inv w w4 a b _ _) => HV
            have k0 := cell_regrown d0
            have k1 := cell_regrown d1
            have g0 := cell_regrown e0
            have g1 := cell_regrown e1
            go_wp2
            refine wp_region_quiet_below (by kernel_rfl) (by kernel_rfl) ?_
            repeat (go_big_quiet_step (fail))
            refine wpQuiet_nil ?_
            intro _ hw'
            obtain ⟨⟨dq, osq⟩, hw''⟩ := hw'
            subst hw''
            have HVn := Lib.hid (HV.out.below (below_regrown _ dq osq))
            replace d0 := k0 dq osq
            replace d1 := k1 dq osq
            replace e0 := g0 dq osq
            replace e1 := g1 dq osq
            clear k0 k1 g0 g1
            generalize grow (redrawn _ dq) osq = w5 at HVn d0 d1 e0 e1 ⊢
            clear HV
            rename Hid (Inv w w5 a b _ _) => HV
            go_wp2
            go_roundw
            case rel => exact ⟨k + 1, by omega, by go_num, by rw [HS.out, HRM.out]; simpa using HV.out⟩
            case measure => simp [intOf]; omega
          · have HRM : Hid (remOne (a, b) (x, y) = [((if x < b then b else x), y)]) := by
              show remOne (a, b) (x, y) = _
              simp only [remOne]
              rw [if_neg (show ¬ x < min y a by omega), if_pos (show max x b < y by omega), show max x b = (if x < b then b else x) by first | omega | (split <;> omega)]
              rfl
            have k0 := cell_regrown d0
            have k1 := cell_regrown d1
            have g0 := cell_regrown e0
            have g1 := cell_regrown e1
            go_wp2
            refine wp_region_quiet_below (by kernel_rfl) (by kernel_rfl) ?_
            repeat (go_big_quiet_step (fail))
            refine wpQuiet_nil ?_
            intro _ hw'
            obtain ⟨⟨dq, osq⟩, hw''⟩ := hw'
            subst hw''
            have HVn := Lib.hid (HV.out.below (below_regrown _ dq osq))
            replace d0 := k0 dq osq
            replace d1 := k1 dq osq
            replace e0 := g0 dq osq
            replace e1 := g1 dq osq
            clear k0 k1 g0 g1
            generalize grow (redrawn _ dq) osq = w4 at HVn d0 d1 e0 e1 ⊢
            clear HV
            rename Hid (Inv w w4 a b _ _) => HV
            have k0 := cell_regrown d0
            have k1 := cell_regrown d1
            have g0 := cell_regrown e0
            have g1 := cell_regrown e1
            go_wp2
            refine wp_region_quiet_below (by kernel_rfl) (by kernel_rfl) ?_
            repeat (go_big_quiet_step (fail))
            refine wpQuiet_nil ?_
            intro _ hw'
            obtain ⟨⟨dq, osq⟩, hw''⟩ := hw'
            subst hw''
            have HVn := Lib.hid (HV.out.below (below_regrown _ dq osq))
            replace d0 := k0 dq osq
            replace d1 := k1 dq osq
            replace e0 := g0 dq osq
            replace e1 := g1 dq osq
            clear k0 k1 g0 g1
            generalize grow (redrawn _ dq) osq = w5 at HVn d0 d1 e0 e1 ⊢
            clear HV
            rename Hid (Inv w w5 a b _ _) => HV
            go_wp2
            have hbs2 := HV.out.lt
            go_region_held3 (fun w' => w'.cell? ⟨b1, off1 + k * 2, none⟩ = some (.int .i64 x) ∧ w'.cell? ⟨b1, off1 + k * 2 + 1, none⟩ = some (.int .i64 y) ∧ w'.cell? ⟨w.heap.size, 0, none⟩ = some (.int .i64 a) ∧ w'.cell? ⟨w.heap.size, 1, none⟩ = some (.int .i64 b))
              (first
                | go_keep
                | (go_split_ands
                   refine ⟨?_, ?_, ?_, ?_⟩
                   · (rw [hgrow2.cell_far _ (by simp; omega) (fun e => by have := (HV.out.own.lt _ e.symm).1; simp only at this; omega)]; simp [*])
                   · (rw [hgrow2.cell_far _ (by simp; omega) (fun e => by have := (HV.out.own.lt _ e.symm).1; simp only at this; omega)]; simp [*])
                   · (rw [hgrow2.cell_far _ (by simp; omega) (fun e => by have := (HV.out.own.lt _ e.symm).1; simp only at this; omega)]; simp [*])
                   · (rw [hgrow2.cell_far _ (by simp; omega) (fun e => by have := (HV.out.own.lt _ e.symm).1; simp only at this; omega)]; simp [*])))
              ((refine step_append_lies _ (by rfl) _ _ _ (by rfl) (w.heap.size + 1) 32 i0 _ 2 16 Tryd.underlying25 hi hz0 hz1 hz2 rfl (by omega) _ _ _ (by rfl) ((HV.out.own.alloc _).drew) ⟨w5.heap.size, 0, none⟩ 1 1 [.int .i64 (if x < b then b else x), .int .i64 y] (by rfl) (by rfl) (World.news_of_block (cs := #[.int .i64 (if x < b then b else x), .int .i64 y]) (t := 32) (fr := (0, 0)) (heap_alloc_new w5 _)) (by simp [Value.oneCell']) (by omega) (by have := HLN.out; unfold maxLen; omega) (by have := HLN.out; omega) (by simp; omega) (w5.heap.size + 1) (by simp) ?_; intro gg2 cap2 w2 hown2 hgrow2 hat2 hlt2))
            have HV2 := Lib.hid (HV.out.app ((Below.refl _ w5).drew.alloc (by simp) (.cells #[.int .i64 (if x < b then b else x), .int .i64 y] 32)) (by simp) hown2 hgrow2)
            clear d0 d1 e0 e1 hown2 hgrow2 hat2 hlt2
            go_wp2
            go_roundw
            case rel => exact ⟨k + 1, by omega, by go_num, by rw [HS.out, HRM.out]; simpa using HV2.out⟩
            case measure => simp [intOf]; omega
          · have HRM : Hid (remOne (a, b) (x, y) = [(x, (if a < y then a else y))]) := by
              show remOne (a, b) (x, y) = _
              simp only [remOne]
              rw [if_pos (show x < min y a by omega), if_neg (show ¬ max x b < y by omega), show min y a = (if a < y then a else y) by first | omega | (split <;> omega)]
              rfl
            have k0 := cell_regrown d0
            have k1 := cell_regrown d1
            have g0 := cell_regrown e0
            have g1 := cell_regrown e1
            go_wp2
            refine wp_region_quiet_below (by kernel_rfl) (by kernel_rfl) ?_
            repeat (go_big_quiet_step (fail))
            refine wpQuiet_nil ?_
            intro _ hw'
            obtain ⟨⟨dq, osq⟩, hw''⟩ := hw'
            subst hw''
            have HVn := Lib.hid (HV.out.below (below_regrown _ dq osq))
            replace d0 := k0 dq osq
            replace d1 := k1 dq osq
            replace e0 := g0 dq osq
            replace e1 := g1 dq osq
            clear k0 k1 g0 g1
            generalize grow (redrawn _ dq) osq = w4 at HVn d0 d1 e0 e1 ⊢
            clear HV
            rename Hid (Inv w w4 a b _ _) => HV
            go_wp2
            have hbs1 := HV.out.lt
            go_region_held3 (fun w' => w'.cell? ⟨b1, off1 + k * 2, none⟩ = some (.int .i64 x) ∧ w'.cell? ⟨b1, off1 + k * 2 + 1, none⟩ = some (.int .i64 y) ∧ w'.cell? ⟨w.heap.size, 0, none⟩ = some (.int .i64 a) ∧ w'.cell? ⟨w.heap.size, 1, none⟩ = some (.int .i64 b))
              (first
                | go_keep
                | (go_split_ands
                   refine ⟨?_, ?_, ?_, ?_⟩
                   · (rw [hgrow1.cell_far _ (by simp; omega) (fun e => by have := (HV.out.own.lt _ e.symm).1; simp only at this; omega)]; simp [*])
                   · (rw [hgrow1.cell_far _ (by simp; omega) (fun e => by have := (HV.out.own.lt _ e.symm).1; simp only at this; omega)]; simp [*])
                   · (rw [hgrow1.cell_far _ (by simp; omega) (fun e => by have := (HV.out.own.lt _ e.symm).1; simp only at this; omega)]; simp [*])
                   · (rw [hgrow1.cell_far _ (by simp; omega) (fun e => by have := (HV.out.own.lt _ e.symm).1; simp only at this; omega)]; simp [*])))
              ((refine step_append_lies _ (by rfl) _ _ _ (by rfl) (w.heap.size + 1) 32 i0 _ 2 16 Tryd.underlying25 hi hz0 hz1 hz2 rfl (by omega) _ _ _ (by rfl) ((HV.out.own.alloc _).drew) ⟨w4.heap.size, 0, none⟩ 1 1 [.int .i64 x, .int .i64 (if a < y then a else y)] (by rfl) (by rfl) (World.news_of_block (cs := #[.int .i64 x, .int .i64 (if a < y then a else y)]) (t := 32) (fr := (0, 0)) (heap_alloc_new w4 _)) (by simp [Value.oneCell']) (by omega) (by have := HLN.out; unfold maxLen; omega) (by have := HLN.out; omega) (by simp; omega) (w4.heap.size + 1) (by simp) ?_; intro gg1 cap1 w1 hown1 hgrow1 hat1 hlt1))
            have HV1 := Lib.hid (HV.out.app ((Below.refl _ w4).drew.alloc (by simp) (.cells #[.int .i64 x, .int .i64 (if a < y then a else y)] 32)) (by simp) hown1 hgrow1)
            have hd0 : w1.cell? ⟨b1, off1 + k * 2, none⟩ = some (.int .i64 x) := by simp [*]
            have hd1 : w1.cell? ⟨b1, off1 + k * 2 + 1, none⟩ = some (.int .i64 y) := by simp [*]
            have he0 : w1.cell? ⟨w.heap.size, 0, none⟩ = some (.int .i64 a) := by simp [*]
            have he1 : w1.cell? ⟨w.heap.size, 1, none⟩ = some (.int .i64 b) := by simp [*]
            clear d0 d1 e0 e1 hown1 hgrow1 hat1 hlt1
            have d0 := hd0; clear hd0
            have d1 := hd1; clear hd1
            have e0 := he0; clear he0
            have e1 := he1; clear he1
            have k0 := cell_regrown d0
            have k1 := cell_regrown d1
            have g0 := cell_regrown e0
            have g1 := cell_regrown e1
            go_wp2
            refine wp_region_quiet_below (by kernel_rfl) (by kernel_rfl) ?_
            repeat (go_big_quiet_step (fail))
            refine wpQuiet_nil ?_
            intro _ hw'
            obtain ⟨⟨dq, osq⟩, hw''⟩ := hw'
            subst hw''
            have HV1n := Lib.hid (HV1.out.below (below_regrown _ dq osq))
            replace d0 := k0 dq osq
            replace d1 := k1 dq osq
            replace e0 := g0 dq osq
            replace e1 := g1 dq osq
            clear k0 k1 g0 g1
            generalize grow (redrawn _ dq) osq = w5 at HV1n d0 d1 e0 e1 ⊢
            clear HV1
            rename Hid (Inv w w5 a b _ _) => HV1
            go_wp2
            go_roundw
            case rel => exact ⟨k + 1, by omega, by go_num, by rw [HS.out, HRM.out]; simpa using HV1.out⟩
            case measure => simp [intOf]; omega
        · go_wp2
          go_ret
          rw [HR.out]
          have := HV.out.fin
          rwa [gap_all HL.out (by omega)] at this
end Go.Proofs.YtaackmiodkpnoaaDoor
