/- Contracts of the functions that build a slice of ranges: AddRange of the implementation. No conditions. -/
import Derived.Test.YtaackmiodkpnoaaDoorRngB
namespace Go.Proofs.YtaackmiodkpnoaaDoor
open Go.ChangeShapes Go.WideShapes Go.ChangeAt Go.RowKit Go.Sort RM
set_option linter.unusedVariables false
theorem as_lo {o : List R} {p : Bool} {a b x y : Int} (h : y < a) : addStep ⟨o, p, (a, b)⟩ (x, y) = ⟨o ++ [(x, y)], p, (a, b)⟩ := by simp [addStep, h]
theorem as_hi {o : List R} {a b x y : Int} (h : ¬ y < a) (h1 : b < x) : addStep ⟨o, true, (a, b)⟩ (x, y) = ⟨o ++ [(x, y)], true, (a, b)⟩ := by simp [addStep, h, h1]
theorem as_put {o : List R} {a b x y : Int} (h : ¬ y < a) (h1 : b < x) : addStep ⟨o, false, (a, b)⟩ (x, y) = ⟨o ++ [(a, b)] ++ [(x, y)], true, (a, b)⟩ := by simp [addStep, h, h1]
theorem as_mid {o : List R} {p : Bool} {a b x y : Int} (h : ¬ y < a) (h1 : ¬ b < x) : addStep ⟨o, p, (a, b)⟩ (x, y) = ⟨o, p, (min a x, max b y)⟩ := by simp [addStep, h, h1]
theorem add_snoc {l : List R} {k : Nat} {x y : Int} (s : AS) (hk : k < l.length) (h : l.getD k (0, 0) = (x, y)) : (l.take (k + 1)).foldl addStep s = addStep ((l.take k).foldl addStep s) (x, y) := by
  rw [take_snoc hk h, List.foldl_append]; rfl
theorem add_len {l : List R} {k n : Nat} {a b a' b' : Int} {o : List R} {p : Bool} (hl : l.length = n) (h : (l.take k).foldl addStep ⟨[], false, (a, b)⟩ = ⟨o, p, (a', b')⟩) : o.length ≤ n + 1 := by
  have h1 := addFold_len (l.take k) ⟨[], false, (a, b)⟩
  rw [h] at h1
  have h2 : (l.take k).length ≤ n := by rw [List.length_take]; omega
  simp [AS.sz] at h1
  omega
theorem Inv.store {w wr : World} {a b : Int} {v : Value} {L : List R} (h : Inv w wr a b v L) (a' b' : Int) : Inv w ((wr.setCell ⟨w.heap.size, 0, none⟩ (.int .i64 a')).setCell ⟨w.heap.size, 1, none⟩ (.int .i64 b')) a' b' v L :=
  ⟨ownsRow_setCell_below (ownsRow_setCell_below h.own (by show w.heap.size < _; omega) _) (by show w.heap.size < _; omega) _, by simpa using (h.box.set_ 0 (.int .i64 a')).set_ 1 (.int .i64 b'), (h.bel.setCell (p := ⟨w.heap.size, 0, none⟩) (Nat.le_refl _) _).setCell (p := ⟨w.heap.size, 1, none⟩) (Nat.le_refl _) _⟩
set_option maxRecDepth 20000 in
set_option maxHeartbeats 2000000 in
theorem iAdd {A : Option Addr} {c n : Nat} {w : World} {B : Nat} {l : List R} (hB : B ≤ w.heap.size) (hr : Rd w B A (encR l)) (hm : n ≤ 1048576) (HL : Hid (l.length = n)) (a b : Int) :
    Calls Tryd.prog 12 #[.slice A n c, .agg #[.int .i64 a, .int .i64 b]] w (OutR w (addR l (a, b))) := by
  obtain ⟨i0, hi, hz0, hz1, hz2⟩ := info_parts info_rng
  have hb1 : Below w.heap.size w (w.alloc (.cells #[.int .i64 a, .int .i64 b] 32)) := (Below.refl _ _).alloc (Nat.le_refl _) _
  have hk1 : Bk (w.alloc (.cells #[.int .i64 a, .int .i64 b] 32)) w.heap.size 32 #[.int .i64 a, .int .i64 b] := heap_alloc_new w _
  cases hI : isRs l
  · have HR := Lib.hid (show addR l (a, b) = l by unfold addR; rw [hI]; rfl)
    go_enter Tryd.func12, Tryd.ntmps12
    go_wp2_with fail
    generalize w.alloc (.cells #[.int .i64 a, .int .i64 b] 32) = w1 at hb1 hk1 ⊢
    refine (iIs (B := B) (by have := hb1.size; omega) (hr.below hb1 hB) (by omega) HL).mono ?_
    rintro e w2 ⟨rfl, hb2⟩
    have h02 := below_next hb1 hb1.size hb2
    rw [hI]
    go_wp2_with fail
    refine (iCopy (B := B) (by have := h02.size; omega) (hr.below h02 hB) (by omega) HL).mono ?_
    rintro e w3 ⟨A', c', rfl, hb3, ho3⟩
    go_wp2
    go_ret
    rw [HR.out]
    exact ⟨A', c', rfl, below_next h02 h02.size hb3, own_lower ho3 h02.size⟩
  · cases hf : isR (a, b)
    · have HR := Lib.hid (show addR l (a, b) = l by unfold addR; rw [hI, hf]; rfl)
      go_enter Tryd.func12, Tryd.ntmps12
      go_wp2_with fail
      generalize w.alloc (.cells #[.int .i64 a, .int .i64 b] 32) = w1 at hb1 hk1 ⊢
      refine (iIs (B := B) (by have := hb1.size; omega) (hr.below hb1 hB) (by omega) HL).mono ?_
      rintro e w2 ⟨rfl, hb2⟩
      have h02 := below_next hb1 hb1.size hb2
      rw [hI]
      have hk2 := hk1.below hb2 hk1.lt
      have c0 := hk2.cell 0
      have c1 := hk2.cell 1
      go_wp2_with fail
      refine (isRange_any a b _).mono ?_
      rintro e w3 ⟨rfl, hb3⟩
      have h03 := below_next h02 h02.size hb3
      rw [hf]
      go_wp2_with fail
      refine (iCopy (B := B) (by have := h03.size; omega) (hr.below h03 hB) (by omega) HL).mono ?_
      rintro e w4 ⟨A', c', rfl, hb4, ho4⟩
      go_wp2
      go_ret
      rw [HR.out]
      exact ⟨A', c', rfl, below_next h03 h03.size hb4, own_lower ho4 h03.size⟩
    · have HR := Lib.hid (show addR l (a, b) = (addFold l (a, b)).fin by unfold addR; rw [hI, hf]; rfl)
      go_enter Tryd.func12, Tryd.ntmps12
      go_wp2_with fail
      generalize w.alloc (.cells #[.int .i64 a, .int .i64 b] 32) = w1 at hb1 hk1 ⊢
      refine (iIs (B := B) (by have := hb1.size; omega) (hr.below hb1 hB) (by omega) HL).mono ?_
      rintro e w2 ⟨rfl, hb2⟩
      have h02 := below_next hb1 hb1.size hb2
      rw [hI]
      have hk2 := hk1.below hb2 hk1.lt
      have c0 := hk2.cell 0
      have c1 := hk2.cell 1
      go_wp2_with fail
      refine (isRange_any a b _).mono ?_
      rintro e w3 ⟨rfl, hb3⟩
      have h03 := below_next h02 h02.size hb3
      have hk3 := hk2.below hb3 hk2.lt
      rw [hf]
      clear c0 c1
      have HI := Lib.hid hI; clear hI
      have HF := Lib.hid hf; clear hf
      have hsz : w.heap.size + 1 ≤ w3.heap.size := hk3.lt
      have hown := own_empty w3 (w.heap.size + 1) 32 2 hsz
      have h04 := h03.alloc h03.size (.cells #[] 32)
      have hk4 : Bk (w3.alloc (.cells #[] 32)) w.heap.size 32 #[.int .i64 a, .int .i64 b] := (Below.heap_alloc w3 _ _ hk3.lt).trans hk3
      have HV0 : Hid (Inv w (w3.alloc (.cells #[] 32)) a b (.slice (some ⟨w3.heap.size, 0, none⟩) 0 0) []) := ⟨hown, hk4, h04⟩
      clear hk4 hk1 hk2 hk3 hown hb1 h02 h03 h04 hb2 hb3
      go_wp2
      go_loopw [5, 6, 22] (fun v pl i wr => ∃ (k : Nat) (o : List R) (p : Bool) (a' b' : Int), k ≤ n ∧ i = .int .i64 k ∧ pl = .bool p ∧ (l.take k).foldl addStep ⟨[], false, (a, b)⟩ = ⟨o, p, (a', b')⟩ ∧ Inv w wr a' b' v o) (fun v pl i _ => n - (intOf i).toNat)
      case atStart => exact ⟨0, [], false, a, b, Nat.zero_le _, rfl, rfl, rfl, HV0.out⟩
      case round =>
        obtain ⟨k, o, p, a', b', hk, rfl, rfl, hst, hinv⟩ := hrel
        clear HV0
        have HLN := Lib.hid (add_len HL.out hst)
        have HST := Lib.hid hst; clear hst
        have HV := Lib.hid hinv; clear hinv
        have hsz2 : w.heap.size < wr.heap.size := HV.out.box.lt
        have e0 := HV.out.box.cell 0
        have e1 := HV.out.box.cell 1
        by_cases hlt : k < n
        · obtain ⟨b1, off1, x, y, rfl, hb', HX, d0, d1⟩ := (hr.below HV.out.bel hB).rng (k := k) (by rw [HL.out]; exact hlt)
          have HS := Lib.hid (add_snoc ⟨[], false, (a, b)⟩ (by rw [HL.out]; exact hlt) HX.out)
          have hp1 : Below wr.heap.size wr (wr.alloc (.cells #[.int .i64 x, .int .i64 y] 32)) := (Below.refl _ _).alloc (Nat.le_refl _) _
          have HP1 := Lib.hid hp1; clear hp1
          have HP2 := Lib.hid (HP1.out.alloc HP1.out.size (.cells #[.int .i64 x, .int .i64 y] 32))
          by_cases h1 : y < a'
          · go_wp2_with (at_builtin; refine wpList_append_own _ rfl (.tmp 43) (.tmp 45) 25 rfl (w.heap.size + 1) 32 i0 (.agg #[.int .i64 0, .int .i64 0]) 2 16 Tryd.underlying25 hi hz0 hz1 hz2 rfl (by decide) _ _ _ rfl ((HV.out.own.alloc _).alloc _) ⟨wr.heap.size + 1, 0, none⟩ 1 1 [.int .i64 x, .int .i64 y] rfl rfl (news2 _ _ (by simp)) (one2 _ _) (by have := HLN.out; unfold maxLen; omega) (by have := HLN.out; omega) (by simp; omega) ?_)
            intro v1 w4 hown1 hgrow1 _
            have HV1 := Lib.hid (HV.out.app HP2.out (by simp) hown1 hgrow1)
            clear hown1 hgrow1 d0 d1 e0 e1
            go_wp2
            go_roundw
            case rel => exact ⟨k + 1, _, _, a', b', by omega, by go_num, rfl, by rw [HS.out, HST.out, as_lo (by omega)], HV1.out⟩
            case measure => simp [intOf]; omega
          · by_cases h2 : b' < x
            · cases p
              · have HP3 := Lib.hid (HP1.out.alloc HP1.out.size (.cells #[.int .i64 a', .int .i64 b'] 32))
                go_wp2_with (at_builtin; refine wpList_append_own _ rfl (.tmp 55) (.tmp 57) 25 rfl (w.heap.size + 1) 32 i0 (.agg #[.int .i64 0, .int .i64 0]) 2 16 Tryd.underlying25 hi hz0 hz1 hz2 rfl (by decide) _ _ _ rfl ((HV.out.own.alloc _).alloc _) ⟨wr.heap.size + 1, 0, none⟩ 1 1 [.int .i64 a', .int .i64 b'] rfl rfl (news2 _ _ (by simp)) (one2 _ _) (by have := HLN.out; unfold maxLen; omega) (by have := HLN.out; omega) (by simp; omega) ?_)
                intro v1 w4 hown1 hgrow1 _
                have HV1 := Lib.hid (HV.out.app HP3.out (by simp) hown1 hgrow1)
                have q0 := HV.out.far hgrow1 (g := wr.heap.size) (i := 0) (u := .int .i64 x) (Nat.le_refl _) (cell_alloc (cell_new2 _ _ _ _).1 _)
                have q1 := HV.out.far hgrow1 (g := wr.heap.size) (i := 1) (u := .int .i64 y) (Nat.le_refl _) (cell_alloc (cell_new2 _ _ _ _).2 _)
                have hz4 := HV1.out.lt
                clear hown1 hgrow1 d0 d1 e0 e1
                have HP4 : Hid (Below w4.heap.size w4 (w4.alloc (.cells #[.int .i64 x, .int .i64 y] 32))) := (Below.refl _ _).alloc (Nat.le_refl _) _
                go_wp2_with (at_builtin; refine wpList_append_own _ rfl (.tmp 59) (.tmp 61) 25 rfl (w.heap.size + 1) 32 i0 (.agg #[.int .i64 0, .int .i64 0]) 2 16 Tryd.underlying25 hi hz0 hz1 hz2 rfl (by decide) _ _ _ rfl (HV1.out.own.alloc _) ⟨w4.heap.size, 0, none⟩ 1 1 [.int .i64 x, .int .i64 y] rfl rfl (news2 _ _ (by simp)) (one2 _ _) (by have := HLN.out; unfold maxLen; simp only [List.length_append, List.length_singleton]; omega) (by have := HLN.out; simp only [List.length_append, List.length_singleton]; omega) (by simp; omega) ?_)
                intro v2 w5 hown2 hgrow2 _
                have HV2 := Lib.hid (HV1.out.app HP4.out (by simp) hown2 hgrow2)
                clear hown2 hgrow2 q0 q1
                go_wp2
                go_roundw
                case rel => exact ⟨k + 1, _, true, a', b', by omega, by go_num, rfl, by rw [HS.out, HST.out, as_put (by omega) (by omega)], HV2.out⟩
                case measure => simp [intOf]; omega
              · go_wp2_with (at_builtin; refine wpList_append_own _ rfl (.tmp 59) (.tmp 61) 25 rfl (w.heap.size + 1) 32 i0 (.agg #[.int .i64 0, .int .i64 0]) 2 16 Tryd.underlying25 hi hz0 hz1 hz2 rfl (by decide) _ _ _ rfl ((HV.out.own.alloc _).alloc _) ⟨wr.heap.size + 1, 0, none⟩ 1 1 [.int .i64 x, .int .i64 y] rfl rfl (news2 _ _ (by simp)) (one2 _ _) (by have := HLN.out; unfold maxLen; omega) (by have := HLN.out; omega) (by simp; omega) ?_)
                intro v1 w4 hown1 hgrow1 _
                have HV1 := Lib.hid (HV.out.app HP2.out (by simp) hown1 hgrow1)
                clear hown1 hgrow1 d0 d1 e0 e1
                go_wp2
                go_roundw
                case rel => exact ⟨k + 1, _, true, a', b', by omega, by go_num, rfl, by rw [HS.out, HST.out, as_hi (by omega) (by omega)], HV1.out⟩
                case measure => simp [intOf]; omega
            · have f0 := HV.out.box.frozen 0
              have f1 := HV.out.box.frozen 1
              by_cases hmn : x < a' <;> by_cases hmx : b' < y
              all_goals
                have HV3 := Lib.hid ((HV.out.store (if x < a' then x else a') (if b' < y then y else b')).below ((Below.refl _ _).alloc (Nat.le_refl _) (.cells #[.int .i64 x, .int .i64 y] 32)))
                have HE := Lib.hid (show ((if x < a' then x else a', if b' < y then y else b') : R) = (min a' x, max b' y) by congr 1 <;> (split <;> omega))
                simp only [hmn, hmx, if_true, if_false] at HV3 HE
                go_wp2
                go_roundw
                case rel => exact ⟨k + 1, _, _, _, _, by omega, by go_num, rfl, by rw [HS.out, HST.out, as_mid (by omega) (by omega), ← HE.out], HV3.out⟩
                case measure => simp [intOf]; omega
        · have HE := Lib.hid (show addFold l (a, b) = ⟨o, p, (a', b')⟩ by have := HST.out; rw [gap_all HL.out (by omega)] at this; exact this)
          cases p
          · have HP5 : Hid (Below wr.heap.size wr (wr.alloc (.cells #[.int .i64 a', .int .i64 b'] 32))) := (Below.refl _ _).alloc (Nat.le_refl _) _
            go_wp2_with (at_builtin; refine wpList_append_own _ rfl (.tmp 66) (.tmp 68) 25 rfl (w.heap.size + 1) 32 i0 (.agg #[.int .i64 0, .int .i64 0]) 2 16 Tryd.underlying25 hi hz0 hz1 hz2 rfl (by decide) _ _ _ rfl (HV.out.own.alloc _) ⟨wr.heap.size, 0, none⟩ 1 1 [.int .i64 a', .int .i64 b'] rfl rfl (news2 _ _ (by simp)) (one2 _ _) (by have := HLN.out; unfold maxLen; omega) (by have := HLN.out; omega) (by simp; omega) ?_)
            intro v1 w4 hown1 hgrow1 _
            have HV1 := Lib.hid (HV.out.app HP5.out (by simp) hown1 hgrow1)
            clear hown1 hgrow1 e0 e1
            go_wp2
            go_ret
            rw [HR.out, HE.out]
            exact HV1.out.fin
          · go_wp2
            go_ret
            rw [HR.out, HE.out]
            exact HV.out.fin
end Go.Proofs.YtaackmiodkpnoaaDoor
