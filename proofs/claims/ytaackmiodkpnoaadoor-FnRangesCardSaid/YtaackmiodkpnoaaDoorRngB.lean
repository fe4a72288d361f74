/- Contracts of the functions that build a slice of ranges: RemoveRange of the implementation. No conditions. -/
import Derived.Test.YtaackmiodkpnoaaDoorRngA
namespace Go.Proofs.YtaackmiodkpnoaaDoor
open Go.ChangeShapes Go.WideShapes Go.ChangeAt Go.RowKit Go.Sort RM
set_option linter.unusedVariables false
theorem encR_snoc (L : List R) (x y : Int) : encR (L ++ [(x, y)]) = encR L ++ [.int .i64 x, .int .i64 y] := by simp [encR, List.flatMap_append]
theorem news2 {w : World} {g : Nat} {T : TypeId} (u v : Value) (hg : g = w.heap.size) : ∀ (j : Nat) (x : Value), [u, v][j]? = some x → (w.alloc (.cells #[u, v] T)).cell? ((⟨g, 0, none⟩ : Addr).add j) = some x := by
  subst hg
  intro j x hj
  match j, hj with
  | 0, hj => simp at hj; subst hj; simp [Addr.add, go_sem]
  | 1, hj => simp at hj; subst hj; simp [Addr.add, go_sem]
  | j + 2, hj => simp at hj
theorem one2 (a b : Int) : ∀ u ∈ [Value.int .i64 a, Value.int .i64 b], u.oneCell' = true := by intro u hu; simp at hu; rcases hu with rfl | rfl <;> rfl
theorem own_lower {w : World} {base base' : Nat} {e : TypeId} {size n : Nat} {v : Value} {xs : List Value} (h : w.ownsRow base' e size v n xs) (hb : base ≤ base') : w.ownsRow base e size v n xs := by
  obtain ⟨h1, h2⟩ := h
  refine ⟨h1, ?_⟩
  rcases h2 with h2 | ⟨g, cap, cur, hv, hg, r⟩
  · exact .inl h2
  · exact .inr ⟨g, cap, cur, hv, by omega, r⟩
/-- The state of a call that builds a slice of ranges, with the boxed range (a, b) in its first block. -/
structure Inv (w wr : World) (a b : Int) (v : Value) (L : List R) : Prop where
  own : wr.ownsRow (w.heap.size + 1) 32 2 v L.length (encR L)
  box : Bk wr w.heap.size 32 #[.int .i64 a, .int .i64 b]
  bel : Below w.heap.size w wr
theorem Inv.lt {w wr : World} {a b : Int} {v : Value} {L : List R} (h : Inv w wr a b v L) : w.heap.size + 1 ≤ wr.heap.size := h.box.lt
theorem Inv.below {w wr w1 : World} {a b : Int} {v : Value} {L : List R} (h : Inv w wr a b v L) (hb : Below wr.heap.size wr w1) : Inv w w1 a b v L :=
  ⟨own_step h.own hb, h.box.below hb h.box.lt, below_next h.bel h.bel.size hb⟩
theorem Inv.app {w wr Wp w1 : World} {a b x y : Int} {v v' : Value} {L : List R} {m : Nat} (h : Inv w wr a b v L) (hp : Below wr.heap.size wr Wp) (hm : m = L.length + 1) (ho : w1.ownsRow (w.heap.size + 1) 32 2 v' m (encR L ++ [.int .i64 x, .int .i64 y])) (hg : Wp.grownBy w1 v.ownBlock) : Inv w w1 a b v' (L ++ [(x, y)]) := by
  have h1 := h.below hp
  subst hm
  refine ⟨by rw [encR_snoc]; simpa using ho, h1.box.grown hg (fun e => ?_), h1.bel.grown hg h1.bel.size (fun k hk => ?_)⟩
  · have := (h.own.lt _ e.symm).1; omega
  · have := (h.own.lt _ hk).1; omega
theorem Inv.far {w wr Wp w1 : World} {a b : Int} {v : Value} {L : List R} (h : Inv w wr a b v L) (hg : Wp.grownBy w1 v.ownBlock) {g i : Nat} {u : Value} (hgb : wr.heap.size ≤ g) (hc : Wp.cell? ⟨g, i, none⟩ = some u) : w1.cell? ⟨g, i, none⟩ = some u :=
  hg.cell hc (fun e => by have := (h.own.lt _ e.symm).2; simp only at this; omega)
theorem Inv.fin {w wr : World} {a b : Int} {v : Value} {L : List R} (h : Inv w wr a b v L) : OutR w L (.returned v) wr := OutR.of_own h.bel (own_lower h.own (by omega)) rfl
theorem min_if (y a : Int) : min y a = if a < y then a else y := by split <;> omega
theorem max_if (x b : Int) : max x b = if x < b then b else x := by split <;> omega
theorem rem_snoc {l : List R} {k : Nat} {x y : Int} (r : R) (hk : k < l.length) (h : l.getD k (0, 0) = (x, y)) : (l.take (k + 1)).flatMap (remOne r) = (l.take k).flatMap (remOne r) ++ remOne r (x, y) := by
  rw [take_snoc hk h, List.flatMap_append]; simp
theorem rem_take_len (l : List R) (r : R) (k n : Nat) (hl : l.length = n) : ((l.take k).flatMap (remOne r)).length ≤ 2 * n := by
  have := rem_len r (l.take k)
  have : (l.take k).length ≤ n := by rw [List.length_take]; omega
  omega
set_option maxRecDepth 20000 in
set_option maxHeartbeats 2000000 in
theorem iRem {A : Option Addr} {c n : Nat} {w : World} {B : Nat} {l : List R} (hB : B ≤ w.heap.size) (hr : Rd w B A (encR l)) (hm : n ≤ 1048576) (HL : Hid (l.length = n)) (a b : Int) :
    Calls Tryd.prog 13 #[.slice A n c, .agg #[.int .i64 a, .int .i64 b]] w (OutR w (remR l (a, b))) := by
  obtain ⟨i0, hi, hz0, hz1, hz2⟩ := info_parts info_rng
  have hb1 : Below w.heap.size w (w.alloc (.cells #[.int .i64 a, .int .i64 b] 32)) := (Below.refl _ _).alloc (Nat.le_refl _) _
  have hk1 : Bk (w.alloc (.cells #[.int .i64 a, .int .i64 b] 32)) w.heap.size 32 #[.int .i64 a, .int .i64 b] := heap_alloc_new w _
  cases hI : isRs l
  · have HR := Lib.hid (show remR l (a, b) = l by unfold remR; rw [hI]; rfl)
    go_enter Tryd.func13, Tryd.ntmps13
    go_wp2_with fail
    generalize w.alloc (.cells #[.int .i64 a, .int .i64 b] 32) = w1 at hb1 hk1 ⊢
    refine (iIs (B := B) (by have := hb1.size; omega) (hr.below hb1 hB) (by omega) HL).mono ?_
    rintro e w2 ⟨rfl, hb2⟩
    have h02 := below_next hb1 hb1.size hb2
    rw [hI]
    go_wp2_with fail
    refine (iCopy (B := B) (by have := h02.size; omega) (hr.below h02 hB) (by omega) HL).mono ?_
    rintro e w3 ⟨A', c', rfl, hb3, ho3⟩
    go_wp2
    go_ret
    rw [HR.out]
    exact ⟨A', c', rfl, below_next h02 h02.size hb3, own_lower ho3 h02.size⟩
  · cases hf : isR (a, b)
    · have HR := Lib.hid (show remR l (a, b) = l by unfold remR; rw [hI, hf]; rfl)
      go_enter Tryd.func13, Tryd.ntmps13
      go_wp2_with fail
      generalize w.alloc (.cells #[.int .i64 a, .int .i64 b] 32) = w1 at hb1 hk1 ⊢
      refine (iIs (B := B) (by have := hb1.size; omega) (hr.below hb1 hB) (by omega) HL).mono ?_
      rintro e w2 ⟨rfl, hb2⟩
      have h02 := below_next hb1 hb1.size hb2
      rw [hI]
      have hk2 := hk1.below hb2 hk1.lt
      have c0 := hk2.cell 0
      have c1 := hk2.cell 1
      go_wp2_with fail
      refine (isRange_any a b _).mono ?_
      rintro e w3 ⟨rfl, hb3⟩
      have h03 := below_next h02 h02.size hb3
      rw [hf]
      go_wp2_with fail
      refine (iCopy (B := B) (by have := h03.size; omega) (hr.below h03 hB) (by omega) HL).mono ?_
      rintro e w4 ⟨A', c', rfl, hb4, ho4⟩
      go_wp2
      go_ret
      rw [HR.out]
      exact ⟨A', c', rfl, below_next h03 h03.size hb4, own_lower ho4 h03.size⟩
    · have HR := Lib.hid (show remR l (a, b) = l.flatMap (remOne (a, b)) by unfold remR; rw [hI, hf]; rfl)
      go_enter Tryd.func13, Tryd.ntmps13
      go_wp2_with fail
      generalize w.alloc (.cells #[.int .i64 a, .int .i64 b] 32) = w1 at hb1 hk1 ⊢
      refine (iIs (B := B) (by have := hb1.size; omega) (hr.below hb1 hB) (by omega) HL).mono ?_
      rintro e w2 ⟨rfl, hb2⟩
      have h02 := below_next hb1 hb1.size hb2
      rw [hI]
      have hk2 := hk1.below hb2 hk1.lt
      have c0 := hk2.cell 0
      have c1 := hk2.cell 1
      go_wp2_with fail
      refine (isRange_any a b _).mono ?_
      rintro e w3 ⟨rfl, hb3⟩
      have h03 := below_next h02 h02.size hb3
      have hk3 := hk2.below hb3 hk2.lt
      rw [hf]
      clear c0 c1
      have HI := Lib.hid hI; clear hI
      have HF := Lib.hid hf; clear hf
      have hsz : w.heap.size + 1 ≤ w3.heap.size := hk3.lt
      have hown := own_empty w3 (w.heap.size + 1) 32 2 hsz
      have h04 := h03.alloc h03.size (.cells #[] 32)
      have hk4 : Bk (w3.alloc (.cells #[] 32)) w.heap.size 32 #[.int .i64 a, .int .i64 b] := (Below.heap_alloc w3 _ _ hk3.lt).trans hk3
      have HOWN := Lib.hid hown; clear hown
      have HK := Lib.hid hk4; clear hk4 hk1 hk2 hk3
      go_wp2
      go_loopw [5, 21] (fun v i wr => ∃ k : Nat, k ≤ n ∧ i = .int .i64 k ∧ Inv w wr a b v ((l.take k).flatMap (remOne (a, b)))) (fun v i _ => n - (intOf i).toNat)
      case atStart => exact ⟨0, Nat.zero_le _, rfl, HOWN.out, HK.out, h04⟩
      case round =>
        obtain ⟨k, hk, rfl, hinv⟩ := hrel
        clear hb1 h02 h03 h04 hb2 hb3 HOWN HK
        have HV := Lib.hid hinv; clear hinv
        by_cases hlt : k < n
        · obtain ⟨b', off', x, y, rfl, hb', HX, d0, d1⟩ := (hr.below HV.out.bel hB).rng (k := k) (by rw [HL.out]; exact hlt)
          have hsz2 : w.heap.size < wr.heap.size := HV.out.box.lt
          have e0 := HV.out.box.cell 0
          have e1 := HV.out.box.cell 1
          have HS := Lib.hid (rem_snoc (a, b) (by rw [HL.out]; exact hlt) HX.out)
          have HLN := Lib.hid (rem_take_len l (a, b) k n HL.out)
          generalize (l.take k).flatMap (remOne (a, b)) = L at HV HS HLN ⊢
          have hp1 : Below wr.heap.size wr (wr.alloc (.cells #[.int .i64 x, .int .i64 y] 32)) := (Below.refl _ _).alloc (Nat.le_refl _) _
          have HP1 := Lib.hid hp1; clear hp1
          obtain ⟨hx0, hxy, hy1⟩ := rng_bd HI.out (by rw [HL.out]; exact hlt) HX.out
          have hab : a < b := by have := HF.out; simp [isR] at this; omega
          rcases (show (a < y ∧ x < b ∧ x < a ∧ b < y) ∨ (a < y ∧ x < b ∧ x < a ∧ y ≤ b) ∨ (a < y ∧ x < b ∧ a ≤ x ∧ b < y) ∨ (a < y ∧ x < b ∧ a ≤ x ∧ y ≤ b) ∨ (a < y ∧ b ≤ x ∧ a ≤ x ∧ x < y) ∨ (y ≤ a ∧ x < b ∧ x < y ∧ y ≤ b) by omega) with ⟨j1, j2, j3, j4⟩ | ⟨j1, j2, j3, j4⟩ | ⟨j1, j2, j3, j4⟩ | ⟨j1, j2, j3, j4⟩ | ⟨j1, j2, j3, j4⟩ | ⟨j1, j2, j3, j4⟩
          · have HRM : Hid (remOne (a, b) (x, y) = [(x, a), (b, y)]) := by
              show remOne (a, b) (x, y) = _
              simp only [remOne]
              rw [if_pos (show x < min y a by omega), if_pos (show max x b < y by omega), show min y a = a by omega, show max x b = b by omega]
              rfl
            have HP2 := Lib.hid (HP1.out.alloc HP1.out.size (.cells #[.int .i64 x, .int .i64 a] 32))
            go_wp2_with (at_builtin; refine wpList_append_own _ rfl (.tmp 33) (.tmp 42) 25 rfl (w.heap.size + 1) 32 i0 (.agg #[.int .i64 0, .int .i64 0]) 2 16 Tryd.underlying25 hi hz0 hz1 hz2 rfl (by decide) _ _ _ rfl ((HV.out.own.alloc _).alloc _) ⟨wr.heap.size + 1, 0, none⟩ 1 1 [.int .i64 x, .int .i64 a] rfl rfl (news2 _ _ (by simp)) (one2 _ _) (by have := HLN.out; unfold maxLen; omega) (by have := HLN.out; omega) (by simp; omega) ?_)
            intro v1 w4 hown1 hgrow1 _
            have HV1 := Lib.hid (HV.out.app HP2.out (by simp) hown1 hgrow1)
            have q0 := HV.out.far hgrow1 (g := wr.heap.size) (i := 0) (u := .int .i64 x) (Nat.le_refl _) (cell_alloc (cell_new2 _ _ _ _).1 _)
            have q1 := HV.out.far hgrow1 (g := wr.heap.size) (i := 1) (u := .int .i64 y) (Nat.le_refl _) (cell_alloc (cell_new2 _ _ _ _).2 _)
            have f0 := HV1.out.box.cell 0
            have f1 := HV1.out.box.cell 1
            have hz4 := HV1.out.lt
            clear hown1 hgrow1 d0 d1 e0 e1
            have HP3 : Hid (Below w4.heap.size w4 (w4.alloc (.cells #[.int .i64 b, .int .i64 y] 32))) := (Below.refl _ _).alloc (Nat.le_refl _) _
            go_wp2_with (at_builtin; refine wpList_append_own _ rfl (.tmp 52) (.tmp 61) 25 rfl (w.heap.size + 1) 32 i0 (.agg #[.int .i64 0, .int .i64 0]) 2 16 Tryd.underlying25 hi hz0 hz1 hz2 rfl (by decide) _ _ _ rfl (HV1.out.own.alloc _) ⟨w4.heap.size, 0, none⟩ 1 1 [.int .i64 b, .int .i64 y] rfl rfl (news2 _ _ (by simp)) (one2 _ _) (by have := HLN.out; unfold maxLen; simp only [List.length_append, List.length_singleton]; omega) (by have := HLN.out; simp only [List.length_append, List.length_singleton]; omega) (by simp; omega) ?_)
            intro v2 w5 hown2 hgrow2 _
            have HV2 := Lib.hid (HV1.out.app HP3.out (by simp) hown2 hgrow2)
            clear hown2 hgrow2 q0 q1 f0 f1
            go_wp2
            go_roundw
            case rel => exact ⟨k + 1, by omega, by go_num, by rw [HS.out, HRM.out]; simpa using HV2.out⟩
            case measure => simp [intOf]; omega
          · have HRM : Hid (remOne (a, b) (x, y) = [(x, a)]) := by
              show remOne (a, b) (x, y) = _
              simp only [remOne]
              rw [if_pos (show x < min y a by omega), if_neg (show ¬ max x b < y by omega), show min y a = a by omega]
              rfl
            have HP2 := Lib.hid (HP1.out.alloc HP1.out.size (.cells #[.int .i64 x, .int .i64 a] 32))
            go_wp2_with (at_builtin; refine wpList_append_own _ rfl (.tmp 33) (.tmp 42) 25 rfl (w.heap.size + 1) 32 i0 (.agg #[.int .i64 0, .int .i64 0]) 2 16 Tryd.underlying25 hi hz0 hz1 hz2 rfl (by decide) _ _ _ rfl ((HV.out.own.alloc _).alloc _) ⟨wr.heap.size + 1, 0, none⟩ 1 1 [.int .i64 x, .int .i64 a] rfl rfl (news2 _ _ (by simp)) (one2 _ _) (by have := HLN.out; unfold maxLen; omega) (by have := HLN.out; omega) (by simp; omega) ?_)
            intro v1 w4 hown1 hgrow1 _
            have HV1 := Lib.hid (HV.out.app HP2.out (by simp) hown1 hgrow1)
            have q0 := HV.out.far hgrow1 (g := wr.heap.size) (i := 0) (u := .int .i64 x) (Nat.le_refl _) (cell_alloc (cell_new2 _ _ _ _).1 _)
            have q1 := HV.out.far hgrow1 (g := wr.heap.size) (i := 1) (u := .int .i64 y) (Nat.le_refl _) (cell_alloc (cell_new2 _ _ _ _).2 _)
            have f0 := HV1.out.box.cell 0
            have f1 := HV1.out.box.cell 1
            have hz4 := HV1.out.lt
            clear hown1 hgrow1 d0 d1 e0 e1
            go_wp2
            go_roundw
            case rel => exact ⟨k + 1, by omega, by go_num, by rw [HS.out, HRM.out]; simpa using HV1.out⟩
            case measure => simp [intOf]; omega
          · have HRM : Hid (remOne (a, b) (x, y) = [(b, y)]) := by
              show remOne (a, b) (x, y) = _
              simp only [remOne]
              rw [if_neg (show ¬ x < min y a by omega), if_pos (show max x b < y by omega), show max x b = b by omega]
              rfl
            have HP2 := Lib.hid (HP1.out.alloc HP1.out.size (.cells #[.int .i64 b, .int .i64 y] 32))
            go_wp2_with (at_builtin; refine wpList_append_own _ rfl (.tmp 52) (.tmp 61) 25 rfl (w.heap.size + 1) 32 i0 (.agg #[.int .i64 0, .int .i64 0]) 2 16 Tryd.underlying25 hi hz0 hz1 hz2 rfl (by decide) _ _ _ rfl ((HV.out.own.alloc _).alloc _) ⟨wr.heap.size + 1, 0, none⟩ 1 1 [.int .i64 b, .int .i64 y] rfl rfl (news2 _ _ (by simp)) (one2 _ _) (by have := HLN.out; unfold maxLen; omega) (by have := HLN.out; omega) (by simp; omega) ?_)
            intro v1 w4 hown1 hgrow1 _
            have HV1 := Lib.hid (HV.out.app HP2.out (by simp) hown1 hgrow1)
            have hz4 := HV1.out.lt
            clear hown1 hgrow1 d0 d1 e0 e1
            go_wp2
            go_roundw
            case rel => exact ⟨k + 1, by omega, by go_num, by rw [HS.out, HRM.out]; simpa using HV1.out⟩
            case measure => simp [intOf]; omega
          · have HRM : Hid (remOne (a, b) (x, y) = []) := by
              show remOne (a, b) (x, y) = _
              simp only [remOne]
              rw [if_neg (show ¬ x < min y a by omega), if_neg (show ¬ max x b < y by omega)]
              rfl
            go_wp2
            go_roundw
            case rel => exact ⟨k + 1, by omega, by go_num, by rw [HS.out, HRM.out, List.append_nil]; exact HV.out.below HP1.out⟩
            case measure => simp [intOf]; omega
          · have HRM : Hid (remOne (a, b) (x, y) = [(x, y)]) := by
              show remOne (a, b) (x, y) = _
              simp only [remOne]
              rw [if_neg (show ¬ x < min y a by omega), if_pos (show max x b < y by omega), show max x b = x by omega]
              rfl
            have HP2 := Lib.hid (HP1.out.alloc HP1.out.size (.cells #[.int .i64 x, .int .i64 y] 32))
            go_wp2_with (at_builtin; refine wpList_append_own _ rfl (.tmp 52) (.tmp 61) 25 rfl (w.heap.size + 1) 32 i0 (.agg #[.int .i64 0, .int .i64 0]) 2 16 Tryd.underlying25 hi hz0 hz1 hz2 rfl (by decide) _ _ _ rfl ((HV.out.own.alloc _).alloc _) ⟨wr.heap.size + 1, 0, none⟩ 1 1 [.int .i64 x, .int .i64 y] rfl rfl (news2 _ _ (by simp)) (one2 _ _) (by have := HLN.out; unfold maxLen; omega) (by have := HLN.out; omega) (by simp; omega) ?_)
            intro v1 w4 hown1 hgrow1 _
            have HV1 := Lib.hid (HV.out.app HP2.out (by simp) hown1 hgrow1)
            have hz4 := HV1.out.lt
            clear hown1 hgrow1 d0 d1 e0 e1
            go_wp2
            go_roundw
            case rel => exact ⟨k + 1, by omega, by go_num, by rw [HS.out, HRM.out]; simpa using HV1.out⟩
            case measure => simp [intOf]; omega
          · have HRM : Hid (remOne (a, b) (x, y) = [(x, y)]) := by
              show remOne (a, b) (x, y) = _
              simp only [remOne]
              rw [if_pos (show x < min y a by omega), if_neg (show ¬ max x b < y by omega), show min y a = y by omega]
              rfl
            have HP2 := Lib.hid (HP1.out.alloc HP1.out.size (.cells #[.int .i64 x, .int .i64 y] 32))
            go_wp2_with (at_builtin; refine wpList_append_own _ rfl (.tmp 33) (.tmp 42) 25 rfl (w.heap.size + 1) 32 i0 (.agg #[.int .i64 0, .int .i64 0]) 2 16 Tryd.underlying25 hi hz0 hz1 hz2 rfl (by decide) _ _ _ rfl ((HV.out.own.alloc _).alloc _) ⟨wr.heap.size + 1, 0, none⟩ 1 1 [.int .i64 x, .int .i64 y] rfl rfl (news2 _ _ (by simp)) (one2 _ _) (by have := HLN.out; unfold maxLen; omega) (by have := HLN.out; omega) (by simp; omega) ?_)
            intro v1 w4 hown1 hgrow1 _
            have HV1 := Lib.hid (HV.out.app HP2.out (by simp) hown1 hgrow1)
            have q0 := HV.out.far hgrow1 (g := wr.heap.size) (i := 0) (u := .int .i64 x) (Nat.le_refl _) (cell_alloc (cell_new2 _ _ _ _).1 _)
            have q1 := HV.out.far hgrow1 (g := wr.heap.size) (i := 1) (u := .int .i64 y) (Nat.le_refl _) (cell_alloc (cell_new2 _ _ _ _).2 _)
            have f0 := HV1.out.box.cell 0
            have f1 := HV1.out.box.cell 1
            have hz4 := HV1.out.lt
            clear hown1 hgrow1 d0 d1 e0 e1
            go_wp2
            go_roundw
            case rel => exact ⟨k + 1, by omega, by go_num, by rw [HS.out, HRM.out]; simpa using HV1.out⟩
            case measure => simp [intOf]; omega
        · go_wp2
          go_ret
          rw [HR.out]
          have := HV.out.fin
          rwa [gap_all HL.out (by omega)] at this
end Go.Proofs.YtaackmiodkpnoaaDoor
