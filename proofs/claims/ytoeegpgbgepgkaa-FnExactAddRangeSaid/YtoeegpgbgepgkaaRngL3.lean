/- The walks of the laws on AddRange and RemoveRange. No conditions. -/
import Derived.Test.YtoeegpgbgepgkaaRngD
import Derived.Test.YtoeegpgbgepgkaaRngE
import Derived.Deep.RegionHeld3
namespace Go.Proofs.Ytoeegpgbgepgkaa
open Go.ChangeShapes Go.WideShapes Go.ChangeAt Go.RowKit Go.Sort RM
set_option linter.unusedVariables false
theorem box_two (w : World) (u v : Value) (T : TypeId) : Below w.heap.size w (w.alloc (.cells #[u, v] T)) := (Below.refl _ _).alloc (Nat.le_refl _) _
theorem own_far {w w' : World} {base : Nat} {e : TypeId} {size n : Nat} {v : Value} {xs : List Value} {row : Option Nat} (h : w.ownsRow base e size v n xs) (hg : w.grownBy w' row) (hr : ∀ k, row = some k → k < base) : w'.ownsRow base e size v n xs :=
  h.kept hg (by
    cases hv : v.ownBlock with
    | none => exact .inl rfl
    | some g => exact .inr (fun e => by have := hr g e.symm; have := (h.lt g hv).1; omega))
theorem own_other {w w' : World} {base : Nat} {e : TypeId} {size n : Nat} {v : Value} {xs : List Value} {row : Option Nat} (h : w.ownsRow base e size v n xs) (hg : w.grownBy w' row) (hr : ∀ k, row = some k → v.ownBlock ≠ some k) : w'.ownsRow base e size v n xs :=
  h.kept hg (by
    cases hv : v.ownBlock with
    | none => exact .inl rfl
    | some g => exact .inr (fun e => hr g e.symm hv))
theorem below_only {a w w' : World} {B : Nat} {row : Option Nat} (h : Below B a w) (hg : w.grownBy w' row) (hB : B ≤ w.heap.size) (hr : ∀ k, row = some k → B ≤ k) : Below B a w' := h.grown hg hB hr
set_option maxHeartbeats 4000000 in
theorem walk_FnExactAddRange (A : Option Addr) (c n : Nat) (l : List R) (w : World) (hr : Rd w w.heap.size A (encR l)) (hm : n ≤ 9223372036854775807) (HL : Hid (l.length = n)) (a b : Int) :
    Calls Try.prog 11 #[.slice A n c, .agg #[.int .i64 a, .int .i64 b]] w fun e w' => e = .returned (.bool true) ∧ Below w.heap.size w w' := by
  have hb0 := box_two w (.int .i64 a) (.int .i64 b) 36
  have hc := cell_new2 w (.int .i64 a) (.int .i64 b) 36
  have c0 := hc.1
  have c1 := hc.2
  clear hc
  have hsz0 : w.heap.size < (w.alloc (.cells #[.int .i64 a, .int .i64 b] 36)).heap.size := by simp
  by_cases hn : n ≤ 1048576
  · have hsz : (if n ≤ 1048576 then 1048576 - (n : Int) else -1) = 1048576 - (n : Int) := if_pos hn
    have hself := eqRs_self l
    have hself2 := eqRs_self (addR l (a, b))
    have hll : (addR l (a, b)).length ≤ 2097153 := by have := addR_len l (a, b); rw [HL.out] at this; omega
    go_enter Try.func11, Try.ntmps11
    go_wp2_with fail
    generalize w.alloc (.cells #[.int .i64 a, .int .i64 b] 36) = W at hb0 c0 c1 hsz0 ⊢
    refine (szRangeS_any hm).mono ?_
    rintro e w' ⟨rfl, rfl⟩
    go_wp2_with fail
    go_region_held3 (fun w' => w'.cell? ⟨w.heap.size, 0, none⟩ = some (.int .i64 a) ∧ w'.cell? ⟨w.heap.size, 1, none⟩ = some (.int .i64 b))
      (first | go_keep | exact ⟨s0, s1⟩ | exact ⟨u0, u1⟩ | exact ⟨v0, v1⟩)
      (first
        | (go_at_call 15; refine (toRangeS_any (B := w.heap.size) hb0.drew.size (hr.below hb0.drew (Nat.le_refl _)) (by omega) HL).mono ?_; rintro e w1 ⟨rfl, hb1, ho1⟩; have s0 := (hb1.cell (p := ⟨w.heap.size, 0, none⟩) hsz0).trans c0; have s1 := (hb1.cell (p := ⟨w.heap.size, 1, none⟩) hsz0).trans c1; have h01 := below_next hb0.drew hb0.drew.size hb1)
        | (go_at_call 31; refine (toRange_any a b _).mono ?_; rintro e w2 ⟨rfl, hb2⟩; have u0 := (hb2.cell (p := ⟨w.heap.size, 0, none⟩) (Nat.lt_of_lt_of_le hsz0 hb1.size)).trans s0; have u1 := (hb2.cell (p := ⟨w.heap.size, 1, none⟩) (Nat.lt_of_lt_of_le hsz0 hb1.size)).trans s1; have ho12 := own_step ho1 hb2; have h02 := below_next h01 h01.size hb2)
        | (go_at_call 36; refine (sAdd (B := w2.heap.size) (Nat.le_refl _) (own_rd ho12) hn HL a b).mono ?_; rintro e w3 ⟨A3, cc3, rfl, hb3, ho3⟩; have v0 := (hb3.cell (p := ⟨w.heap.size, 0, none⟩) (Nat.lt_of_lt_of_le hsz0 (Nat.le_trans hb1.size hb2.size))).trans u0; have v1 := (hb3.cell (p := ⟨w.heap.size, 1, none⟩) (Nat.lt_of_lt_of_le hsz0 (Nat.le_trans hb1.size hb2.size))).trans u1; have h03 := below_next h02 h02.size hb3))
    clear c0 c1 s0 s1 u0 u1
    have hz03 : w.heap.size < w3.heap.size := Nat.lt_of_lt_of_le hsz0 (Nat.le_trans hb1.size (Nat.le_trans hb2.size hb3.size))
    go_wp2_with fail
    refine (toRangeS_any (B := w.heap.size) h03.size (hr.below h03 (Nat.le_refl _)) (by omega) HL).mono ?_
    rintro e w4 ⟨rfl, hb4, ho4⟩
    have h04 := below_next h03 h03.size hb4
    have hz34 : w3.heap.size < w4.heap.size := (ho4.lt _ rfl).2
    have v2 := (hb4.cell (p := ⟨w.heap.size, 0, none⟩) hz03).trans v0
    have v3 := (hb4.cell (p := ⟨w.heap.size, 1, none⟩) hz03).trans v1
    clear v0 v1
    go_wp2_with fail
    refine (toRange_any a b _).mono ?_
    rintro e w5 ⟨rfl, hb5⟩
    have h05 := below_next h04 h04.size hb5
    have ho45 := own_step ho4 hb5
    have v4 := (hb5.cell (p := ⟨w.heap.size, 0, none⟩) (Nat.lt_trans hz03 hz34)).trans v2
    have v5 := (hb5.cell (p := ⟨w.heap.size, 1, none⟩) (Nat.lt_trans hz03 hz34)).trans v3
    clear v2 v3
    go_wp2_with fail
    refine (iAdd (B := w5.heap.size) (Nat.le_refl _) (own_rd ho45) hn HL a b).mono ?_
    rintro e w6 ⟨A6, cc6, rfl, hb6, ho6⟩
    have h06 := below_next h05 h05.size hb6
    have hz05 : w.heap.size < w5.heap.size := Nat.lt_of_lt_of_le (Nat.lt_trans hz03 hz34) hb5.size
    have hz35 : w3.heap.size < w5.heap.size := Nat.lt_of_lt_of_le hz34 hb5.size
    have v6 := (hb6.cell (p := ⟨w.heap.size, 0, none⟩) hz05).trans v4
    have v7 := (hb6.cell (p := ⟨w.heap.size, 1, none⟩) hz05).trans v5
    clear v4 v5
    have hz06 : w.heap.size < w6.heap.size := Nat.lt_of_lt_of_le hz05 hb6.size
    have ho36 := own_step (own_step (own_step ho3 hb4) hb5) hb6
    have ho46 := own_step ho45 hb6
    go_wp2_with fail
    refine (eqRangeS_any (addR l (a, b)) (addR l (a, b)) _ _ _ _ _ _ w6 w6.heap.size (Nat.le_refl _) (own_rd ho6) (own_rd ho36) (by omega) (by omega) rfl rfl).mono ?_
    rintro e w7 ⟨rfl, hb7⟩
    have h07 := below_next h06 h06.size hb7
    go_wp2_with fail
    refine (toRangeS_any (B := w.heap.size) h07.size (hr.below h07 (Nat.le_refl _)) (by omega) HL).mono ?_
    rintro e w8 ⟨rfl, hb8, ho8⟩
    have h08 := below_next h07 h07.size hb8
    have ho48 := own_step (own_step ho46 hb7) hb8
    go_wp2_with fail
    refine (eqRangeS_any l l n n _ _ _ _ w8 w8.heap.size (Nat.le_refl _) (own_rd ho48) (own_rd ho8) (by omega) (by omega) HL.out HL.out).mono ?_
    rintro e w9 ⟨rfl, hb9⟩
    have h09 := below_next h08 h08.size hb9
    have ho49 := own_step ho48 hb9
    have ho39 := own_step (own_step (own_step ho36 hb7) hb8) hb9
    have ho69 := own_step (own_step (own_step ho6 hb7) hb8) hb9
    have v8 := (hb9.cell (p := ⟨w.heap.size, 0, none⟩) (Nat.lt_of_lt_of_le hz06 (Nat.le_trans hb7.size hb8.size))).trans ((hb8.cell (p := ⟨w.heap.size, 0, none⟩) (Nat.lt_of_lt_of_le hz06 hb7.size)).trans ((hb7.cell (p := ⟨w.heap.size, 0, none⟩) hz06).trans v6))
    have v9 := (hb9.cell (p := ⟨w.heap.size, 1, none⟩) (Nat.lt_of_lt_of_le hz06 (Nat.le_trans hb7.size hb8.size))).trans ((hb8.cell (p := ⟨w.heap.size, 1, none⟩) (Nat.lt_of_lt_of_le hz06 hb7.size)).trans ((hb7.cell (p := ⟨w.heap.size, 1, none⟩) hz06).trans v7))
    clear v6 v7
    go_wp2_with fail
    refine (markRangeS_any 1 ho49 (by omega) (by omega) (by omega)).mono ?_
    rintro e w10 ⟨rfl, ho410, hg10⟩
    have hg10' : w9.grownBy w10 (some w3.heap.size) := hg10
    have h010 := below_only h09 hg10' h09.size (fun k hk => by injection hk; omega)
    have ho610 := own_far ho69 hg10' (fun k hk => by injection hk; omega)
    have ho310 := own_other ho39 hg10' (fun k hk e => by injection hk; have := (ho3.lt _ e).2; omega)
    have v10 := hg10'.cell v8 (fun e => by injection e with e; have e' : w.heap.size = w3.heap.size := e; omega)
    have v11 := hg10'.cell v9 (fun e => by injection e with e; have e' : w.heap.size = w3.heap.size := e; omega)
    clear v8 v9 hg10
    go_wp2_with fail
    refine (eqRangeS_any (addR l (a, b)) (addR l (a, b)) _ _ _ _ _ _ w10 w10.heap.size (Nat.le_refl _) (own_rd ho610) (own_rd ho310) (by omega) (by omega) rfl rfl).mono ?_
    rintro e w11 ⟨rfl, hb11⟩
    have h011 := below_next h010 h010.size hb11
    have ho611 := own_step ho610 hb11
    have ho311 := own_step ho310 hb11
    have hz10 : w.heap.size < w10.heap.size := Nat.lt_of_lt_of_le hz06 (Nat.le_trans hb7.size (Nat.le_trans hb8.size (Nat.le_trans hb9.size hg10'.size)))
    have v12 := (hb11.cell (p := ⟨w.heap.size, 0, none⟩) hz10).trans v10
    have v13 := (hb11.cell (p := ⟨w.heap.size, 1, none⟩) hz10).trans v11
    clear v10 v11
    go_wp2_with fail
    refine (markRangeS_any 1 ho611 (by omega) (by omega) (by omega)).mono ?_
    rintro e w12 ⟨rfl, ho612, hg12⟩
    have hA6 : ∀ k, (Value.slice A6 (addR l (a, b)).length cc6).ownBlock = some k → w5.heap.size ≤ k := fun k hk => (ho6.lt k hk).1
    have h012 := below_only h011 hg12 h011.size (fun k hk => by have := hA6 k hk; omega)
    have ho312 := own_other ho311 hg12 (fun k hk e => by have := hA6 k hk; have := (ho3.lt _ e).2; omega)
    have v14 := hg12.cell v12 (fun e => by have := hA6 _ e.symm; simp only at this; omega)
    have v15 := hg12.cell v13 (fun e => by have := hA6 _ e.symm; simp only at this; omega)
    clear v12 v13
    have hz12 : w.heap.size < w12.heap.size := Nat.lt_of_lt_of_le hz10 (Nat.le_trans hb11.size hg12.size)
    go_wp2_with fail
    refine (heldRangeS_any 1 (own_rd ho612) (by omega) (by omega) (by omega)).mono ?_
    rintro e w' ⟨rfl, rfl⟩
    go_wp2_with fail
    go_region_held3 (fun w' => w'.cell? ⟨w.heap.size, 0, none⟩ = some (.int .i64 a) ∧ w'.cell? ⟨w.heap.size, 1, none⟩ = some (.int .i64 b))
      (first | go_keep | exact ⟨s0, s1⟩ | exact ⟨u0, u1⟩ | exact ⟨x0, x1⟩)
      (first
        | (go_at_call 15; refine (toRangeS_any (B := w.heap.size) h012.drew.size (hr.below h012.drew (Nat.le_refl _)) (by omega) HL).mono ?_; rintro e w13 ⟨rfl, hb13, ho13⟩; have s0 := (hb13.cell (p := ⟨w.heap.size, 0, none⟩) hz12).trans v14; have s1 := (hb13.cell (p := ⟨w.heap.size, 1, none⟩) hz12).trans v15; have h013 := below_next h012.drew h012.drew.size hb13)
        | (go_at_call 31; refine (toRange_any a b _).mono ?_; rintro e w14 ⟨rfl, hb14⟩; have u0 := (hb14.cell (p := ⟨w.heap.size, 0, none⟩) (Nat.lt_of_lt_of_le hz12 hb13.size)).trans s0; have u1 := (hb14.cell (p := ⟨w.heap.size, 1, none⟩) (Nat.lt_of_lt_of_le hz12 hb13.size)).trans s1; have ho1314 := own_step ho13 hb14; have h014 := below_next h013 h013.size hb14)
        | (go_at_call 37; refine (iAdd (B := w14.heap.size) (Nat.le_refl _) (own_rd ho1314) hn HL a b).mono ?_; rintro e w15 ⟨A15, cc15, rfl, hb15, ho15⟩; have x0 := (hb15.cell (p := ⟨w.heap.size, 0, none⟩) (Nat.lt_of_lt_of_le hz12 (Nat.le_trans hb13.size hb14.size))).trans u0; have x1 := (hb15.cell (p := ⟨w.heap.size, 1, none⟩) (Nat.lt_of_lt_of_le hz12 (Nat.le_trans hb13.size hb14.size))).trans u1; have h015 := below_next h014 h014.size hb15))
    clear s0 s1 u0 u1 x0 x1 v14 v15
    have hd12 : Below w12.heap.size w12 w12.drew := (Below.refl _ _).drew
    have ho315 := own_step (own_step (own_step (own_step ho312 hd12) hb13) hb14) hb15
    have ho615 := own_step (own_step (own_step (own_step ho612 hd12) hb13) hb14) hb15
    go_wp2_with fail
    refine (eqRangeS_any (addR l (a, b)) (addR l (a, b)) _ _ _ _ _ _ w15 w15.heap.size (Nat.le_refl _) (own_rd ho15) (own_rd ho315) (by omega) (by omega) rfl rfl).mono ?_
    rintro e w16 ⟨rfl, hb16⟩
    have h016 := below_next h015 h015.size hb16
    have ho616 := own_step ho615 hb16
    go_wp2_with fail
    refine (heldRangeS_any 1 (own_rd ho616) (by omega) (by omega) (by omega)).mono ?_
    rintro e w' ⟨rfl, rfl⟩
    go_wp2
    go_ret
    exact ⟨rfl, h016⟩
  · have hsz : (if n ≤ 1048576 then 1048576 - (n : Int) else -1) = -1 := if_neg hn
    go_enter Try.func11, Try.ntmps11
    go_wp2_with fail
    generalize w.alloc (.cells #[.int .i64 a, .int .i64 b] 36) = W at hb0 c0 c1 hsz0 ⊢
    refine (szRangeS_any hm).mono ?_
    rintro e w' ⟨rfl, rfl⟩
    go_wp2
    go_ret
    exact ⟨rfl, hb0⟩
set_option maxHeartbeats 4000000 in
theorem walk_FnExactRemoveRange (A : Option Addr) (c n : Nat) (l : List R) (w : World) (hr : Rd w w.heap.size A (encR l)) (hm : n ≤ 9223372036854775807) (HL : Hid (l.length = n)) (a b : Int) :
    Calls Try.prog 9 #[.slice A n c, .agg #[.int .i64 a, .int .i64 b]] w fun e w' => e = .returned (.bool true) ∧ Below w.heap.size w w' := by
  have hb0 := box_two w (.int .i64 a) (.int .i64 b) 36
  have hc := cell_new2 w (.int .i64 a) (.int .i64 b) 36
  have c0 := hc.1
  have c1 := hc.2
  clear hc
  have hsz0 : w.heap.size < (w.alloc (.cells #[.int .i64 a, .int .i64 b] 36)).heap.size := by simp
  by_cases hn : n ≤ 1048576
  · have hsz : (if n ≤ 1048576 then 1048576 - (n : Int) else -1) = 1048576 - (n : Int) := if_pos hn
    have hself := eqRs_self l
    have hself2 := eqRs_self (remR l (a, b))
    have hll : (remR l (a, b)).length ≤ 2097153 := by have := remR_len l (a, b); rw [HL.out] at this; omega
    go_enter Try.func9, Try.ntmps9
    go_wp2_with fail
    generalize w.alloc (.cells #[.int .i64 a, .int .i64 b] 36) = W at hb0 c0 c1 hsz0 ⊢
    refine (szRangeS_any hm).mono ?_
    rintro e w' ⟨rfl, rfl⟩
    go_wp2_with fail
    go_region_held3 (fun w' => w'.cell? ⟨w.heap.size, 0, none⟩ = some (.int .i64 a) ∧ w'.cell? ⟨w.heap.size, 1, none⟩ = some (.int .i64 b))
      (first | go_keep | exact ⟨s0, s1⟩ | exact ⟨u0, u1⟩ | exact ⟨v0, v1⟩)
      (first
        | (go_at_call 15; refine (toRangeS_any (B := w.heap.size) hb0.drew.size (hr.below hb0.drew (Nat.le_refl _)) (by omega) HL).mono ?_; rintro e w1 ⟨rfl, hb1, ho1⟩; have s0 := (hb1.cell (p := ⟨w.heap.size, 0, none⟩) hsz0).trans c0; have s1 := (hb1.cell (p := ⟨w.heap.size, 1, none⟩) hsz0).trans c1; have h01 := below_next hb0.drew hb0.drew.size hb1)
        | (go_at_call 31; refine (toRange_any a b _).mono ?_; rintro e w2 ⟨rfl, hb2⟩; have u0 := (hb2.cell (p := ⟨w.heap.size, 0, none⟩) (Nat.lt_of_lt_of_le hsz0 hb1.size)).trans s0; have u1 := (hb2.cell (p := ⟨w.heap.size, 1, none⟩) (Nat.lt_of_lt_of_le hsz0 hb1.size)).trans s1; have ho12 := own_step ho1 hb2; have h02 := below_next h01 h01.size hb2)
        | (go_at_call 30; refine (sRem (B := w2.heap.size) (Nat.le_refl _) (own_rd ho12) hn HL a b).mono ?_; rintro e w3 ⟨A3, cc3, rfl, hb3, ho3⟩; have v0 := (hb3.cell (p := ⟨w.heap.size, 0, none⟩) (Nat.lt_of_lt_of_le hsz0 (Nat.le_trans hb1.size hb2.size))).trans u0; have v1 := (hb3.cell (p := ⟨w.heap.size, 1, none⟩) (Nat.lt_of_lt_of_le hsz0 (Nat.le_trans hb1.size hb2.size))).trans u1; have h03 := below_next h02 h02.size hb3))
    clear c0 c1 s0 s1 u0 u1
    have hz03 : w.heap.size < w3.heap.size := Nat.lt_of_lt_of_le hsz0 (Nat.le_trans hb1.size (Nat.le_trans hb2.size hb3.size))
    go_wp2_with fail
    refine (toRangeS_any (B := w.heap.size) h03.size (hr.below h03 (Nat.le_refl _)) (by omega) HL).mono ?_
    rintro e w4 ⟨rfl, hb4, ho4⟩
    have h04 := below_next h03 h03.size hb4
    have hz34 : w3.heap.size < w4.heap.size := (ho4.lt _ rfl).2
    have v2 := (hb4.cell (p := ⟨w.heap.size, 0, none⟩) hz03).trans v0
    have v3 := (hb4.cell (p := ⟨w.heap.size, 1, none⟩) hz03).trans v1
    clear v0 v1
    go_wp2_with fail
    refine (toRange_any a b _).mono ?_
    rintro e w5 ⟨rfl, hb5⟩
    have h05 := below_next h04 h04.size hb5
    have ho45 := own_step ho4 hb5
    have v4 := (hb5.cell (p := ⟨w.heap.size, 0, none⟩) (Nat.lt_trans hz03 hz34)).trans v2
    have v5 := (hb5.cell (p := ⟨w.heap.size, 1, none⟩) (Nat.lt_trans hz03 hz34)).trans v3
    clear v2 v3
    go_wp2_with fail
    refine (iRem (B := w5.heap.size) (Nat.le_refl _) (own_rd ho45) hn HL a b).mono ?_
    rintro e w6 ⟨A6, cc6, rfl, hb6, ho6⟩
    have h06 := below_next h05 h05.size hb6
    have hz05 : w.heap.size < w5.heap.size := Nat.lt_of_lt_of_le (Nat.lt_trans hz03 hz34) hb5.size
    have hz35 : w3.heap.size < w5.heap.size := Nat.lt_of_lt_of_le hz34 hb5.size
    have v6 := (hb6.cell (p := ⟨w.heap.size, 0, none⟩) hz05).trans v4
    have v7 := (hb6.cell (p := ⟨w.heap.size, 1, none⟩) hz05).trans v5
    clear v4 v5
    have hz06 : w.heap.size < w6.heap.size := Nat.lt_of_lt_of_le hz05 hb6.size
    have ho36 := own_step (own_step (own_step ho3 hb4) hb5) hb6
    have ho46 := own_step ho45 hb6
    go_wp2_with fail
    refine (eqRangeS_any (remR l (a, b)) (remR l (a, b)) _ _ _ _ _ _ w6 w6.heap.size (Nat.le_refl _) (own_rd ho6) (own_rd ho36) (by omega) (by omega) rfl rfl).mono ?_
    rintro e w7 ⟨rfl, hb7⟩
    have h07 := below_next h06 h06.size hb7
    go_wp2_with fail
    refine (toRangeS_any (B := w.heap.size) h07.size (hr.below h07 (Nat.le_refl _)) (by omega) HL).mono ?_
    rintro e w8 ⟨rfl, hb8, ho8⟩
    have h08 := below_next h07 h07.size hb8
    have ho48 := own_step (own_step ho46 hb7) hb8
    go_wp2_with fail
    refine (eqRangeS_any l l n n _ _ _ _ w8 w8.heap.size (Nat.le_refl _) (own_rd ho48) (own_rd ho8) (by omega) (by omega) HL.out HL.out).mono ?_
    rintro e w9 ⟨rfl, hb9⟩
    have h09 := below_next h08 h08.size hb9
    have ho49 := own_step ho48 hb9
    have ho39 := own_step (own_step (own_step ho36 hb7) hb8) hb9
    have ho69 := own_step (own_step (own_step ho6 hb7) hb8) hb9
    have v8 := (hb9.cell (p := ⟨w.heap.size, 0, none⟩) (Nat.lt_of_lt_of_le hz06 (Nat.le_trans hb7.size hb8.size))).trans ((hb8.cell (p := ⟨w.heap.size, 0, none⟩) (Nat.lt_of_lt_of_le hz06 hb7.size)).trans ((hb7.cell (p := ⟨w.heap.size, 0, none⟩) hz06).trans v6))
    have v9 := (hb9.cell (p := ⟨w.heap.size, 1, none⟩) (Nat.lt_of_lt_of_le hz06 (Nat.le_trans hb7.size hb8.size))).trans ((hb8.cell (p := ⟨w.heap.size, 1, none⟩) (Nat.lt_of_lt_of_le hz06 hb7.size)).trans ((hb7.cell (p := ⟨w.heap.size, 1, none⟩) hz06).trans v7))
    clear v6 v7
    go_wp2_with fail
    refine (markRangeS_any 1 ho49 (by omega) (by omega) (by omega)).mono ?_
    rintro e w10 ⟨rfl, ho410, hg10⟩
    have hg10' : w9.grownBy w10 (some w3.heap.size) := hg10
    have h010 := below_only h09 hg10' h09.size (fun k hk => by injection hk; omega)
    have ho610 := own_far ho69 hg10' (fun k hk => by injection hk; omega)
    have ho310 := own_other ho39 hg10' (fun k hk e => by injection hk; have := (ho3.lt _ e).2; omega)
    have v10 := hg10'.cell v8 (fun e => by injection e with e; have e' : w.heap.size = w3.heap.size := e; omega)
    have v11 := hg10'.cell v9 (fun e => by injection e with e; have e' : w.heap.size = w3.heap.size := e; omega)
    clear v8 v9 hg10
    go_wp2_with fail
    refine (eqRangeS_any (remR l (a, b)) (remR l (a, b)) _ _ _ _ _ _ w10 w10.heap.size (Nat.le_refl _) (own_rd ho610) (own_rd ho310) (by omega) (by omega) rfl rfl).mono ?_
    rintro e w11 ⟨rfl, hb11⟩
    have h011 := below_next h010 h010.size hb11
    have ho611 := own_step ho610 hb11
    have ho311 := own_step ho310 hb11
    have hz10 : w.heap.size < w10.heap.size := Nat.lt_of_lt_of_le hz06 (Nat.le_trans hb7.size (Nat.le_trans hb8.size (Nat.le_trans hb9.size hg10'.size)))
    have v12 := (hb11.cell (p := ⟨w.heap.size, 0, none⟩) hz10).trans v10
    have v13 := (hb11.cell (p := ⟨w.heap.size, 1, none⟩) hz10).trans v11
    clear v10 v11
    go_wp2_with fail
    refine (markRangeS_any 1 ho611 (by omega) (by omega) (by omega)).mono ?_
    rintro e w12 ⟨rfl, ho612, hg12⟩
    have hA6 : ∀ k, (Value.slice A6 (remR l (a, b)).length cc6).ownBlock = some k → w5.heap.size ≤ k := fun k hk => (ho6.lt k hk).1
    have h012 := below_only h011 hg12 h011.size (fun k hk => by have := hA6 k hk; omega)
    have ho312 := own_other ho311 hg12 (fun k hk e => by have := hA6 k hk; have := (ho3.lt _ e).2; omega)
    have v14 := hg12.cell v12 (fun e => by have := hA6 _ e.symm; simp only at this; omega)
    have v15 := hg12.cell v13 (fun e => by have := hA6 _ e.symm; simp only at this; omega)
    clear v12 v13
    have hz12 : w.heap.size < w12.heap.size := Nat.lt_of_lt_of_le hz10 (Nat.le_trans hb11.size hg12.size)
    go_wp2_with fail
    refine (heldRangeS_any 1 (own_rd ho612) (by omega) (by omega) (by omega)).mono ?_
    rintro e w' ⟨rfl, rfl⟩
    go_wp2_with fail
    go_region_held3 (fun w' => w'.cell? ⟨w.heap.size, 0, none⟩ = some (.int .i64 a) ∧ w'.cell? ⟨w.heap.size, 1, none⟩ = some (.int .i64 b))
      (first | go_keep | exact ⟨s0, s1⟩ | exact ⟨u0, u1⟩ | exact ⟨x0, x1⟩)
      (first
        | (go_at_call 15; refine (toRangeS_any (B := w.heap.size) h012.drew.size (hr.below h012.drew (Nat.le_refl _)) (by omega) HL).mono ?_; rintro e w13 ⟨rfl, hb13, ho13⟩; have s0 := (hb13.cell (p := ⟨w.heap.size, 0, none⟩) hz12).trans v14; have s1 := (hb13.cell (p := ⟨w.heap.size, 1, none⟩) hz12).trans v15; have h013 := below_next h012.drew h012.drew.size hb13)
        | (go_at_call 31; refine (toRange_any a b _).mono ?_; rintro e w14 ⟨rfl, hb14⟩; have u0 := (hb14.cell (p := ⟨w.heap.size, 0, none⟩) (Nat.lt_of_lt_of_le hz12 hb13.size)).trans s0; have u1 := (hb14.cell (p := ⟨w.heap.size, 1, none⟩) (Nat.lt_of_lt_of_le hz12 hb13.size)).trans s1; have ho1314 := own_step ho13 hb14; have h014 := below_next h013 h013.size hb14)
        | (go_at_call 32; refine (iRem (B := w14.heap.size) (Nat.le_refl _) (own_rd ho1314) hn HL a b).mono ?_; rintro e w15 ⟨A15, cc15, rfl, hb15, ho15⟩; have x0 := (hb15.cell (p := ⟨w.heap.size, 0, none⟩) (Nat.lt_of_lt_of_le hz12 (Nat.le_trans hb13.size hb14.size))).trans u0; have x1 := (hb15.cell (p := ⟨w.heap.size, 1, none⟩) (Nat.lt_of_lt_of_le hz12 (Nat.le_trans hb13.size hb14.size))).trans u1; have h015 := below_next h014 h014.size hb15))
    clear s0 s1 u0 u1 x0 x1 v14 v15
    have hd12 : Below w12.heap.size w12 w12.drew := (Below.refl _ _).drew
    have ho315 := own_step (own_step (own_step (own_step ho312 hd12) hb13) hb14) hb15
    have ho615 := own_step (own_step (own_step (own_step ho612 hd12) hb13) hb14) hb15
    go_wp2_with fail
    refine (eqRangeS_any (remR l (a, b)) (remR l (a, b)) _ _ _ _ _ _ w15 w15.heap.size (Nat.le_refl _) (own_rd ho15) (own_rd ho315) (by omega) (by omega) rfl rfl).mono ?_
    rintro e w16 ⟨rfl, hb16⟩
    have h016 := below_next h015 h015.size hb16
    have ho616 := own_step ho615 hb16
    go_wp2_with fail
    refine (heldRangeS_any 1 (own_rd ho616) (by omega) (by omega) (by omega)).mono ?_
    rintro e w' ⟨rfl, rfl⟩
    go_wp2
    go_ret
    exact ⟨rfl, h016⟩
  · have hsz : (if n ≤ 1048576 then 1048576 - (n : Int) else -1) = -1 := if_neg hn
    go_enter Try.func9, Try.ntmps9
    go_wp2_with fail
    generalize w.alloc (.cells #[.int .i64 a, .int .i64 b] 36) = W at hb0 c0 c1 hsz0 ⊢
    refine (szRangeS_any hm).mono ?_
    rintro e w' ⟨rfl, rfl⟩
    go_wp2
    go_ret
    exact ⟨rfl, hb0⟩
end Go.Proofs.Ytoeegpgbgepgkaa
