/- The walk of the law on CommonRanges. No conditions. -/
import Derived.Test.YtaackmiodkpnoaaRngG
import Derived.Test.YtaackmiodkpnoaaRngL2
namespace Go.Proofs.Ytaackmiodkpnoaa
open Go.ChangeShapes Go.WideShapes Go.ChangeAt Go.RowKit Go.Sort RM
set_option linter.unusedVariables false
theorem own_far {w w' : World} {base : Nat} {e : TypeId} {size n : Nat} {v : Value} {xs : List Value} {row : Option Nat} (h : w.ownsRow base e size v n xs) (hg : w.grownBy w' row) (hr : ∀ k, row = some k → k < base) : w'.ownsRow base e size v n xs :=
  h.kept hg (by
    cases hv : v.ownBlock with
    | none => exact .inl rfl
    | some g => exact .inr (fun e => by have := hr g e.symm; have := (h.lt g hv).1; omega))
theorem own_other {w w' : World} {base : Nat} {e : TypeId} {size n : Nat} {v : Value} {xs : List Value} {row : Option Nat} (h : w.ownsRow base e size v n xs) (hg : w.grownBy w' row) (hr : ∀ k, row = some k → v.ownBlock ≠ some k) : w'.ownsRow base e size v n xs :=
  h.kept hg (by
    cases hv : v.ownBlock with
    | none => exact .inl rfl
    | some g => exact .inr (fun e => hr g e.symm hv))
theorem below_only {a w w' : World} {B : Nat} {row : Option Nat} (h : Below B a w) (hg : w.grownBy w' row) (hB : B ≤ w.heap.size) (hr : ∀ k, row = some k → B ≤ k) : Below B a w' := h.grown hg hB hr
theorem comR_len2 {a b : List R} {n n' : Nat} (ha : a.length = n) (hb : b.length = n') (hn : n ≤ 1048576) (hn' : n' ≤ 1048576) : (comR a b).length ≤ 1099511627776 := by
  unfold comR
  split
  · have h := comAll_len a b
    have h2 : a.length * b.length ≤ 1048576 * 1048576 := Nat.mul_le_mul (by omega) (by omega)
    omega
  · simp
set_option maxRecDepth 20000 in
set_option maxHeartbeats 4000000 in
theorem walk_FnExactCommonRanges (A : Option Addr) (c n : Nat) (a : List R) (A' : Option Addr) (c' n' : Nat) (b : List R) (w : World) (hr : Rd w w.heap.size A (encR a)) (hm : n ≤ 9223372036854775807) (HA : Hid (a.length = n)) (hs : Rd w w.heap.size A' (encR b)) (hm' : n' ≤ 9223372036854775807) (HB : Hid (b.length = n')) :
    Calls Try.prog 3 #[.slice A n c, .slice A' n' c'] w fun e w' => e = .returned (.bool true) ∧ Below w.heap.size w w' := by
  by_cases hn : n ≤ 1048576
  · have hsz : (if n ≤ 1048576 then 1048576 - (n : Int) else -1) = 1048576 - (n : Int) := if_pos hn
    by_cases hn' : (n' : Int) ≤ 1048576 - (n : Int)
    · have hsz' : (if (n' : Int) ≤ 1048576 - (n : Int) then 1048576 - (n : Int) - (n' : Int) else -1) = 1048576 - (n : Int) - (n' : Int) := if_pos hn'
      have hselfa := eqRs_self a
      have hselfb := eqRs_self b
      have hself2 := eqRs_self (comR a b)
      have hll := comR_len2 HA.out HB.out hn (by omega)
      have hd1 : decide (1048576 - (n : Int) < 0) = false := by simp; omega
      have hd2 : decide (1048576 - (n : Int) - (n' : Int) < 0) = false := by simp; omega
      go_enter Try.func3, Try.ntmps3
      go_wp2_with fail
      refine (szRangeS_any hm).mono ?_
      rintro e w' ⟨rfl, rfl⟩
      rw [hsz]
      go_wp2_with fail
      refine (szRangeS_more _ (by omega) (by omega) hm').mono ?_
      rintro e w' ⟨rfl, rfl⟩
      rw [hsz']
      go_wp2_with fail
      refine (toRangeS_any (B := w.heap.size) (Nat.le_refl _) hr (by omega) HA).mono ?_
      rintro e w1 ⟨rfl, hb1, ho1⟩
      have h01 := hb1
      go_wp2_with fail
      refine (toRangeS_any (B := w.heap.size) h01.size (hs.below h01 (Nat.le_refl _)) (by omega) HB).mono ?_
      rintro e w2 ⟨rfl, hb2, ho2⟩
      have h02 := below_next h01 h01.size hb2
      have ra2 := own_step ho1 hb2
      go_wp2_with fail
      refine (sCom (B := w2.heap.size) (Nat.le_refl _) (own_rd ra2) (own_rd ho2) (by omega) (by omega) HA HB).mono ?_
      rintro e w3 ⟨A3, cc3, rfl, hb3, ho3⟩
      have h03 := below_next h02 h02.size hb3
      have ra3 := own_step ra2 hb3
      have rb3 := own_step ho2 hb3
      go_wp2_with fail
      refine (toRangeS_any (B := w.heap.size) h03.size (hr.below h03 (Nat.le_refl _)) (by omega) HA).mono ?_
      rintro e w4 ⟨rfl, hb4, ho4⟩
      have h04 := below_next h03 h03.size hb4
      have rL4 := own_step ho3 hb4
      have z12 : w.heap.size ≤ w3.heap.size := h03.size
      have hz34 : w3.heap.size < w4.heap.size := (ho4.lt _ rfl).2
      go_wp2_with fail
      refine (toRangeS_any (B := w.heap.size) h04.size (hs.below h04 (Nat.le_refl _)) (by omega) HB).mono ?_
      rintro e w5 ⟨rfl, hb5, ho5⟩
      have h05 := below_next h04 h04.size hb5
      have rL5 := own_step rL4 hb5
      have rX5 := own_step ho4 hb5
      have hz45 : w4.heap.size < w5.heap.size := (ho5.lt _ rfl).2
      go_wp2_with fail
      refine (iCom (B := w5.heap.size) (Nat.le_refl _) (own_rd rX5) (own_rd ho5) (by omega) (by omega) HA HB).mono ?_
      rintro e w6 ⟨A6, cc6, rfl, hb6, ho6⟩
      have h06 := below_next h05 h05.size hb6
      have rL6 := own_step rL5 hb6
      have rX6 := own_step rX5 hb6
      have rY6 := own_step ho5 hb6
      go_wp2_with fail
      refine (eqRangeS_any (comR a b) (comR a b) _ _ _ _ _ _ w6 w6.heap.size (Nat.le_refl _) (own_rd ho6) (own_rd rL6) (by omega) (by omega) rfl rfl).mono ?_
      rintro e w7 ⟨rfl, hb7⟩
      have h07 := below_next h06 h06.size hb7
      have rL7 := own_step rL6 hb7
      have rX7 := own_step rX6 hb7
      have rY7 := own_step rY6 hb7
      have rG7 := own_step ho6 hb7
      go_wp2_with fail
      refine (toRangeS_any (B := w.heap.size) h07.size (hr.below h07 (Nat.le_refl _)) (by omega) HA).mono ?_
      rintro e w8 ⟨rfl, hb8, ho8⟩
      have h08 := below_next h07 h07.size hb8
      have rL8 := own_step rL7 hb8
      have rX8 := own_step rX7 hb8
      have rY8 := own_step rY7 hb8
      have rG8 := own_step rG7 hb8
      go_wp2_with fail
      refine (eqRangeS_any a a n n _ _ _ _ w8 w8.heap.size (Nat.le_refl _) (own_rd rX8) (own_rd ho8) (by omega) (by omega) HA.out HA.out).mono ?_
      rintro e w9 ⟨rfl, hb9⟩
      have h09 := below_next h08 h08.size hb9
      have rL9 := own_step rL8 hb9
      have rX9 := own_step rX8 hb9
      have rY9 := own_step rY8 hb9
      have rG9 := own_step rG8 hb9
      have rT9 := own_step ho8 hb9
      go_wp2_with fail
      refine (toRangeS_any (B := w.heap.size) h09.size (hs.below h09 (Nat.le_refl _)) (by omega) HB).mono ?_
      rintro e w10 ⟨rfl, hb10, ho10⟩
      have h010 := below_next h09 h09.size hb10
      have rL10 := own_step rL9 hb10
      have rX10 := own_step rX9 hb10
      have rY10 := own_step rY9 hb10
      have rG10 := own_step rG9 hb10
      go_wp2_with fail
      refine (eqRangeS_any b b n' n' _ _ _ _ w10 w10.heap.size (Nat.le_refl _) (own_rd rY10) (own_rd ho10) (by omega) (by omega) HB.out HB.out).mono ?_
      rintro e w11 ⟨rfl, hb11⟩
      have h011 := below_next h010 h010.size hb11
      have rL11 := own_step rL10 hb11
      have rX11 := own_step rX10 hb11
      have rY11 := own_step rY10 hb11
      have rG11 := own_step rG10 hb11
      have rT11 := own_step ho10 hb11
      go_wp2_with fail
      refine (markRangeS_any 1 rX11 (by omega) (by omega) (by omega)).mono ?_
      rintro e w12 ⟨rfl, ho12, hg'12⟩
      have hg12 : w11.grownBy w12 (some w3.heap.size) := hg'12
      have h012 := below_only h011 hg12 h011.size (fun k hk => by injection hk; omega)
      have rL12 := own_other rL11 hg12 (fun k hk e => by injection hk; have := (ho3.lt _ e).2; omega)
      have rX12 := ho12
      have rY12 := own_other rY11 hg12 (fun k hk e => by injection hk; have e2 : some w4.heap.size = some k := e; injection e2; omega)
      have rG12 := own_far rG11 hg12 (fun k hk => by injection hk; omega)
      go_wp2_with fail
      refine (markRangeS_any (1 + 2 * (n : Int)) rY12 (by omega) (by omega) (by omega)).mono ?_
      rintro e w13 ⟨rfl, ho13, hg'13⟩
      have hg13 : w12.grownBy w13 (some w4.heap.size) := hg'13
      have h013 := below_only h012 hg13 h012.size (fun k hk => by injection hk; omega)
      have rL13 := own_other rL12 hg13 (fun k hk e => by injection hk; have := (ho3.lt _ e).2; omega)
      have rY13 := ho13
      have rG13 := own_far rG12 hg13 (fun k hk => by injection hk; omega)
      go_wp2_with fail
      refine (eqRangeS_any (comR a b) (comR a b) _ _ _ _ _ _ w13 w13.heap.size (Nat.le_refl _) (own_rd rG13) (own_rd rL13) (by omega) (by omega) rfl rfl).mono ?_
      rintro e w14 ⟨rfl, hb14⟩
      have h014 := below_next h013 h013.size hb14
      have rL14 := own_step rL13 hb14
      have rG14 := own_step rG13 hb14
      have hA6 : ∀ k, (Value.slice A6 (comR a b).length cc6).ownBlock = some k → w5.heap.size ≤ k := fun k hk => (ho6.lt k hk).1
      go_wp2_with fail
      refine (markRangeS_any 1 rG14 (by omega) (by omega) (by omega)).mono ?_
      rintro e w15 ⟨rfl, ho15, hg15⟩
      have h015 := below_only h014 hg15 h014.size (fun k hk => by have := hA6 k hk; omega)
      have rL15 := own_other rL14 hg15 (fun k hk e => by have := hA6 k hk; have := (ho3.lt _ e).2; omega)
      have rG15 := ho15
      go_wp2_with fail
      refine (heldRangeS_any 1 (own_rd rG15) (by omega) (by omega) (by omega)).mono ?_
      rintro e w' ⟨rfl, rfl⟩
      go_wp2_with fail
      refine (toRangeS_any (B := w.heap.size) h015.size (hr.below h015 (Nat.le_refl _)) (by omega) HA).mono ?_
      rintro e w16 ⟨rfl, hb16, ho16⟩
      have h016 := below_next h015 h015.size hb16
      have rL16 := own_step rL15 hb16
      have rG16 := own_step rG15 hb16
      go_wp2_with fail
      refine (toRangeS_any (B := w.heap.size) h016.size (hs.below h016 (Nat.le_refl _)) (by omega) HB).mono ?_
      rintro e w17 ⟨rfl, hb17, ho17⟩
      have h017 := below_next h016 h016.size hb17
      have rL17 := own_step rL16 hb17
      have rG17 := own_step rG16 hb17
      have rX17 := own_step ho16 hb17
      go_wp2_with fail
      refine (iCom (B := w17.heap.size) (Nat.le_refl _) (own_rd rX17) (own_rd ho17) (by omega) (by omega) HA HB).mono ?_
      rintro e w18 ⟨A18, cc18, rfl, hb18, ho18⟩
      have h018 := below_next h017 h017.size hb18
      have rL18 := own_step rL17 hb18
      have rG18 := own_step rG17 hb18
      have rX18 := own_step rX17 hb18
      have rY18 := own_step ho17 hb18
      go_wp2_with fail
      refine (eqRangeS_any (comR a b) (comR a b) _ _ _ _ _ _ w18 w18.heap.size (Nat.le_refl _) (own_rd ho18) (own_rd rL18) (by omega) (by omega) rfl rfl).mono ?_
      rintro e w19 ⟨rfl, hb19⟩
      have h019 := below_next h018 h018.size hb19
      have rL19 := own_step rL18 hb19
      have rG19 := own_step rG18 hb19
      have rH19 := own_step ho18 hb19
      go_wp2_with fail
      refine (heldRangeS_any 1 (own_rd rG19) (by omega) (by omega) (by omega)).mono ?_
      rintro e w' ⟨rfl, rfl⟩
      go_wp2
      go_ret
      exact ⟨rfl, h019⟩
    · have hsz' : (if (n' : Int) ≤ 1048576 - (n : Int) then 1048576 - (n : Int) - (n' : Int) else -1) = -1 := if_neg hn'
      have hd1 : decide (1048576 - (n : Int) < 0) = false := by simp; omega
      go_enter Try.func3, Try.ntmps3
      go_wp2_with fail
      refine (szRangeS_any hm).mono ?_
      rintro e w' ⟨rfl, rfl⟩
      rw [hsz]
      go_wp2_with fail
      refine (szRangeS_more _ (by omega) (by omega) hm').mono ?_
      rintro e w' ⟨rfl, rfl⟩
      rw [hsz']
      go_wp2
      go_ret
      exact ⟨rfl, Below.refl _ _⟩
  · have hsz : (if n ≤ 1048576 then 1048576 - (n : Int) else -1) = -1 := if_neg hn
    go_enter Try.func3, Try.ntmps3
    go_wp2_with fail
    refine (szRangeS_any hm).mono ?_
    rintro e w' ⟨rfl, rfl⟩
    rw [hsz]
    go_wp2
    go_ret
    exact ⟨rfl, Below.refl _ _⟩
end Go.Proofs.Ytaackmiodkpnoaa
