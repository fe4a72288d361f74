/- The walk of the law on EqualRanges. No conditions. -/
import Derived.Test.YtoeegpgbgepgkaaRngL1
namespace Go.Proofs.Ytoeegpgbgepgkaa
open Go.ChangeShapes Go.WideShapes Go.ChangeAt Go.RowKit Go.Sort RM
set_option linter.unusedVariables false
theorem szRangeS_more {A : Option Addr} {c n : Nat} {w : World} (m : Int) (hm0 : 0 ≤ m) (hm1 : m ≤ 1048576) (hm : n ≤ 9223372036854775807) : Calls Try.prog 13 #[.slice A n c, .int .i64 m] w fun e w' => e = .returned (.int .i64 (if (n : Int) ≤ m then m - (n : Int) else -1)) ∧ w = w' := by
  by_cases h : (n : Int) ≤ m
  · go_enter Try.func13, Try.ntmps13
    go_wp2
    go_ret
    exact ⟨rfl, rfl⟩
  · go_enter Try.func13, Try.ntmps13
    go_wp2
    go_ret
    exact ⟨rfl, rfl⟩
theorem iEq {A A' : Option Addr} {c c' n n' : Nat} {w : World} {B : Nat} {l m : List R} (hB : B ≤ w.heap.size) (hr : Rd w B A (encR l)) (hs : Rd w B A' (encR m)) (hm : n ≤ 9223372036854775807) (hm' : n' ≤ 9223372036854775807) (HL : Hid (l.length = n)) (HM : Hid (m.length = n')) :
    Calls Try.prog 21 #[.slice A n c, .slice A' n' c'] w fun e w' => e = .returned (.bool (eqRs l m)) ∧ Below w.heap.size w w' := by
  go_enter Try.func21, Try.ntmps21
  go_wp2_with fail
  refine (iEq0 hB hr hs hm hm' HL HM).mono ?_
  rintro e w' ⟨rfl, hb⟩
  go_wp2
  go_ret
  exact ⟨rfl, hb⟩
theorem walk_FnExactEqualRanges (A : Option Addr) (c n : Nat) (l : List R) (A' : Option Addr) (c' n' : Nat) (l' : List R) (w : World) (hr : Rd w w.heap.size A (encR l)) (hm : n ≤ 9223372036854775807) (HL : Hid (l.length = n)) (hr' : Rd w w.heap.size A' (encR l')) (hm' : n' ≤ 9223372036854775807) (HL' : Hid (l'.length = n')) :
    Calls Try.prog 5 #[.slice A n c, .slice A' n' c'] w fun e w' => e = .returned (.bool true) ∧ Below w.heap.size w w' := by
  by_cases hn : n ≤ 1048576
  · have hsz : (if n ≤ 1048576 then 1048576 - (n : Int) else -1) = 1048576 - (n : Int) := if_pos hn
    by_cases hn' : (n' : Int) ≤ 1048576 - (n : Int)
    · have hsz' : (if (n' : Int) ≤ 1048576 - (n : Int) then 1048576 - (n : Int) - (n' : Int) else -1) = 1048576 - (n : Int) - (n' : Int) := if_pos hn'
      have HSZ := Lib.hid hsz'; clear hsz'
      have hself := eqRs_self l
      have hself' := eqRs_self l'
      go_enter Try.func5, Try.ntmps5
      go_wp2_with fail
      refine (szRangeS_any hm).mono ?_
      rintro e w' ⟨rfl, rfl⟩
      go_wp2_with fail
      refine (szRangeS_more (1048576 - (n : Int)) (by omega) (by omega) hm').mono ?_
      rintro e w' ⟨rfl, rfl⟩
      rw [HSZ.out]
      go_wp2_with fail
      refine (toRangeS_any (B := w.heap.size) (Nat.le_refl _) hr (by omega) HL).mono ?_
      rintro e w1 ⟨rfl, hb1, ho1⟩
      go_wp2_with fail
      refine (toRangeS_any (B := w.heap.size) hb1.size (hr'.below hb1 (Nat.le_refl _)) (by omega) HL').mono ?_
      rintro e w2 ⟨rfl, hb2, ho2⟩
      have h02 := below_next hb1 hb1.size hb2
      go_wp2_with fail
      refine (sEq (B := w2.heap.size) (Nat.le_refl _) (own_rd (own_step ho1 hb2)) (own_rd ho2) (by omega) (by omega) HL HL').mono ?_
      rintro e w3 ⟨rfl, hb3⟩
      have h03 := below_next h02 h02.size hb3
      go_wp2_with fail
      refine (toRangeS_any (B := w.heap.size) h03.size (hr.below h03 (Nat.le_refl _)) (by omega) HL).mono ?_
      rintro e w4 ⟨rfl, hb4, ho4⟩
      have h04 := below_next h03 h03.size hb4
      go_wp2_with fail
      refine (toRangeS_any (B := w.heap.size) h04.size (hr'.below h04 (Nat.le_refl _)) (by omega) HL').mono ?_
      rintro e w5 ⟨rfl, hb5, ho5⟩
      have h05 := below_next h04 h04.size hb5
      have ho45 := own_step ho4 hb5
      go_wp2_with fail
      refine (iEq (B := w5.heap.size) (Nat.le_refl _) (own_rd ho45) (own_rd ho5) (by omega) (by omega) HL HL').mono ?_
      rintro e w6 ⟨rfl, hb6⟩
      have h06 := below_next h05 h05.size hb6
      have ho46 := own_step ho45 hb6
      have ho56 := own_step ho5 hb6
      go_wp2_with fail
      refine (toRangeS_any (B := w.heap.size) h06.size (hr.below h06 (Nat.le_refl _)) (by omega) HL).mono ?_
      rintro e w7 ⟨rfl, hb7, ho7⟩
      have h07 := below_next h06 h06.size hb7
      go_wp2_with fail
      refine (eqRangeS_any l l n n _ _ _ _ w7 w7.heap.size (Nat.le_refl _) (own_rd (own_step ho46 hb7)) (own_rd ho7) (by omega) (by omega) HL.out HL.out).mono ?_
      rintro e w8 ⟨rfl, hb8⟩
      have h08 := below_next h07 h07.size hb8
      have ho58 := own_step (own_step ho56 hb7) hb8
      go_wp2_with fail
      refine (toRangeS_any (B := w.heap.size) h08.size (hr'.below h08 (Nat.le_refl _)) (by omega) HL').mono ?_
      rintro e w9 ⟨rfl, hb9, ho9⟩
      have h09 := below_next h08 h08.size hb9
      go_wp2_with fail
      refine (eqRangeS_any l' l' n' n' _ _ _ _ w9 w9.heap.size (Nat.le_refl _) (own_rd (own_step ho58 hb9)) (own_rd ho9) (by omega) (by omega) HL'.out HL'.out).mono ?_
      rintro e w10 ⟨rfl, hb10⟩
      have h10 := below_next h09 h09.size hb10
      go_wp2
      go_ret
      exact ⟨rfl, h10⟩
    · have hsz' : (if (n' : Int) ≤ 1048576 - (n : Int) then 1048576 - (n : Int) - (n' : Int) else -1) = -1 := if_neg hn'
      have HSZ := Lib.hid hsz'; clear hsz'
      go_enter Try.func5, Try.ntmps5
      go_wp2_with fail
      refine (szRangeS_any hm).mono ?_
      rintro e w' ⟨rfl, rfl⟩
      go_wp2_with fail
      refine (szRangeS_more (1048576 - (n : Int)) (by omega) (by omega) hm').mono ?_
      rintro e w' ⟨rfl, rfl⟩
      rw [HSZ.out]
      go_wp2
      go_ret
      exact ⟨rfl, Below.refl _ _⟩
  · have hsz : (if n ≤ 1048576 then 1048576 - (n : Int) else -1) = -1 := if_neg hn
    go_enter Try.func5, Try.ntmps5
    go_wp2_with fail
    refine (szRangeS_any hm).mono ?_
    rintro e w' ⟨rfl, rfl⟩
    go_wp2
    go_ret
    exact ⟨rfl, Below.refl _ _⟩
end Go.Proofs.Ytoeegpgbgepgkaa
