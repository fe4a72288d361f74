/- The walks of the laws on functions that read slices of ranges. No conditions. -/
import Derived.Test.YtoeegpgbgepgkaaRng5
import Derived.Test.YtoeegpgbgepgkaaRng6
import Derived.Test.YtoeegpgbgepgkaaRng7
namespace Go.Proofs.Ytoeegpgbgepgkaa
open Go.ChangeShapes Go.WideShapes Go.ChangeAt Go.RowKit Go.Sort RM
set_option linter.unusedVariables false
theorem own_rd {w : World} {base : Nat} {e : TypeId} {size n c : Nat} {A : Option Addr} {xs : List Value} (h : w.ownsRow base e size (.slice A n c) n xs) : Rd w w.heap.size A xs := by
  obtain ⟨A', c', hv, _, hr⟩ := Rd.of_own h
  injection hv with e1 e2 e3
  rw [e1]; exact hr
theorem gb_of_below {w w' : World} (h : Below w.heap.size w w') (row : Option Nat) : w.grownBy w' row := ⟨h.os, h.tape, h.output, h.size, fun k hk _ => h.block k hk⟩
theorem own_step {w w' : World} {base : Nat} {e : TypeId} {size n : Nat} {v : Value} {xs : List Value} (h : w.ownsRow base e size v n xs) (hb : Below w.heap.size w w') : w'.ownsRow base e size v n xs :=
  h.kept (gb_of_below hb none) (by cases hv : v.ownBlock <;> simp)
theorem walk_FnExactIsRanges (A : Option Addr) (c n : Nat) (l : List R) (w : World) (hr : Rd w w.heap.size A (encR l)) (hm : n ≤ 9223372036854775807) (HL : Hid (l.length = n)) :
    Calls Try.prog 3 #[.slice A n c] w fun e w' => e = .returned (.bool true) ∧ Below w.heap.size w w' := by
  by_cases hn : n ≤ 1048576
  · have hsz : (if n ≤ 1048576 then 1048576 - (n : Int) else -1) = 1048576 - (n : Int) := if_pos hn
    have hself := eqRs_self l
    go_enter Try.func3, Try.ntmps3
    go_wp2_with (go_at_call 13; refine (szRangeS_any hm).mono ?_; rintro e w' ⟨rfl, rfl⟩)
    refine (toRangeS_any (B := w.heap.size) (Nat.le_refl _) hr (by omega) HL).mono ?_
    rintro e w1 ⟨rfl, hb1, ho1⟩
    go_wp2_with fail
    refine (sIs (B := w1.heap.size) (Nat.le_refl _) (own_rd ho1) (by omega) HL).mono ?_
    rintro e w2 ⟨rfl, hb2⟩
    have h02 := below_next hb1 hb1.size hb2
    go_wp2_with fail
    refine (toRangeS_any (B := w.heap.size) h02.size (hr.below h02 (Nat.le_refl _)) (by omega) HL).mono ?_
    rintro e w3 ⟨rfl, hb3, ho3⟩
    have h03 := below_next h02 h02.size hb3
    go_wp2_with fail
    refine (iIs (B := w3.heap.size) (Nat.le_refl _) (own_rd ho3) (by omega) HL).mono ?_
    rintro e w4 ⟨rfl, hb4⟩
    have h04 := below_next h03 h03.size hb4
    go_wp2_with fail
    refine (toRangeS_any (B := w.heap.size) h04.size (hr.below h04 (Nat.le_refl _)) (by omega) HL).mono ?_
    rintro e w5 ⟨rfl, hb5, ho5⟩
    have h05 := below_next h04 h04.size hb5
    go_wp2_with fail
    refine (eqRangeS_any l l n n _ _ _ _ w5 w5.heap.size (Nat.le_refl _) (own_rd (own_step (own_step ho3 hb4) hb5)) (own_rd ho5) (by omega) (by omega) HL.out HL.out).mono ?_
    rintro e w6 ⟨rfl, hb6⟩
    have h06 := below_next h05 h05.size hb6
    go_wp2
    go_ret
    exact ⟨rfl, h06⟩
  · have hsz : (if n ≤ 1048576 then 1048576 - (n : Int) else -1) = -1 := if_neg hn
    go_enter Try.func3, Try.ntmps3
    go_wp2_with (go_at_call 13; refine (szRangeS_any hm).mono ?_; rintro e w' ⟨rfl, rfl⟩)
    go_ret
    exact ⟨rfl, Below.refl _ _⟩
theorem walk_FnExactCountNumbers (A : Option Addr) (c n : Nat) (l : List R) (w : World) (hr : Rd w w.heap.size A (encR l)) (hm : n ≤ 9223372036854775807) (HL : Hid (l.length = n)) :
    Calls Try.prog 6 #[.slice A n c] w fun e w' => e = .returned (.bool true) ∧ Below w.heap.size w w' := by
  by_cases hn : n ≤ 1048576
  · have hsz : (if n ≤ 1048576 then 1048576 - (n : Int) else -1) = 1048576 - (n : Int) := if_pos hn
    have hself := eqRs_self l
    go_enter Try.func6, Try.ntmps6
    go_wp2_with (go_at_call 13; refine (szRangeS_any hm).mono ?_; rintro e w' ⟨rfl, rfl⟩)
    refine (toRangeS_any (B := w.heap.size) (Nat.le_refl _) hr (by omega) HL).mono ?_
    rintro e w1 ⟨rfl, hb1, ho1⟩
    go_wp2_with fail
    refine (sCount (B := w1.heap.size) (Nat.le_refl _) (own_rd ho1) (by omega) HL).mono ?_
    rintro e w2 ⟨rfl, hb2⟩
    have h02 := below_next hb1 hb1.size hb2
    go_wp2_with fail
    refine (toRangeS_any (B := w.heap.size) h02.size (hr.below h02 (Nat.le_refl _)) (by omega) HL).mono ?_
    rintro e w3 ⟨rfl, hb3, ho3⟩
    have h03 := below_next h02 h02.size hb3
    go_wp2_with fail
    refine (iCount (B := w3.heap.size) (Nat.le_refl _) (own_rd ho3) (by omega) HL).mono ?_
    rintro e w4 ⟨rfl, hb4⟩
    have h04 := below_next h03 h03.size hb4
    go_wp2_with fail
    refine (toRangeS_any (B := w.heap.size) h04.size (hr.below h04 (Nat.le_refl _)) (by omega) HL).mono ?_
    rintro e w5 ⟨rfl, hb5, ho5⟩
    have h05 := below_next h04 h04.size hb5
    go_wp2_with fail
    refine (eqRangeS_any l l n n _ _ _ _ w5 w5.heap.size (Nat.le_refl _) (own_rd (own_step (own_step ho3 hb4) hb5)) (own_rd ho5) (by omega) (by omega) HL.out HL.out).mono ?_
    rintro e w6 ⟨rfl, hb6⟩
    have h06 := below_next h05 h05.size hb6
    go_wp2
    go_ret
    exact ⟨rfl, h06⟩
  · have hsz : (if n ≤ 1048576 then 1048576 - (n : Int) else -1) = -1 := if_neg hn
    go_enter Try.func6, Try.ntmps6
    go_wp2_with (go_at_call 13; refine (szRangeS_any hm).mono ?_; rintro e w' ⟨rfl, rfl⟩)
    go_ret
    exact ⟨rfl, Below.refl _ _⟩
theorem walk_FnExactFirstGap (A : Option Addr) (c n : Nat) (l : List R) (w : World) (hr : Rd w w.heap.size A (encR l)) (hm : n ≤ 9223372036854775807) (HL : Hid (l.length = n)) (v : Int) (_wv : (Lit.int .i64 v).wf = true) :
    Calls Try.prog 7 #[.slice A n c, .int .i64 v] w fun e w' => e = .returned (.bool true) ∧ Below w.heap.size w w' := by
  by_cases hn : n ≤ 1048576
  · have hsz : (if n ≤ 1048576 then 1048576 - (n : Int) else -1) = 1048576 - (n : Int) := if_pos hn
    have hself := eqRs_self l
    go_enter Try.func7, Try.ntmps7
    go_wp2_with (go_at_call 13; refine (szRangeS_any hm).mono ?_; rintro e w' ⟨rfl, rfl⟩)
    refine (toRangeS_any (B := w.heap.size) (Nat.le_refl _) hr (by omega) HL).mono ?_
    rintro e w1 ⟨rfl, hb1, ho1⟩
    go_wp2_with fail
    refine (sGap (B := w1.heap.size) (Nat.le_refl _) (own_rd ho1) (by omega) HL v).mono ?_
    rintro e w2 ⟨rfl, hb2⟩
    have h02 := below_next hb1 hb1.size hb2
    go_wp2_with fail
    refine (toRangeS_any (B := w.heap.size) h02.size (hr.below h02 (Nat.le_refl _)) (by omega) HL).mono ?_
    rintro e w3 ⟨rfl, hb3, ho3⟩
    have h03 := below_next h02 h02.size hb3
    go_wp2_with fail
    refine (iGap (B := w3.heap.size) (Nat.le_refl _) (own_rd ho3) (by omega) HL v).mono ?_
    rintro e w4 ⟨rfl, hb4⟩
    have h04 := below_next h03 h03.size hb4
    go_wp2_with fail
    refine (toRangeS_any (B := w.heap.size) h04.size (hr.below h04 (Nat.le_refl _)) (by omega) HL).mono ?_
    rintro e w5 ⟨rfl, hb5, ho5⟩
    have h05 := below_next h04 h04.size hb5
    go_wp2_with fail
    refine (eqRangeS_any l l n n _ _ _ _ w5 w5.heap.size (Nat.le_refl _) (own_rd (own_step (own_step ho3 hb4) hb5)) (own_rd ho5) (by omega) (by omega) HL.out HL.out).mono ?_
    rintro e w6 ⟨rfl, hb6⟩
    have h06 := below_next h05 h05.size hb6
    go_wp2
    go_ret
    exact ⟨rfl, h06⟩
  · have hsz : (if n ≤ 1048576 then 1048576 - (n : Int) else -1) = -1 := if_neg hn
    go_enter Try.func7, Try.ntmps7
    go_wp2_with (go_at_call 13; refine (szRangeS_any hm).mono ?_; rintro e w' ⟨rfl, rfl⟩)
    go_ret
    exact ⟨rfl, Below.refl _ _⟩
theorem walk_FnExactHasNumber (A : Option Addr) (c n : Nat) (l : List R) (w : World) (hr : Rd w w.heap.size A (encR l)) (hm : n ≤ 9223372036854775807) (HL : Hid (l.length = n)) (v : Int) (_wv : (Lit.int .i64 v).wf = true) :
    Calls Try.prog 4 #[.slice A n c, .int .i64 v] w fun e w' => e = .returned (.bool true) ∧ Below w.heap.size w w' := by
  by_cases hn : n ≤ 1048576
  · have hsz : (if n ≤ 1048576 then 1048576 - (n : Int) else -1) = 1048576 - (n : Int) := if_pos hn
    have hself := eqRs_self l
    go_enter Try.func4, Try.ntmps4
    go_wp2_with (go_at_call 13; refine (szRangeS_any hm).mono ?_; rintro e w' ⟨rfl, rfl⟩)
    refine (toRangeS_any (B := w.heap.size) (Nat.le_refl _) hr (by omega) HL).mono ?_
    rintro e w1 ⟨rfl, hb1, ho1⟩
    go_wp2_with fail
    refine (sHas (B := w1.heap.size) (Nat.le_refl _) (own_rd ho1) (by omega) HL v).mono ?_
    rintro e w2 ⟨rfl, rfl⟩
    have hb2 := Below.refl w1.heap.size w1
    have h02 := hb1
    go_wp2_with fail
    refine (toRangeS_any (B := w.heap.size) h02.size (hr.below h02 (Nat.le_refl _)) (by omega) HL).mono ?_
    rintro e w3 ⟨rfl, hb3, ho3⟩
    have h03 := below_next h02 h02.size hb3
    go_wp2_with fail
    refine (iHas (B := w3.heap.size) (Nat.le_refl _) (own_rd ho3) (by omega) HL v).mono ?_
    rintro e w4 ⟨rfl, hb4⟩
    have h04 := below_next h03 h03.size hb4
    go_wp2_with fail
    refine (toRangeS_any (B := w.heap.size) h04.size (hr.below h04 (Nat.le_refl _)) (by omega) HL).mono ?_
    rintro e w5 ⟨rfl, hb5, ho5⟩
    have h05 := below_next h04 h04.size hb5
    go_wp2_with fail
    refine (eqRangeS_any l l n n _ _ _ _ w5 w5.heap.size (Nat.le_refl _) (own_rd (own_step (own_step ho3 hb4) hb5)) (own_rd ho5) (by omega) (by omega) HL.out HL.out).mono ?_
    rintro e w6 ⟨rfl, hb6⟩
    have h06 := below_next h05 h05.size hb6
    go_wp2
    go_ret
    exact ⟨rfl, h06⟩
  · have hsz : (if n ≤ 1048576 then 1048576 - (n : Int) else -1) = -1 := if_neg hn
    go_enter Try.func4, Try.ntmps4
    go_wp2_with (go_at_call 13; refine (szRangeS_any hm).mono ?_; rintro e w' ⟨rfl, rfl⟩)
    go_ret
    exact ⟨rfl, Below.refl _ _⟩
end Go.Proofs.Ytoeegpgbgepgkaa
