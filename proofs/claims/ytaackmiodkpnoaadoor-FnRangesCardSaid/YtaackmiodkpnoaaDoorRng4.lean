/- Contracts of the functions that read a slice of ranges, second part. No conditions. -/
import Derived.Test.YtaackmiodkpnoaaDoorRng3
namespace Go.Proofs.YtaackmiodkpnoaaDoor
open Go.ChangeShapes Go.WideShapes Go.ChangeAt Go.RowKit Go.Sort RM
set_option linter.unusedVariables false
theorem run_neq_rng (x y x' y' : Int) (w : World) : (binOp .neq 32 (.agg #[.int .i64 x, .int .i64 y]) (.agg #[.int .i64 x', .int .i64 y'])).run Tryd.prog w = .ok (.bool (!(eqRb x y x' y'))) w := by
  by_cases h1 : x = x'
  · by_cases h2 : y = y'
    · subst h1 h2; simp [go_sem, eqRb]
    · have h2' : (y == y') = false := by rw [beq_eq_false_iff_ne]; exact h2
      subst h1; simp [go_sem, eqRb, h2']
  · have h1' : (x == x') = false := by rw [beq_eq_false_iff_ne]; exact h1
    simp [go_sem, eqRb, h1']
theorem sEq {A A' : Option Addr} {c c' n n' : Nat} {w : World} {B : Nat} {l m : List R} (hB : B ≤ w.heap.size) (hr : Rd w B A (encR l)) (hs : Rd w B A' (encR m)) (hm : n ≤ 9223372036854775807) (hm' : n' ≤ 9223372036854775807) (HL : Hid (l.length = n)) (HM : Hid (m.length = n')) :
    Calls Tryd.prog 14 #[.slice A n c, .slice A' n' c'] w fun e w' => e = .returned (.bool (eqRs l m)) ∧ Below w.heap.size w w' := by
  by_cases hnn : n = n'
  · subst hnn
    go_enter Tryd.func14, Tryd.ntmps14
    go_wp2
    go_loopw [5] (fun i wr => ∃ k : Nat, k ≤ n ∧ i = .int .i64 k ∧ (∀ j, j < k → l.getD j (0,0) = m.getD j (0,0)) ∧ Below w.heap.size w wr) (fun i _ => n - (intOf i).toNat)
    case atStart => exact ⟨0, Nat.zero_le _, rfl, fun j hj => by omega, Below.refl _ _⟩
    case round =>
      obtain ⟨k, hk, rfl, he, hbw⟩ := hrel
      have HE := Lib.hid he; clear he
      by_cases hlt : k < n
      · obtain ⟨b, off, x, y, rfl, hb, HX, c0, c1⟩ := (hr.below hbw hB).rng (k := k) (by rw [HL.out]; exact hlt)
        obtain ⟨b', off', x', y', rfl, hb', HX', d0, d1⟩ := (hs.below hbw hB).rng (k := k) (by rw [HM.out]; exact hlt)
        have k0 := cell_regrown c0
        have k1 := cell_regrown c1
        have e0 := cell_regrown d0
        have e1 := cell_regrown d1
        have hne := run_neq_rng x y x' y'
        cases hq : eqRb x y x' y'
        · rw [hq] at hne
          go_wp2
          refine wp_region_quiet_below (by kernel_rfl) (by kernel_rfl) ?_
          repeat (go_big_quiet_step ((fail)))
          refine wpQuiet_nil ?_
          intro _ hw'
          obtain ⟨⟨dq, osq⟩, hw''⟩ := hw'
          subst hw''
          have hb2 := below_next hbw hbw.size (below_regrown _ dq osq)
          generalize grow (redrawn _ dq) osq = w2 at hb2 ⊢
          clear k0 k1 e0 e1 c0 c1 d0 d1 hbw
          go_wp2
          go_ret
          exact ⟨ret_bool (getD_ne (by rw [HX.out, HX'.out]; exact eqRb_false hq)).symm, hb2⟩
        · rw [hq] at hne
          go_wp2
          refine wp_region_quiet_below (by kernel_rfl) (by kernel_rfl) ?_
          repeat (go_big_quiet_step ((fail)))
          refine wpQuiet_nil ?_
          intro _ hw'
          obtain ⟨⟨dq, osq⟩, hw''⟩ := hw'
          subst hw''
          have hb2 := below_next hbw hbw.size (below_regrown _ dq osq)
          generalize grow (redrawn _ dq) osq = w2 at hb2 ⊢
          clear k0 k1 e0 e1 c0 c1 d0 d1 hbw
          go_wp2
          go_roundw
          case rel => exact ⟨k + 1, by omega, by go_num, fun j hj => by
            by_cases hj' : j < k
            · exact HE.out j hj'
            · obtain rfl : j = k := by omega
              rw [HX.out, HX'.out]; exact eqRb_true hq, hb2⟩
          case measure => simp [intOf]; omega
      · go_wp2
        go_ret
        exact ⟨ret_bool (by rw [list_eq_getD HL.out HM.out (fun j hj => HE.out j (by omega)), eqRs_self]), hbw⟩
  · have hnb : ((n : Int) != (n' : Int)) = true := by rw [bne_iff_ne]; omega
    go_enter Tryd.func14, Tryd.ntmps14
    go_wp2
    go_ret
    exact ⟨ret_bool (by symm; rw [Bool.eq_false_iff, ne_eq, eqRs_iff]; rintro rfl; exact hnn (HL.out.symm.trans HM.out)), Below.refl _ _⟩
theorem iEq0 {A A' : Option Addr} {c c' n n' : Nat} {w : World} {B : Nat} {l m : List R} (hB : B ≤ w.heap.size) (hr : Rd w B A (encR l)) (hs : Rd w B A' (encR m)) (hm : n ≤ 9223372036854775807) (hm' : n' ≤ 9223372036854775807) (HL : Hid (l.length = n)) (HM : Hid (m.length = n')) :
    Calls Tryd.prog 43 #[.slice A n c, .slice A' n' c'] w fun e w' => e = .returned (.bool (eqRs l m)) ∧ Below w.heap.size w w' := by
  by_cases hnn : n = n'
  · subst hnn
    go_enter Tryd.func43, Tryd.ntmps43
    go_wp2
    go_loopw [13] (fun i wr => ∃ k : Nat, k ≤ n ∧ i = .int .i64 k ∧ (∀ j, j < k → l.getD j (0,0) = m.getD j (0,0)) ∧ Below w.heap.size w wr) (fun i _ => n - (intOf i).toNat)
    case atStart => exact ⟨0, Nat.zero_le _, rfl, fun j hj => by omega, Below.refl _ _⟩
    case round =>
      obtain ⟨k, hk, rfl, he, hbw⟩ := hrel
      have HE := Lib.hid he; clear he
      by_cases hlt : k < n
      · obtain ⟨b, off, x, y, rfl, hb, HX, c0, c1⟩ := (hr.below hbw hB).rng (k := k) (by rw [HL.out]; exact hlt)
        obtain ⟨b', off', x', y', rfl, hb', HX', d0, d1⟩ := (hs.below hbw hB).rng (k := k) (by rw [HM.out]; exact hlt)
        have k0 := cell_regrown c0
        have k1 := cell_regrown c1
        have e0 := cell_regrown d0
        have e1 := cell_regrown d1
        have hne := run_neq_rng x y x' y'
        cases hq : eqRb x y x' y'
        · rw [hq] at hne
          go_wp2
          refine wp_region_quiet_below (by kernel_rfl) (by kernel_rfl) ?_
          repeat (go_big_quiet_step ((fail)))
          refine wpQuiet_nil ?_
          intro _ hw'
          obtain ⟨⟨dq, osq⟩, hw''⟩ := hw'
          subst hw''
          have hb2 := below_next hbw hbw.size (below_regrown _ dq osq)
          generalize grow (redrawn _ dq) osq = w2 at hb2 ⊢
          clear k0 k1 e0 e1 c0 c1 d0 d1 hbw
          go_wp2
          go_ret
          exact ⟨ret_bool (getD_ne (by rw [HX.out, HX'.out]; exact eqRb_false hq)).symm, hb2⟩
        · rw [hq] at hne
          go_wp2
          refine wp_region_quiet_below (by kernel_rfl) (by kernel_rfl) ?_
          repeat (go_big_quiet_step ((fail)))
          refine wpQuiet_nil ?_
          intro _ hw'
          obtain ⟨⟨dq, osq⟩, hw''⟩ := hw'
          subst hw''
          have hb2 := below_next hbw hbw.size (below_regrown _ dq osq)
          generalize grow (redrawn _ dq) osq = w2 at hb2 ⊢
          clear k0 k1 e0 e1 c0 c1 d0 d1 hbw
          go_wp2
          go_roundw
          case rel => exact ⟨k + 1, by omega, by go_num, fun j hj => by
            by_cases hj' : j < k
            · exact HE.out j hj'
            · obtain rfl : j = k := by omega
              rw [HX.out, HX'.out]; exact eqRb_true hq, hb2⟩
          case measure => simp [intOf]; omega
      · go_wp2
        go_ret
        exact ⟨ret_bool (by rw [list_eq_getD HL.out HM.out (fun j hj => HE.out j (by omega)), eqRs_self]), hbw⟩
  · have hnb : ((n : Int) != (n' : Int)) = true := by rw [bne_iff_ne]; omega
    go_enter Tryd.func43, Tryd.ntmps43
    go_wp2
    go_ret
    exact ⟨ret_bool (by symm; rw [Bool.eq_false_iff, ne_eq, eqRs_iff]; rintro rfl; exact hnn (HL.out.symm.trans HM.out)), Below.refl _ _⟩
end Go.Proofs.YtaackmiodkpnoaaDoor
