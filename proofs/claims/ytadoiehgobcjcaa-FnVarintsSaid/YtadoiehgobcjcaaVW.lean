/- The walk of the law FnVarints. No conditions. -/
import Derived.Test.YtadoiehgobcjcaaD3
import Derived.Test.YtadoiehgobcjcaaVM
import Derived.Test.YtadoiehgobcjcaaQL
namespace Go.Proofs.Ytadoiehgobcjcaa
open Go.ChangeShapes Go.WideShapes Go.ChangeAt Go.RowKit Go.Sort QM
set_option linter.unusedVariables false
set_option linter.unusedSimpArgs false
theorem sameInts_any {A A' : Option Addr} {c c' n : Nat} {w : World} {B : Nat} {l : List Int} (hB : B ≤ w.heap.size) (hr : Rd w B A (ints l)) (hr' : Rd w B A' (ints l)) (hm : n ≤ 9223372036854775807) (HL : Hid (l.length = n)) :
    Calls Try.prog 22 #[.slice A n c, .slice A' n c'] w fun e w' => e = .returned (.bool true) ∧ Below w.heap.size w w' := by
  go_enter Try.func22, Try.ntmps22
  go_wp2
  go_loopw [5] (fun i wr => ∃ k : Nat, k ≤ n ∧ i = .int .i64 k ∧ Below w.heap.size w wr) (fun i _ => n - (intOf i).toNat)
  case atStart => exact ⟨0, Nat.zero_le _, rfl, Below.refl _ _⟩
  case round =>
    obtain ⟨k, hk, rfl, hbw⟩ := hrel
    by_cases hlt : k < n
    · obtain ⟨b, off, x, rfl, hb, HX, c0⟩ := (hr.below hbw hB).int (k := k) (by rw [HL.out]; exact hlt)
      obtain ⟨b', off', x', rfl, hb', HX', c0'⟩ := (hr'.below hbw hB).int (k := k) (by rw [HL.out]; exact hlt)
      obtain rfl : x' = x := HX'.out.symm.trans HX.out
      have k0 := cell_regrown c0
      have k1 := cell_regrown c0'
      go_wp2
      refine wp_region_quiet_below (by kernel_rfl) (by kernel_rfl) ?_
      repeat (go_big_quiet_step ((fail)))
      refine wpQuiet_nil ?_
      intro _ hw'
      obtain ⟨⟨dq, osq⟩, hw''⟩ := hw'
      subst hw''
      have hb2 := below_next hbw hbw.size (below_regrown _ dq osq)
      generalize grow (redrawn _ dq) osq = w2 at hb2 ⊢
      clear k0 k1 c0 c0' hbw
      go_wp2
      go_roundw
      case rel => exact ⟨k + 1, by omega, by go_num, hb2⟩
      case measure => simp [intOf]; omega
    · go_wp2
      go_ret
      exact ⟨rfl, hbw⟩
theorem isEmpty_sz {d : ByteArray} : d.toList.isEmpty = decide (d.size = 0) := by
  rw [ByteArray.toList_eq]
  obtain ⟨⟨l⟩⟩ := d
  cases l <;> simp [ByteArray.size]
theorem dq_five (t : ByteArray) (p : Int) : dqV (dq t p) p = .tuple #[.int .i64 0, .int .i64 0, .bool false] ∨ ∃ n k : Nat, dqV (dq t p) p = .tuple #[.int .i64 n, .int .i64 (p + k), .bool true] ∧ decide (p + (k : Int) - p < sizeI (n : Int)) = false ∧ decide ((t.size : Int) < p + (k : Int)) = false ∧ 0 ≤ p ∧ k ≤ 8 ∧ p + k ≤ t.size := by
  rcases dq_two t p with ⟨hn, hv⟩ | ⟨a, k, hn, hv, ha, hk1, hk8, hpk⟩
  · exact .inl hv
  · have hk := dq_size hn
    exact .inr ⟨a, k, hv, by simp; omega, by simp; omega, hk.2.2.1, hk8, hpk⟩
set_option maxRecDepth 20000 in
set_option maxHeartbeats 8000000 in
theorem walk_FnVarints {A : Option Addr} {c n : Nat} {l : List Int} (w : World) (hr : Rd w w.heap.size A (bys l)) (hn : n ≤ maxLen) (HL : Hid (l.length = n)) :
    Calls Try.prog 3 #[.slice A n c] w fun e w' => e = .returned (.bool true) ∧ Below w.heap.size w w' := by
  unfold maxLen at hn
  by_cases hs : n ≤ 1048576
  · have hd : decide ((1048576 : Int) < (n : Int)) = false := by simp; omega
    go_enter Try.func3, Try.ntmps3
    go_wp2_with (first | (go_at_call 6; go_in))
    refine (drawEncodeQuic hr hs HL).mono ?_
    rintro e w1 ⟨v, rfl, ⟨x, rfl, hx0, hx1⟩, hb1⟩
    go_wp2_with fail
    refine (iEncI _ _).mono ?_
    rintro e w2 ⟨rfl, hb2⟩
    replace hb1 := below_next hb1 hb1.size hb2
    clear hb2
    have hz := encI_size x
    have hzi := encI_sizeI x
    have hs8 : (encI x).size ≤ 1048576 := by omega
    obtain ⟨s, hse⟩ : ∃ s, encI x = s := ⟨_, rfl⟩
    have hv1 : (qB x = true → dqV (dq s 0) 0 = .tuple #[.int .i64 x, .int .i64 s.size, .bool true] ∧ shB s 0 = true) ∧ (qB x = false → dqV (dq s 0) 0 = .tuple #[.int .i64 0, .int .i64 0, .bool false]) := by
      refine ⟨fun h => ?_, fun h => ?_⟩
      · have hq := dq_one h
        have h0 := (qB_true h).1
        rw [← hse]
        unfold shB
        rw [hq]
        have e1 : (x.toNat : Int) = x := by omega
        simp only [dqV, e1, hzi]
        simp
      · rw [← hse, encI_out h, dq_nil]; rfl
    rw [hse] at hz hzi hs8 ⊢
    have HSE := Lib.hid hse; clear hse
    obtain ⟨hv1, hv0⟩ := hv1
    have HV1 := Lib.hid hv1; have HV0 := Lib.hid hv0; clear hv1 hv0
    rcases (show x < 0 ∨ 4611686018427387903 < x ∨ (0 ≤ x ∧ x ≤ 4611686018427387903) by omega) with hA | hA | hA
    case' inl =>
      have d0 : decide (0 ≤ x) = false := by simp; omega
      have hv := HV0.out (qB_lo hA)
      have hu : shB s 0 = shB s 0 := rfl
    case' inr.inl =>
      have d0 : decide (0 ≤ x) = true := by simp; omega
      have d1 : decide (x ≤ 4611686018427387903) = false := by simp; omega
      have hv := HV0.out (qB_hi hA)
      have hu : shB s 0 = shB s 0 := rfl
    case' inr.inr =>
      have d0 : decide (0 ≤ x) = true := by simp; omega
      have d1 : decide (x ≤ 4611686018427387903) = true := by simp; omega
      obtain ⟨hv, hu⟩ := HV1.out (qB_in hA.1 hA.2)
    all_goals clear hA HV1 HV0
    all_goals go_wp2_with (first
      | (go_at_call 9; refine (iDQ _ _ _ hs8).mono ?_; rintro e w' ⟨rfl, rfl⟩; rw [hv])
      | (go_at_call 10; refine (sEncI _ _).mono ?_; rintro e w3 ⟨rfl, hb3⟩; rw [HSE.out])
      | (go_at_call 11; refine (iSize _ _).mono ?_; rintro e w' ⟨rfl, rfl⟩; rw [← hzi])
      | (go_at_call 12; refine (iShort _ _ rfl _ hs8).mono ?_; rintro e w' ⟨rfl, rfl⟩; rw [hu]))
    all_goals replace hb1 := below_next hb1 hb1.size hb3
    all_goals clear hb3 hv hu d0
    all_goals refine (drawDecodeQuic ((hr.below hb1 (Nat.le_refl _)).more hb1.size) hs HL).mono ?_
    all_goals rintro e w4 ⟨v, rfl, ⟨t, p, rfl, ht, hp0, hp1⟩, hb4⟩
    all_goals replace hb1 := below_next hb1 hb1.size hb4
    all_goals clear hb4
    all_goals have ht8 : t.size ≤ 1048576 := by omega
    all_goals rcases dq_five t p with hv | ⟨a, k, hv, hk1, hk2, hp3, hk8, hpk⟩
    all_goals go_wp2_with (first
      | (go_at_call 9; refine (iDQ _ _ _ ht8).mono ?_; rintro e w' ⟨rfl, rfl⟩; rw [hv])
      | (go_at_call 14; refine (sDQ _ _ _ ht8).mono ?_; rintro e w' ⟨rfl, rfl⟩; rw [hv])
      | (go_at_call 11; refine (iSize _ _).mono ?_; rintro e w' ⟨rfl, rfl⟩))
    all_goals clear hv
    all_goals refine (drawEncodeQuics ((hr.below hb1 (Nat.le_refl _)).more hb1.size) hs HL).mono ?_
    all_goals rintro e w5 ⟨A5, c5, L, rfl, h4, hq, ho, hb5⟩
    all_goals replace hb1 := below_next hb1 hb1.size hb5
    all_goals clear hb5 hq
    all_goals go_wp2_with fail
    all_goals refine (iEncs (Nat.le_refl _) (own_rd ho) (by omega) (Lib.hid rfl)).mono ?_
    all_goals rintro e w6 ⟨rfl, hb6⟩
    all_goals replace ho := own_step ho hb6
    all_goals replace hb1 := below_next hb1 hb1.size hb6
    all_goals clear hb6
    all_goals have hz := encL_sz L
    all_goals obtain ⟨hdb, hdl⟩ := decL_encL L
    all_goals obtain ⟨u, hu⟩ : ∃ u, encL L = u := ⟨_, rfl⟩
    all_goals rw [hu] at hz hdb hdl ⊢
    all_goals have HU := Lib.hid hu
    all_goals clear hu
    all_goals have HDL := Lib.hid hdl
    all_goals clear hdl
    all_goals go_wp2_with fail
    all_goals refine (iDecs _ (by omega) _).mono ?_
    all_goals rintro e w7 ⟨A7, c7, rfl, hb7, ho7⟩
    all_goals replace ho := own_step ho hb7
    all_goals replace hb1 := below_next hb1 hb1.size hb7
    all_goals clear hb7
    all_goals rw [hdb]
    all_goals go_wp2_with fail
    all_goals refine (drawIsShortest ((hr.below hb1 (Nat.le_refl _)).more hb1.size) hs HL).mono ?_
    all_goals rintro e w8 ⟨v, rfl, ⟨t2, p2, rfl, ht2, hp20, hp21⟩, hb8⟩
    all_goals replace ho := own_step ho hb8
    all_goals replace ho7 := own_step ho7 hb8
    all_goals replace hb1 := below_next hb1 hb1.size hb8
    all_goals clear hb8
    all_goals have ht28 : t2.size ≤ 1048576 := by omega
    all_goals have hw2 : (Lit.int .i64 p2).wf = true := by simp [Lit.wf, IntKind.min, IntKind.max, IntKind.signed, IntKind.bits]; omega
    all_goals have HW2 := Lib.hid hw2
    all_goals clear hw2
    all_goals go_wp2_with fail
    all_goals refine (drawDecodeQuics ((hr.below hb1 (Nat.le_refl _)).more hb1.size) hs HL).mono ?_
    all_goals rintro e w9 ⟨v, rfl, ⟨q, rfl, hq9⟩, hb9⟩
    all_goals replace ho := own_step ho hb9
    all_goals replace ho7 := own_step ho7 hb9
    all_goals replace hb1 := below_next hb1 hb1.size hb9
    all_goals clear hb9
    all_goals go_wp2_with fail
    all_goals refine (iDecs _ (by omega) _).mono ?_
    all_goals rintro e w10 ⟨A10, c10, rfl, hb10, ho10⟩
    all_goals replace ho := own_step ho hb10
    all_goals replace ho7 := own_step ho7 hb10
    all_goals replace hb1 := below_next hb1 hb1.size hb10
    all_goals clear hb10 ho10
    all_goals go_wp2_with fail
    all_goals refine (sDecs _ (by omega) _).mono ?_
    all_goals rintro e w11 ⟨A11, c11, rfl, hb11, ho11⟩
    all_goals replace ho := own_step ho hb11
    all_goals replace ho7 := own_step ho7 hb11
    all_goals replace hb1 := below_next hb1 hb1.size hb11
    all_goals clear hb11 ho11
    all_goals go_wp2_with fail
    all_goals refine (sEncs (Nat.le_refl _) (own_rd ho) (by omega) (Lib.hid rfl)).mono ?_
    all_goals rintro e w12 ⟨rfl, hb12⟩
    all_goals replace ho := own_step ho hb12
    all_goals replace ho7 := own_step ho7 hb12
    all_goals replace hb1 := below_next hb1 hb1.size hb12
    all_goals clear hb12
    all_goals rw [HU.out]
    all_goals have r5 := own_rd ho
    all_goals have r7 := own_rd ho7
    all_goals clear ho ho7
    all_goals rcases HDL.out with h0 | ⟨h1, h2⟩
    all_goals first
      | (have hz0 : (u.size : Int) = 0 := by rw [h0]; rfl
         subst h0
         go_wp2_with (first
          | (go_at_call 12; refine (iShort _ _ HW2.out _ ht28).mono ?_; rintro e w' ⟨rfl, rfl⟩)
          | (go_at_call 23; refine (sShort _ _ HW2.out _ ht28).mono ?_; rintro e w' ⟨rfl, rfl⟩))
         go_ret
         exact ⟨rfl, hb1⟩)
      | (have hue : u.toList.isEmpty = false := by rw [isEmpty_sz]; exact decide_eq_false (by omega)
         rw [h1] at r7 ⊢
         go_wp2_with (first
          | (go_at_call 22; refine (sameInts_any (B := w12.heap.size) (Nat.le_refl _) r7 r5 (by omega) (Lib.hid rfl)).mono ?_; rintro e w13 ⟨rfl, hb13⟩)
          | (go_at_call 12; refine (iShort _ _ HW2.out _ ht28).mono ?_; rintro e w' ⟨rfl, rfl⟩)
          | (go_at_call 23; refine (sShort _ _ HW2.out _ ht28).mono ?_; rintro e w' ⟨rfl, rfl⟩))
         go_ret
         exact ⟨rfl, below_next hb1 hb1.size hb13⟩)
  · have hd : decide ((1048576 : Int) < (n : Int)) = true := by simp; omega
    go_enter Try.func3, Try.ntmps3
    go_wp2_with (first | (go_at_call 6; go_in))
    go_ret
    exact ⟨rfl, Below.refl _ _⟩
end Go.Proofs.Ytadoiehgobcjcaa
