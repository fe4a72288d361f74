/- Contracts of the functions that read a slice of ranges, first part. No conditions. -/
import Derived.Test.YtaackmiodkpnoaaDoorRng2
namespace Go.Proofs.YtaackmiodkpnoaaDoor
open Go.ChangeShapes Go.WideShapes Go.ChangeAt Go.RowKit Go.Sort RM
set_option linter.unusedVariables false
theorem cell_new2 (w : World) (x y : Value) (T : TypeId) : (w.alloc (.cells #[x, y] T)).cell? ⟨w.heap.size, 0, none⟩ = some x ∧ (w.alloc (.cells #[x, y] T)).cell? ⟨w.heap.size, 1, none⟩ = some y := by
  constructor <;> simp [go_sem]
theorem szRangeS_any {A : Option Addr} {c n : Nat} {w : World} (hm : n ≤ 9223372036854775807) : Calls Tryd.prog 5 #[.slice A n c, .int .i64 1048576] w fun e w' => e = .returned (.int .i64 (if n ≤ 1048576 then 1048576 - (n : Int) else -1)) ∧ w = w' := by
  by_cases h : n ≤ 1048576
  · go_enter Tryd.func5, Tryd.ntmps5
    go_wp2
    go_ret
    exact ⟨rfl, rfl⟩
  · go_enter Tryd.func5, Tryd.ntmps5
    go_wp2
    go_ret
    exact ⟨rfl, rfl⟩
theorem okAt_hid {l : List R} {k : Nat} {x y : Int} (h : l.getD k (0, 0) = (x, y)) (hf : isR (x, y) = false) : okAt l k = false := by
  unfold okAt; rw [h, hf]; rfl
theorem okAt_first {l : List R} {x y : Int} (h : l.getD 0 (0, 0) = (x, y)) (hf : isR (x, y) = true) : okAt l 0 = true := by
  unfold okAt; rw [h, hf]; rfl
theorem okAt_next {l : List R} {k : Nat} {x y px py : Int} (h0 : 0 < k) (h : l.getD k (0, 0) = (x, y)) (hp : l.getD (k - 1) (0, 0) = (px, py)) (hf : isR (x, y) = true) : okAt l k = decide (py < x) := by
  unfold okAt; rw [h, hp, hf]
  have : (k == 0) = false := by rw [beq_eq_false_iff_ne]; omega
  rw [this]; simp
theorem sIs {A : Option Addr} {c n : Nat} {w : World} {B : Nat} {l : List R} (hB : B ≤ w.heap.size) (hr : Rd w B A (encR l)) (hm : n ≤ 9223372036854775807) (HL : Hid (l.length = n)) :
    Calls Tryd.prog 18 #[.slice A n c] w fun e w' => e = .returned (.bool (isRs l)) ∧ Below w.heap.size w w' := by
  go_enter Tryd.func18, Tryd.ntmps18
  go_wp2
  go_loopw [3] (fun i wr => ∃ k : Nat, k ≤ n ∧ i = .int .i64 k ∧ (∀ j, j < k → okAt l j = true) ∧ Below w.heap.size w wr) (fun i _ => n - (intOf i).toNat)
  case atStart => exact ⟨0, Nat.zero_le _, rfl, fun j hj => by omega, Below.refl _ _⟩
  case round =>
    obtain ⟨k, hk, rfl, he, hbw⟩ := hrel
    have HE := Lib.hid he; clear he
    by_cases hlt : k < n
    · obtain ⟨b, off, x, y, rfl, hb, HX, c0, c1⟩ := (hr.below hbw hB).rng (k := k) (by rw [HL.out]; exact hlt)
      have k0 := cell_regrown c0
      have k1 := cell_regrown c1
      cases hf : isR (x, y)
      · go_wp2
        refine wp_region_quiet_below (by kernel_rfl) (by kernel_rfl) ?_
        repeat (go_big_quiet_step ((go_at_call 37; exact Calls.regrown_of (l3Fine_any _ _ _))))
        refine wpQuiet_nil ?_
        intro _ hw'
        obtain ⟨⟨dq, osq⟩, hw''⟩ := hw'
        subst hw''
        have hb2 := below_next hbw hbw.size (below_regrown _ dq osq)
        generalize grow (redrawn _ dq) osq = w2 at hb2 ⊢
        clear k0 k1 c0 c1 hbw
        go_wp2
        go_ret
        exact ⟨ret_bool (isRs_false (by rw [HL.out]; exact hlt) (okAt_hid HX.out hf)).symm, hb2⟩
      · by_cases hk0 : k = 0
        · have hkz : k ≤ 0 := by omega
          have hd : decide (0 < k) = false := by simp; omega
          have hd1 : decide ((0 : Int) < (k : Int)) = false := by simp; omega
          have HK := Lib.hid hk0; clear hk0
          go_wp2
          refine wp_region_quiet_below (by kernel_rfl) (by kernel_rfl) ?_
          repeat (go_big_quiet_step ((go_at_call 37; exact Calls.regrown_of (l3Fine_any _ _ _))))
          refine wpQuiet_nil ?_
          intro _ hw'
          obtain ⟨⟨dq, osq⟩, hw''⟩ := hw'
          subst hw''
          have hb2 := below_next hbw hbw.size (below_regrown _ dq osq)
          generalize grow (redrawn _ dq) osq = w2 at hb2 ⊢
          clear k0 k1 c0 c1 hbw
          go_wp2
          go_roundw
          case rel => exact ⟨k + 1, by omega, by go_num, fun j hj => by
            obtain rfl : j = k := by omega
            obtain rfl := HK.out
            exact okAt_first HX.out hf, hb2⟩
          case measure => simp [intOf]; omega
        · obtain ⟨b', off', px, py, e', hb', HP, p0, p1⟩ := (hr.below hbw hB).rng (k := k - 1) (by rw [HL.out]; omega)
          injection e' with e'
          injection e' with e1 e2
          subst e1 e2
          have q1 := cell_regrown p1
          have hpos : 0 < k := by omega
          have hd : decide (0 < k) = true := by simpa using hpos
          have hi0 : 0 ≤ (k : Int) - 1 := by omega
          have hi1 : (k : Int) - 1 < (n : Int) := by omega
          have hi2 : IntKind.i64.wrap ((k : Int) - 1) = (k : Int) - 1 := IntWalk.i64_in _ (by omega)
          have hi3 : ((k : Int) - 1).toNat = k - 1 := by omega
          by_cases hp : py < x
          · go_wp2
            refine wp_region_quiet_below (by kernel_rfl) (by kernel_rfl) ?_
            repeat (go_big_quiet_step ((go_at_call 37; exact Calls.regrown_of (l3Fine_any _ _ _))))
            refine wpQuiet_nil ?_
            intro _ hw'
            obtain ⟨⟨dq, osq⟩, hw''⟩ := hw'
            subst hw''
            have hb2 := below_next hbw hbw.size (below_regrown _ dq osq)
            generalize grow (redrawn _ dq) osq = w2 at hb2 ⊢
            clear k0 k1 c0 c1 q1 p0 p1 hbw
            go_wp2
            go_roundw
            case rel => exact ⟨k + 1, by omega, by go_num, fun j hj => by
              by_cases hj' : j < k
              · exact HE.out j hj'
              · obtain rfl : j = k := by omega
                rw [okAt_next hpos HX.out HP.out hf]; simpa using hp, hb2⟩
            case measure => simp [intOf]; omega
          · go_wp2
            refine wp_region_quiet_below (by kernel_rfl) (by kernel_rfl) ?_
            repeat (go_big_quiet_step ((go_at_call 37; exact Calls.regrown_of (l3Fine_any _ _ _))))
            refine wpQuiet_nil ?_
            intro _ hw'
            obtain ⟨⟨dq, osq⟩, hw''⟩ := hw'
            subst hw''
            have hb2 := below_next hbw hbw.size (below_regrown _ dq osq)
            generalize grow (redrawn _ dq) osq = w2 at hb2 ⊢
            clear k0 k1 c0 c1 q1 p0 p1 hbw
            go_wp2
            go_ret
            exact ⟨ret_bool (isRs_false (by rw [HL.out]; exact hlt) (by rw [okAt_next hpos HX.out HP.out hf]; simpa using hp)).symm, hb2⟩
    · go_wp2
      go_ret
      exact ⟨ret_bool (by symm; rw [isRs_iff, HL.out]; exact fun i hi => HE.out i (by omega)), hbw⟩
theorem cell_alloc {w : World} {a : Addr} {v : Value} (h : w.cell? a = some v) (o : Obj) : (w.alloc o).cell? a = some v := by
  have hb : Below w.heap.size w (w.alloc o) := (Below.refl _ _).alloc (Nat.le_refl _) _
  rw [hb.cell (World.block_lt_of_cell? w a h)]; exact h
theorem iIs {A : Option Addr} {c n : Nat} {w : World} {B : Nat} {l : List R} (hB : B ≤ w.heap.size) (hr : Rd w B A (encR l)) (hm : n ≤ 9223372036854775807) (HL : Hid (l.length = n)) :
    Calls Tryd.prog 17 #[.slice A n c] w fun e w' => e = .returned (.bool (isRs l)) ∧ Below w.heap.size w w' := by
  go_enter Tryd.func17, Tryd.ntmps17
  go_wp2
  go_loopw [7] (fun i wr => ∃ k : Nat, k ≤ n ∧ i = .int .i64 k ∧ (∀ j, j < k → okAt l j = true) ∧ Below w.heap.size w wr) (fun i _ => n - (intOf i).toNat)
  case atStart => exact ⟨0, Nat.zero_le _, rfl, fun j hj => by omega, Below.refl _ _⟩
  case round =>
    obtain ⟨k, hk, rfl, he, hbw0⟩ := hrel
    have HE := Lib.hid he; clear he
    by_cases hlt : k < n
    · obtain ⟨b, off, x, y, rfl, hb, HX, c0, c1⟩ := (hr.below hbw0 hB).rng (k := k) (by rw [HL.out]; exact hlt)
      have hbw := hbw0.alloc hbw0.size (.cells #[.int .i64 x, .int .i64 y] 32)
      have hA := cell_new2 wr (.int .i64 x) (.int .i64 y) 32
      have k0 := cell_regrown hA.1
      have k1 := cell_regrown hA.2
      clear hA
      cases hf : isR (x, y)
      · go_wp2
        refine wp_region_quiet_below (by kernel_rfl) (by kernel_rfl) ?_
        repeat (go_big_quiet_step ((go_at_call 35; exact Calls.regrown_of (isRange_any _ _ _))))
        refine wpQuiet_nil ?_
        intro _ hw'
        obtain ⟨⟨dq, osq⟩, hw''⟩ := hw'
        subst hw''
        have hb2 := below_next hbw hbw.size (below_regrown _ dq osq)
        generalize grow (redrawn _ dq) osq = w2 at hb2 ⊢
        clear k0 k1 c0 c1 hbw
        go_wp2
        go_ret
        exact ⟨ret_bool (isRs_false (by rw [HL.out]; exact hlt) (okAt_hid HX.out hf)).symm, hb2⟩
      · by_cases hk0 : k = 0
        · have hkz : k ≤ 0 := by omega
          have hd : decide (0 < k) = false := by simp; omega
          have hd1 : decide ((0 : Int) < (k : Int)) = false := by simp; omega
          have HK := Lib.hid hk0; clear hk0
          go_wp2
          refine wp_region_quiet_below (by kernel_rfl) (by kernel_rfl) ?_
          repeat (go_big_quiet_step ((go_at_call 35; exact Calls.regrown_of (isRange_any _ _ _))))
          refine wpQuiet_nil ?_
          intro _ hw'
          obtain ⟨⟨dq, osq⟩, hw''⟩ := hw'
          subst hw''
          have hb2 := below_next hbw hbw.size (below_regrown _ dq osq)
          generalize grow (redrawn _ dq) osq = w2 at hb2 ⊢
          clear k0 k1 c0 c1 hbw
          go_wp2
          go_roundw
          case rel => exact ⟨k + 1, by omega, by go_num, fun j hj => by
            obtain rfl : j = k := by omega
            obtain rfl := HK.out
            exact okAt_first HX.out hf, hb2⟩
          case measure => simp [intOf]; omega
        · obtain ⟨b', off', px, py, e', hb', HP, p0, p1⟩ := (hr.below hbw0 hB).rng (k := k - 1) (by rw [HL.out]; omega)
          injection e' with e'
          injection e' with e1 e2
          subst e1 e2
          have q1 := cell_regrown (cell_alloc p1 (.cells #[.int .i64 x, .int .i64 y] 32))
          have hpos : 0 < k := by omega
          have hd : decide (0 < k) = true := by simpa using hpos
          have hi0 : 0 ≤ (k : Int) - 1 := by omega
          have hi1 : (k : Int) - 1 < (n : Int) := by omega
          have hi2 : IntKind.i64.wrap ((k : Int) - 1) = (k : Int) - 1 := IntWalk.i64_in _ (by omega)
          have hi3 : ((k : Int) - 1).toNat = k - 1 := by omega
          by_cases hp : py < x
          · go_wp2
            refine wp_region_quiet_below (by kernel_rfl) (by kernel_rfl) ?_
            repeat (go_big_quiet_step ((go_at_call 35; exact Calls.regrown_of (isRange_any _ _ _))))
            refine wpQuiet_nil ?_
            intro _ hw'
            obtain ⟨⟨dq, osq⟩, hw''⟩ := hw'
            subst hw''
            have hb2 := below_next hbw hbw.size (below_regrown _ dq osq)
            generalize grow (redrawn _ dq) osq = w2 at hb2 ⊢
            clear k0 k1 c0 c1 q1 p0 p1 hbw
            go_wp2
            go_roundw
            case rel => exact ⟨k + 1, by omega, by go_num, fun j hj => by
              by_cases hj' : j < k
              · exact HE.out j hj'
              · obtain rfl : j = k := by omega
                rw [okAt_next hpos HX.out HP.out hf]; simpa using hp, hb2⟩
            case measure => simp [intOf]; omega
          · go_wp2
            refine wp_region_quiet_below (by kernel_rfl) (by kernel_rfl) ?_
            repeat (go_big_quiet_step ((go_at_call 35; exact Calls.regrown_of (isRange_any _ _ _))))
            refine wpQuiet_nil ?_
            intro _ hw'
            obtain ⟨⟨dq, osq⟩, hw''⟩ := hw'
            subst hw''
            have hb2 := below_next hbw hbw.size (below_regrown _ dq osq)
            generalize grow (redrawn _ dq) osq = w2 at hb2 ⊢
            clear k0 k1 c0 c1 q1 p0 p1 hbw
            go_wp2
            go_ret
            exact ⟨ret_bool (isRs_false (by rw [HL.out]; exact hlt) (by rw [okAt_next hpos HX.out HP.out hf]; simpa using hp)).symm, hb2⟩
    · go_wp2
      go_ret
      exact ⟨ret_bool (by symm; rw [isRs_iff, HL.out]; exact fun i hi => HE.out i (by omega)), hbw0⟩
end Go.Proofs.YtaackmiodkpnoaaDoor
