/- EqualBuffers: one contract for each package. No conditions. -/
import Derived.Test.YtnndhkdigmkddaaE4
namespace Go.Proofs.Ytnndhkdigmkddaa
open Go.ChangeShapes Go.WideShapes Go.ChangeAt Go.RowKit Go.Sort
set_option linter.unusedVariables false
set_option linter.unusedSimpArgs false
theorem run_neq_chk (x : Int) (y : ByteArray) (x' : Int) (y' : ByteArray) (w : World) : (binOp .neq 46 (.agg #[.int .i64 x, .string y]) (.agg #[.int .i64 x', .string y'])).run Try.prog w = .ok (.bool (!(eqCb x y x' y'))) w := by
  by_cases h1 : x = x'
  · by_cases h2 : y.toList = y'.toList
    · subst h1; simp [go_sem, eqCb, h2]
    · have h2' : (y.toList == y'.toList) = false := by rw [beq_eq_false_iff_ne]; exact h2
      subst h1; simp [go_sem, eqCb, h2, h2']
  · have h1' : (x == x') = false := by rw [beq_eq_false_iff_ne]; exact h1
    simp [go_sem, eqCb, h1, h1']
set_option maxHeartbeats 1000000 in
theorem sEqBuf {A A' : Option Addr} {c c' n n' : Nat} {w : World} {B : Nat} {l m : List Ck} (nx nx' : Int) (hB : B ≤ w.heap.size) (hr : Rd w B A (encC l)) (hs : Rd w B A' (encC m)) (hm : n ≤ 9223372036854775807) (hm' : n' ≤ 9223372036854775807) (HL : Hid (l.length = n)) (HM : Hid (m.length = n')) :
    Calls Try.prog 17 #[.agg #[.int .i64 nx, .slice A n c], .agg #[.int .i64 nx', .slice A' n' c']] w fun e w' => e = .returned (.bool (eqBb nx l nx' m)) ∧ Below w.heap.size w w' := by
  have hb0 : Below w.heap.size w ((w.alloc (.cells #[.int .i64 nx, .slice A n c] 28)).alloc (.cells #[.int .i64 nx', .slice A' n' c'] 28)) := ((Below.refl _ _).alloc (Nat.le_refl _) _).alloc (by simp) _
  have hk0 : Bk ((w.alloc (.cells #[.int .i64 nx, .slice A n c] 28)).alloc (.cells #[.int .i64 nx', .slice A' n' c'] 28)) w.heap.size 28 #[.int .i64 nx, .slice A n c] := by
    have h1 : Bk (w.alloc (.cells #[.int .i64 nx, .slice A n c] 28)) w.heap.size 28 #[.int .i64 nx, .slice A n c] := heap_alloc_new w _
    exact h1.below ((Below.refl _ _).alloc (Nat.le_refl _) _) h1.lt
  have hj0 : Bk ((w.alloc (.cells #[.int .i64 nx, .slice A n c] 28)).alloc (.cells #[.int .i64 nx', .slice A' n' c'] 28)) (w.heap.size + 1) 28 #[.int .i64 nx', .slice A' n' c'] := by
    have h := heap_alloc_new (w.alloc (.cells #[.int .i64 nx, .slice A n c] 28)) (.cells #[.int .i64 nx', .slice A' n' c'] 28); simpa [Bk] using h
  cases h : (nx == nx')
  · have hn1 : (nx != nx') = true := by simp [bne, h]
    go_enter Try.func17, Try.ntmps17
    go_wp2
    go_ret
    exact ⟨ret_bool (by simp [eqBb, h]), hb0⟩
  · have hn1 : (nx != nx') = false := by simp [bne, h]
    have hq : eqBb nx l nx' m = eqCs l m := by simp [eqBb, h]
    have HQ := Lib.hid hq; clear hq
    by_cases hnn : n = n'
    · subst hnn
      go_enter Try.func17, Try.ntmps17
      go_wp2_with fail
      generalize ((w.alloc (.cells #[.int .i64 nx, .slice A n c] 28)).alloc (.cells #[.int .i64 nx', .slice A' n c'] 28)) = w0 at hb0 hk0 hj0 ⊢
      have HK0 := Lib.hid hk0; have HJ0 := Lib.hid hj0; clear hk0 hj0
      go_loopw [5] (fun i wr => ∃ k : Nat, k ≤ n ∧ i = .int .i64 k ∧ (∀ j, j < k → l.getD j ck0 = m.getD j ck0) ∧ Below w.heap.size w wr ∧ Bk wr w.heap.size 28 #[.int .i64 nx, .slice A n c] ∧ Bk wr (w.heap.size + 1) 28 #[.int .i64 nx', .slice A' n c']) (fun i _ => n - (intOf i).toNat)
      case atStart => exact ⟨0, Nat.zero_le _, rfl, fun j hj => by omega, hb0, HK0.out, HJ0.out⟩
      case round =>
        obtain ⟨k, hk, rfl, he, hbw, hkw, hjw⟩ := hrel
        have HE := Lib.hid he; clear he
        clear hb0 HK0 HJ0
        obtain ⟨a0, a1⟩ := hkw.two
        obtain ⟨b0, b1⟩ := hjw.two
        have HK := Lib.hid hkw; have HJ := Lib.hid hjw; clear hkw hjw
        by_cases hlt : k < n
        · obtain ⟨b, off, x, y, rfl, hb, HX, c0, c1⟩ := (hr.below hbw hB).chk (k := k) (by rw [HL.out]; exact hlt)
          obtain ⟨b', off', x', y', rfl, hb', HX', d0, d1⟩ := (hs.below hbw hB).chk (k := k) (by rw [HM.out]; exact hlt)
          have p0 := cell_regrown a0
          have p1 := cell_regrown a1
          have q0 := cell_regrown b0
          have q1 := cell_regrown b1
          have k0 := cell_regrown c0
          have k1 := cell_regrown c1
          have e0 := cell_regrown d0
          have e1 := cell_regrown d1
          have hne := run_neq_chk x y x' y'
          cases hqq : eqCb x y x' y'
          · rw [hqq] at hne
            go_wp2
            refine wp_region_quiet_below (by kernel_rfl) (by kernel_rfl) ?_
            repeat (go_big_quiet_step ((fail)))
            refine wpQuiet_nil ?_
            intro _ hw'
            obtain ⟨⟨dq, osq⟩, hw''⟩ := hw'
            subst hw''
            have hb2 := below_next hbw hbw.size (below_regrown wr dq osq)
            have HK2 := Lib.hid (HK.out.below (below_regrown wr dq osq) HK.out.lt)
            have HJ2 := Lib.hid (HJ.out.below (below_regrown wr dq osq) HJ.out.lt)
            generalize grow (redrawn wr dq) osq = w2 at hb2 HK2 HJ2 ⊢
            clear k0 k1 e0 e1 c0 c1 d0 d1 hbw p0 p1 q0 q1 a0 a1 b0 b1
            go_wp2
            go_ret
            exact ⟨ret_bool (by rw [HQ.out]; exact (getD_ne (by rw [HX.out, HX'.out]; exact eqCb_false hqq)).symm), hb2⟩
          · rw [hqq] at hne
            go_wp2
            refine wp_region_quiet_below (by kernel_rfl) (by kernel_rfl) ?_
            repeat (go_big_quiet_step ((fail)))
            refine wpQuiet_nil ?_
            intro _ hw'
            obtain ⟨⟨dq, osq⟩, hw''⟩ := hw'
            subst hw''
            have hb2 := below_next hbw hbw.size (below_regrown wr dq osq)
            have HK2 := Lib.hid (HK.out.below (below_regrown wr dq osq) HK.out.lt)
            have HJ2 := Lib.hid (HJ.out.below (below_regrown wr dq osq) HJ.out.lt)
            generalize grow (redrawn wr dq) osq = w2 at hb2 HK2 HJ2 ⊢
            clear k0 k1 e0 e1 c0 c1 d0 d1 hbw p0 p1 q0 q1 a0 a1 b0 b1
            go_wp2
            go_roundw
            case rel => exact ⟨k + 1, by omega, by go_num, fun j hj => by
              by_cases hj' : j < k
              · exact HE.out j hj'
              · obtain rfl : j = k := by omega
                rw [HX.out, HX'.out]; exact eqCb_true hqq, hb2, HK2.out, HJ2.out⟩
            case measure => simp [intOf]; omega
        · go_wp2
          go_ret
          exact ⟨ret_bool (by rw [HQ.out, list_eq_getD HL.out HM.out (fun j hj => HE.out j (by omega)), eqCs_self]), hbw⟩
    · have hnb : ((n : Int) != (n' : Int)) = true := by rw [bne_iff_ne]; omega
      go_enter Try.func17, Try.ntmps17
      go_wp2
      go_ret
      exact ⟨ret_bool (by symm; rw [HQ.out, Bool.eq_false_iff, ne_eq, eqCs_iff]; rintro rfl; exact hnn (HL.out.symm.trans HM.out)), hb0⟩
end Go.Proofs.Ytnndhkdigmkddaa
