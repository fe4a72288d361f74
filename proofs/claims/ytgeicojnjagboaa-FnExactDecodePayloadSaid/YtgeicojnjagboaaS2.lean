/- The marks of slices of frames: markFrameS, heldFrameS. No conditions. -/
import Derived.Test.YtgeicojnjagboaaP5
namespace Go.Proofs.Ytgeicojnjagboaa
open Go.ChangeShapes Go.WideShapes Go.ChangeAt Go.RowKit Go.Sort
set_option linter.unusedVariables false
set_option linter.unusedSimpArgs false
set_option maxRecDepth 20000 in
set_option maxHeartbeats 4000000 in
theorem markFrameS_any {A : Option Addr} {c n base : Nat} {w : World} {l : List Fr} (k0 : Nat) (hown : w.ownsRow base 23 9 (.slice A n c) n (encF9 l)) (hbase : base ≤ w.heap.size) (hk0 : 0 < k0) (hk1 : k0 ≤ 1152921504606846976) (hm : n ≤ 1099511627776) :
    Calls Try.prog 15 #[.slice A n c, .int .i64 k0] w fun e w' => e = .returned (.int .i64 ((k0 + 9 * n : Nat) : Int)) ∧ w'.ownsRow base 23 9 (.slice A n c) n (encF9 (mkF k0 n)) ∧ w.grownBy w' (Value.slice A n c).ownBlock := by
  rcases hown.2 with ⟨hv, hn⟩ | ⟨g, cap, cur, hv, hbg, hg, hnc, hcm, hcs, _⟩
  · injection hv with e1 e2 e3
    subst hn e1 e3
    have hownn := World.ownsRow_nil w base 23 9
    clear hown
    go_enter Try.func15, Try.ntmps15
    go_wp2
    go_loop [1, 5] (fun s i => s = .int .i64 k0 ∧ i = .int .i64 0) (fun _ _ => 0)
    case atStart => exact ⟨rfl, rfl⟩
    case round =>
      obtain ⟨rfl, rfl⟩ := hrel
      go_wp2
      go_ret
      exact ⟨ret_int (by simp), hownn, grown_refl _ _⟩
  · injection hv with e1 e2 e3
    subst e1 e3
    clear hown
    have HCS0 := Lib.hid hcs; clear hcs
    have HG := Lib.hid (show Bk w g 23 cur from hg); clear hg
    go_enter Try.func15, Try.ntmps15
    go_wp2
    go_loopw [1, 5] (fun s i wr => ∃ (k : Nat) (cs : Array Value), k ≤ n ∧ i = .int .i64 k ∧ s = .int .i64 ((k0 + 9 * k : Nat) : Int) ∧ Bk wr g 23 cs ∧ cs.size = c * 9 ∧ Hd cs (k * 9) (encF9 (mkF k0 n)) ∧ w.grownBy wr (some g)) (fun s i _ => n - (intOf i).toNat)
    case atStart => exact ⟨0, cur, Nat.zero_le _, rfl, by simp, HG.out, HCS0.out, fun j hj => by omega, grown_refl _ _⟩
    case round =>
      obtain ⟨k, cs, hk, rfl, rfl, hbk, hcs, hh, hgr⟩ := hrel
      have HBK := Lib.hid hbk; clear hbk
      have HCS := Lib.hid hcs; clear hcs
      have HH := Lib.hid hh; clear hh
      by_cases hlt : k < n
      · have hg1 : k * 9 + 8 < cs.size := by rw [HCS.out]; omega
        have HK := Lib.hid (show ∀ i u, i < 9 → (frC (mkFr (k0 + 9 * k)))[i]? = some u → (encF9 (mkF k0 n))[k * 9 + i]? = some u from fun i u hi hu => by
          have h := encF9_at (mkF k0 n) k i (by rw [mkF_len]; exact hlt) hi
          rw [mkF_get _ _ _ hlt] at h
          rw [show k * 9 + i = 9 * k + i by omega]
          exact h.trans hu)
        have hKb : k0 + 9 * k ≤ 1152921504606846976 * 2 := by omega
        have hKp : 0 < k0 + 9 * k := by omega
        obtain ⟨K, hK⟩ : ∃ K, k0 + 9 * k = K := ⟨_, rfl⟩
        have HKE := Lib.hid hK
        rw [hK] at HK hKb hKp ⊢
        clear hK
        have d0 : wr.cell? ⟨g, k * 9, none⟩ = some (cs[k * 9]'(by omega)) := by rw [HBK.out.cell, Array.getElem?_eq_getElem]
        have d1 : wr.cell? ⟨g, k * 9 + 1, none⟩ = some (cs[k * 9 + 1]'(by omega)) := by rw [HBK.out.cell, Array.getElem?_eq_getElem]
        have d2 : wr.cell? ⟨g, k * 9 + 2, none⟩ = some (cs[k * 9 + 2]'(by omega)) := by rw [HBK.out.cell, Array.getElem?_eq_getElem]
        have f0 := HBK.out.frozen
        generalize cs[k * 9]'(by omega) = o0 at d0
        generalize cs[k * 9 + 1]'(by omega) = o1 at d1
        generalize cs[k * 9 + 2]'(by omega) = o2 at d2
        have hbk1 := (((HBK.out.set_ (k * 9) (.int .i64 ((K : Int)))).set_ (k * 9 + 1) (.int .i64 ((K : Int) + 1))).set_ (k * 9 + 2) (.int .i64 ((K : Int) + 1 + 1)))
        have hgr1 := (only_setCell (only_setCell (only_setCell hgr (k * 9) (.int .i64 ((K : Int)))) (k * 9 + 1) (.int .i64 ((K : Int) + 1))) (k * 9 + 2) (.int .i64 ((K : Int) + 1 + 1)))
        have hcs1 : (((cs.setIfInBounds (k * 9) (.int .i64 ((K : Int)))).setIfInBounds (k * 9 + 1) (.int .i64 ((K : Int) + 1))).setIfInBounds (k * 9 + 2) (.int .i64 ((K : Int) + 1 + 1))).size = cs.size := by simp
        go_wp2_with fail
        refine (markText_int _ (K + 3) (by push_cast; omega) (by omega) (by omega) _).mono ?_
        rintro e w1 ⟨rfl, hb1⟩
        have hbk2 := hbk1.below hb1 hbk1.lt
        have hgr2 := gb_below hgr1 hb1
        clear d0 d1 d2 f0 hbk1 hgr1 hb1
        obtain ⟨cs1, hcs1e⟩ : ∃ cs1, (((cs.setIfInBounds (k * 9) (.int .i64 ((K : Int)))).setIfInBounds (k * 9 + 1) (.int .i64 ((K : Int) + 1))).setIfInBounds (k * 9 + 2) (.int .i64 ((K : Int) + 1 + 1))) = cs1 := ⟨_, rfl⟩
        have HCE := Lib.hid hcs1e
        rw [hcs1e] at hcs1 hbk2
        clear hcs1e
        obtain ⟨M, hM⟩ : ∃ M, mT ((K + 3 : Nat) : Int) = M := ⟨_, rfl⟩
        have HM := Lib.hid hM
        rw [hM]
        clear hM
        have d3 : w1.cell? ⟨g, k * 9 + 3, none⟩ = some (cs1[k * 9 + 3]'(by omega)) := by rw [hbk2.cell, Array.getElem?_eq_getElem]
        have d4 : w1.cell? ⟨g, k * 9 + 4, none⟩ = some (cs1[k * 9 + 4]'(by omega)) := by rw [hbk2.cell, Array.getElem?_eq_getElem]
        have d5 : w1.cell? ⟨g, k * 9 + 5, none⟩ = some (cs1[k * 9 + 5]'(by omega)) := by rw [hbk2.cell, Array.getElem?_eq_getElem]
        have d6 : w1.cell? ⟨g, k * 9 + 6, none⟩ = some (cs1[k * 9 + 6]'(by omega)) := by rw [hbk2.cell, Array.getElem?_eq_getElem]
        have d7 : w1.cell? ⟨g, k * 9 + 7, none⟩ = some (cs1[k * 9 + 7]'(by omega)) := by rw [hbk2.cell, Array.getElem?_eq_getElem]
        have d8 : w1.cell? ⟨g, k * 9 + 8, none⟩ = some (cs1[k * 9 + 8]'(by omega)) := by rw [hbk2.cell, Array.getElem?_eq_getElem]
        generalize cs1[k * 9 + 3]'(by omega) = o3 at d3
        generalize cs1[k * 9 + 4]'(by omega) = o4 at d4
        generalize cs1[k * 9 + 5]'(by omega) = o5 at d5
        generalize cs1[k * 9 + 6]'(by omega) = o6 at d6
        generalize cs1[k * 9 + 7]'(by omega) = o7 at d7
        generalize cs1[k * 9 + 8]'(by omega) = o8 at d8
        have f0 := hbk2.frozen
        have HBK2 := Lib.hid hbk2; have HGR2 := Lib.hid hgr2
        clear hbk2 hgr2
        have q0 := Lib.hid (show (encF9 (mkF k0 n))[k * 9]? = some (.int .i64 ((K : Int))) from (HK.out 0 _ (by decide) rfl).trans (by show some (Value.int .i64 ((K + 0 : Nat) : Int)) = _; first | rfl | (congr 2; omega)))
        have q1 := Lib.hid (show (encF9 (mkF k0 n))[k * 9 + 1]? = some (.int .i64 ((K : Int) + 1)) from (HK.out 1 _ (by decide) rfl).trans (by show some (Value.int .i64 ((K + 1 : Nat) : Int)) = _; first | rfl | (congr 2; omega)))
        have q2 := Lib.hid (show (encF9 (mkF k0 n))[k * 9 + 2]? = some (.int .i64 ((K : Int) + 1 + 1)) from (HK.out 2 _ (by decide) rfl).trans (by show some (Value.int .i64 ((K + 2 : Nat) : Int)) = _; first | rfl | (congr 2; omega)))
        have q3 := Lib.hid (show (encF9 (mkF k0 n))[k * 9 + 3]? = some (.string M) from (HK.out 3 _ (by decide) rfl).trans (by show some (Value.string (mT _)) = _; rw [HM.out]))
        have q4 := Lib.hid (show (encF9 (mkF k0 n))[k * 9 + 4]? = some (.bool (((K : Int) + 1 + 1 + 1 + 1) % 3 == 0)) from (HK.out 4 _ (by decide) rfl).trans (by show some (Value.bool (decide ((K + 4) % 3 = 0))) = _; congr 2; rw [Bool.eq_iff_iff]; simp; omega))
        have q5 := Lib.hid (show (encF9 (mkF k0 n))[k * 9 + 5]? = some (.int .i64 ((K : Int) + 1 + 1 + 1 + 1 + 1)) from (HK.out 5 _ (by decide) rfl).trans (by show some (Value.int .i64 ((K + 5 : Nat) : Int)) = _; first | rfl | (congr 2; omega)))
        have q6 := Lib.hid (show (encF9 (mkF k0 n))[k * 9 + 6]? = some (.int .i64 ((K : Int) + 1 + 1 + 1 + 1 + 1 + 1)) from (HK.out 6 _ (by decide) rfl).trans (by show some (Value.int .i64 ((K + 6 : Nat) : Int)) = _; first | rfl | (congr 2; omega)))
        have q7 := Lib.hid (show (encF9 (mkF k0 n))[k * 9 + 7]? = some (.int .i64 ((K : Int) + 1 + 1 + 1 + 1 + 1 + 1 + 1)) from (HK.out 7 _ (by decide) rfl).trans (by show some (Value.int .i64 ((K + 7 : Nat) : Int)) = _; first | rfl | (congr 2; omega)))
        have q8 := Lib.hid (show (encF9 (mkF k0 n))[k * 9 + 8]? = some (.bool (((K : Int) + 1 + 1 + 1 + 1 + 1 + 1 + 1 + 1) % 3 == 0)) from (HK.out 8 _ (by decide) rfl).trans (by show some (Value.bool (decide ((K + 8) % 3 = 0))) = _; congr 2; rw [Bool.eq_iff_iff]; simp; omega))
        have HH3 := HH.out.set9 hg1 q0.out q1.out q2.out q3.out q4.out q5.out q6.out q7.out q8.out
        rw [HCE.out] at HH3
        have hgr3 := Lib.hid (only_setCell (only_setCell (only_setCell (only_setCell (only_setCell (only_setCell HGR2.out (k * 9 + 3) (.string M)) (k * 9 + 4) (.bool (((K : Int) + 1 + 1 + 1 + 1) % 3 == 0))) (k * 9 + 5) (.int .i64 ((K : Int) + 1 + 1 + 1 + 1 + 1))) (k * 9 + 6) (.int .i64 ((K : Int) + 1 + 1 + 1 + 1 + 1 + 1))) (k * 9 + 7) (.int .i64 ((K : Int) + 1 + 1 + 1 + 1 + 1 + 1 + 1))) (k * 9 + 8) (.bool (((K : Int) + 1 + 1 + 1 + 1 + 1 + 1 + 1 + 1) % 3 == 0)))
        obtain ⟨csF, hbkF, hszF, hhF⟩ : ∃ csF, Bk ((((((w1.setCell ⟨g, k * 9 + 3, none⟩ (.string M)).setCell ⟨g, k * 9 + 4, none⟩ (.bool (((K : Int) + 1 + 1 + 1 + 1) % 3 == 0))).setCell ⟨g, k * 9 + 5, none⟩ (.int .i64 ((K : Int) + 1 + 1 + 1 + 1 + 1))).setCell ⟨g, k * 9 + 6, none⟩ (.int .i64 ((K : Int) + 1 + 1 + 1 + 1 + 1 + 1))).setCell ⟨g, k * 9 + 7, none⟩ (.int .i64 ((K : Int) + 1 + 1 + 1 + 1 + 1 + 1 + 1))).setCell ⟨g, k * 9 + 8, none⟩ (.bool (((K : Int) + 1 + 1 + 1 + 1 + 1 + 1 + 1 + 1) % 3 == 0))) g 23 csF ∧ csF.size = c * 9 ∧ Hd csF (k * 9 + 9) (encF9 (mkF k0 n)) := ⟨_, ((((((HBK2.out.set_ (k * 9 + 3) (.string M)).set_ (k * 9 + 4) (.bool (((K : Int) + 1 + 1 + 1 + 1) % 3 == 0))).set_ (k * 9 + 5) (.int .i64 ((K : Int) + 1 + 1 + 1 + 1 + 1))).set_ (k * 9 + 6) (.int .i64 ((K : Int) + 1 + 1 + 1 + 1 + 1 + 1))).set_ (k * 9 + 7) (.int .i64 ((K : Int) + 1 + 1 + 1 + 1 + 1 + 1 + 1))).set_ (k * 9 + 8) (.bool (((K : Int) + 1 + 1 + 1 + 1 + 1 + 1 + 1 + 1) % 3 == 0))), by simp [hcs1, HCS.out], HH3⟩
        have HBKF := Lib.hid hbkF; have HHF := Lib.hid hhF
        clear q0 q1 q2 q3 q4 q5 q6 q7 q8 HBK2 HK HH HH3 hbkF hhF HCE HGR2 HBK
        have hval : ((K : Int) + 1 + 1 + 1 + 1 + 1 + 1 + 1 + 1 + 1) = ((k0 + 9 * (k + 1) : Nat) : Int) := by have := HKE.out; omega
        have HVAL := Lib.hid hval; clear hval
        go_wp2_with fail
        go_roundw
        case rel => exact ⟨k + 1, csF, by omega, by go_num, by rw [HVAL.out], HBKF.out, hszF, by rw [Nat.add_mul]; exact HHF.out, hgr3.out⟩
        case measure => simp [intOf]; omega
      · go_wp2
        go_ret
        obtain rfl : k = n := by omega
        exact ⟨rfl, Hd.own HBK.out HH.out (by rw [encF9_len, mkF_len, Nat.mul_comm]) HCS.out hnc hcm hbg, hgr⟩
set_option maxRecDepth 20000 in
set_option maxHeartbeats 4000000 in
theorem heldFrameS_any {A : Option Addr} {c n B : Nat} {w : World} (k0 : Nat) (hr : Rd w B A (encF9 (mkF k0 n))) (hB : B ≤ w.heap.size) (hk0 : 0 < k0) (hk1 : k0 ≤ 1152921504606846976) (hm : n ≤ 1099511627776) :
    Calls Try.prog 16 #[.slice A n c, .int .i64 k0] w fun e w' => e = .returned (.int .i64 ((k0 + 9 * n : Nat) : Int)) ∧ Below w.heap.size w w' := by
  go_enter Try.func16, Try.ntmps16
  go_wp2
  go_loopw [1, 5] (fun s i wr => ∃ (k : Nat), k ≤ n ∧ i = .int .i64 k ∧ s = .int .i64 ((k0 + 9 * k : Nat) : Int) ∧ Below w.heap.size w wr) (fun s i _ => n - (intOf i).toNat)
  case atStart => exact ⟨0, Nat.zero_le _, rfl, by simp, Below.refl _ _⟩
  case round =>
    obtain ⟨k, hk, rfl, rfl, hbw⟩ := hrel
    by_cases hlt : k < n
    · obtain ⟨b, off, f, rfl, hb, HX, c0, c1, c2, c3, c4, c5, c6, c7, c8⟩ := (hr.below hbw hB).frm (k := k) (by rw [mkF_len]; exact hlt)
      have hf := HX.out
      rw [mkF_get _ _ _ hlt] at hf
      subst hf
      clear HX
      have hKb : k0 + 9 * k ≤ 1152921504606846976 * 2 := by omega
      have hKp : 0 < k0 + 9 * k := by omega
      obtain ⟨K, hK⟩ : ∃ K, k0 + 9 * k = K := ⟨_, rfl⟩
      have HKE := Lib.hid hK
      rw [hK] at c0 c1 c2 c3 c4 c5 c6 c7 c8 hKb hKp ⊢
      clear hK
      obtain ⟨M, hM⟩ : ∃ M, mT ((K + 3 : Nat) : Int) = M := ⟨_, rfl⟩
      have hMT : ∀ W : World, Calls Try.prog 74 #[.int .i64 ((K : Int) + 1 + 1 + 1)] W fun e w' => e = .returned (.string M) ∧ Below W.heap.size W w' := fun W => by rw [← hM]; exact markText_int _ (K + 3) (by push_cast; omega) (by omega) (by omega) W
      replace c0 : wr.cell? ⟨b, off + k * 9, none⟩ = some (.int .i64 ((K : Int))) := c0.trans (by show some (Value.int .i64 ((K + 0 : Nat) : Int)) = _; first | rfl | (congr 2; omega))
      replace c1 : wr.cell? ⟨b, off + k * 9 + 1, none⟩ = some (.int .i64 ((K : Int) + 1)) := c1.trans (by show some (Value.int .i64 ((K + 1 : Nat) : Int)) = _; first | rfl | (congr 2; omega))
      replace c2 : wr.cell? ⟨b, off + k * 9 + 2, none⟩ = some (.int .i64 ((K : Int) + 1 + 1)) := c2.trans (by show some (Value.int .i64 ((K + 2 : Nat) : Int)) = _; first | rfl | (congr 2; omega))
      replace c3 : wr.cell? ⟨b, off + k * 9 + 3, none⟩ = some (.string M) := c3.trans (by show some (Value.string (mT _)) = _; rw [hM])
      replace c4 : wr.cell? ⟨b, off + k * 9 + 4, none⟩ = some (.bool (((K : Int) + 1 + 1 + 1 + 1) % 3 == 0)) := c4.trans (by show some (Value.bool (decide ((K + 4) % 3 = 0))) = _; congr 2; rw [Bool.eq_iff_iff]; simp; omega)
      replace c5 : wr.cell? ⟨b, off + k * 9 + 5, none⟩ = some (.int .i64 ((K : Int) + 1 + 1 + 1 + 1 + 1)) := c5.trans (by show some (Value.int .i64 ((K + 5 : Nat) : Int)) = _; first | rfl | (congr 2; omega))
      replace c6 : wr.cell? ⟨b, off + k * 9 + 6, none⟩ = some (.int .i64 ((K : Int) + 1 + 1 + 1 + 1 + 1 + 1)) := c6.trans (by show some (Value.int .i64 ((K + 6 : Nat) : Int)) = _; first | rfl | (congr 2; omega))
      replace c7 : wr.cell? ⟨b, off + k * 9 + 7, none⟩ = some (.int .i64 ((K : Int) + 1 + 1 + 1 + 1 + 1 + 1 + 1)) := c7.trans (by show some (Value.int .i64 ((K + 7 : Nat) : Int)) = _; first | rfl | (congr 2; omega))
      replace c8 : wr.cell? ⟨b, off + k * 9 + 8, none⟩ = some (.bool (((K : Int) + 1 + 1 + 1 + 1 + 1 + 1 + 1 + 1) % 3 == 0)) := c8.trans (by show some (Value.bool (decide ((K + 8) % 3 = 0))) = _; congr 2; rw [Bool.eq_iff_iff]; simp; omega)
      clear hM
      have r0 := cell_regrown c0
      have r1 := cell_regrown c1
      have r2 := cell_regrown c2
      have r3 := cell_regrown c3
      have r4 := cell_regrown c4
      have r5 := cell_regrown c5
      have r6 := cell_regrown c6
      have r7 := cell_regrown c7
      have r8 := cell_regrown c8
      have hval : ((K : Int) + 1 + 1 + 1 + 1 + 1 + 1 + 1 + 1 + 1) = ((k0 + 9 * (k + 1) : Nat) : Int) := by have := HKE.out; omega
      have HVAL := Lib.hid hval; clear hval
      go_wp2_with fail
      refine wp_region_quiet_below (by kernel_rfl) (by kernel_rfl) ?_
      repeat (go_big_quiet_step ((go_at_call 74; exact Calls.regrown_of (hMT _))))
      refine wpQuiet_nil ?_
      intro _ hw'
      obtain ⟨⟨dq, osq⟩, hw''⟩ := hw'
      subst hw''
      have hb2 := below_next hbw hbw.size (below_regrown wr dq osq)
      replace c4 := r4 dq osq
      replace c5 := r5 dq osq
      replace c6 := r6 dq osq
      replace c7 := r7 dq osq
      replace c8 := r8 dq osq
      generalize grow (redrawn wr dq) osq = w2 at hb2 c4 c5 c6 c7 c8 ⊢
      clear r0 r1 r2 r3 r4 r5 r6 r7 r8 c0 c1 c2 c3 hMT
      go_wp2_with fail
      go_roundw
      case rel => exact ⟨k + 1, by omega, by go_num, by rw [HVAL.out], hb2⟩
      case measure => simp [intOf]; omega
    · go_wp2
      go_ret
      obtain rfl : k = n := by omega
      exact ⟨rfl, hbw⟩
end Go.Proofs.Ytgeicojnjagboaa
