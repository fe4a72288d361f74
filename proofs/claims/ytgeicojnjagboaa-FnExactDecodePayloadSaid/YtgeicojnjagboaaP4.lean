/- EncodePayload of both packages. No conditions. -/
import Derived.Test.YtgeicojnjagboaaP3
namespace Go.Proofs.Ytgeicojnjagboaa
open Go.ChangeShapes Go.WideShapes Go.ChangeAt Go.RowKit Go.Sort QM
set_option linter.unusedVariables false
set_option linter.unusedSimpArgs false
set_option maxHeartbeats 2000000 in
theorem sEP {A : Option Addr} {c n : Nat} {w : World} {B : Nat} {l : List Fr} (hB : B ≤ w.heap.size) (hr : Rd w B A (encF9 l)) (hm : n ≤ 1048576) (HL : Hid (l.length = n)) (HD : Hid (∀ j, j < n → (l.getD j fr0).d.size ≤ 1048576)) :
    Calls Try.prog 66 #[.slice A n c] w fun e w' => e = .returned (.string (epB l)) ∧ Below w.heap.size w w' := by
  go_enter Try.func66, Try.ntmps66
  go_wp2
  go_loopw [3, 4] (fun s i wr => ∃ k : Nat, k ≤ n ∧ i = .int .i64 k ∧ s = .string (jF l k) ∧ (∀ j, j < k → okF (l.getD j fr0) = true) ∧ Below w.heap.size w wr) (fun s i _ => n - (intOf i).toNat)
  case atStart => exact ⟨0, Nat.zero_le _, rfl, by rw [jF_zero], fun j hj => by omega, Below.refl _ _⟩
  case round =>
    obtain ⟨k, hk, rfl, rfl, he, hbw⟩ := hrel
    have HE := Lib.hid he; clear he
    have hz := jF_size l k (by rw [HL.out]; omega) (by rw [HL.out]; exact HD.out)
    by_cases hlt : k < n
    · obtain ⟨b, off, f, rfl, hb, HX, c0, c1, c2, c3, c4, c5, c6, c7, c8⟩ := (hr.below hbw hB).frm (k := k) (by rw [HL.out]; exact hlt)
      have hd := HD.out k hlt
      rw [HX.out] at hd
      have hz1 := encOf_size f
      have hsu := jF_succ l k (by rw [HL.out]; exact hlt)
      rw [HX.out] at hsu
      have HSU := Lib.hid hsu; clear hsu
      have hc := sEncF f.a f.b f.c f.d f.e f.g f.l f.m f.u hd wr
      rw [show encFB f.a f.b f.c f.d f.e f.g f.l f.m f.u = encOf f from rfl] at hc
      cases hq : okF f
      · have hs0 : (encOf f).toList.isEmpty = true := by rw [encOf_out hq]; decide +kernel
        go_wp2_with fail
        refine hc.mono ?_
        rintro e w1 ⟨rfl, hb1⟩
        replace hb1 := below_next hbw hbw.size hb1
        clear c0 c1 c2 c3 c4 c5 c6 c7 c8
        go_wp2
        go_ret
        exact ⟨ret_str (epB_out (by rw [HL.out]; exact hlt) HX.out hq).symm, hb1⟩
      · have hs0 : (encOf f).toList.isEmpty = false := by rw [isEmpty_size, decide_eq_false_iff_not]; have := encOf_pos hq; omega
        have HE2 := Lib.hid (show ∀ j, j < k + 1 → okF (l.getD j fr0) = true from fun j hj => by
          by_cases hj' : j < k
          · exact HE.out j hj'
          · obtain rfl : j = k := by omega
            rw [HX.out]; exact hq)
        go_wp2_with fail
        refine hc.mono ?_
        rintro e w1 ⟨rfl, hb1⟩
        replace hb1 := below_next hbw hbw.size hb1
        clear c0 c1 c2 c3 c4 c5 c6 c7 c8 hc
        generalize encOf f = Y at hz1 hs0 HSU ⊢
        go_wp2
        go_roundw
        case rel => exact ⟨k + 1, by omega, by go_num, by rw [HSU.out], HE2.out, hb1⟩
        case measure => simp [intOf]; omega
    · obtain rfl : k = n := by omega
      have hin := fun h => epB_in HL.out HE.out h
      have hout := fun h => epB_long (l := l) (k := k) (by rw [HL.out]; omega) h
      have HI := Lib.hid hin; have HO := Lib.hid hout; clear hin hout
      generalize jF l k = X at HI HO hz ⊢
      by_cases hs : 400 < X.size
      · have hs1 : decide ((400 : Int) < (X.size : Int)) = true := by simp; omega
        go_wp2
        go_ret
        exact ⟨ret_str (HO.out hs).symm, hbw⟩
      · have hs1 : decide ((400 : Int) < (X.size : Int)) = false := by simp; omega
        go_wp2
        go_ret
        exact ⟨ret_str (HI.out (by omega)).symm, hbw⟩
set_option maxHeartbeats 2000000 in
theorem iEP {A : Option Addr} {c n : Nat} {w : World} {B : Nat} {l : List Fr} (hB : B ≤ w.heap.size) (hr : Rd w B A (encF9 l)) (hm : n ≤ 1048576) (HL : Hid (l.length = n)) (HD : Hid (∀ j, j < n → (l.getD j fr0).d.size ≤ 1048576)) :
    Calls Try.prog 65 #[.slice A n c] w fun e w' => e = .returned (.string (epB l)) ∧ Below w.heap.size w w' := by
  go_enter Try.func65, Try.ntmps65
  go_wp2
  go_loopw [3, 8] (fun s i wr => ∃ k : Nat, k ≤ n ∧ i = .int .i64 k ∧ s = .string (jF l k) ∧ (∀ j, j < k → okF (l.getD j fr0) = true) ∧ (jF l k).size ≤ 400 ∧ Below w.heap.size w wr) (fun s i _ => n - (intOf i).toNat)
  case atStart => exact ⟨0, Nat.zero_le _, rfl, by rw [jF_zero], fun j hj => by omega, by rw [jF_zero]; exact Nat.zero_le _, Below.refl _ _⟩
  case round =>
    obtain ⟨k, hk, rfl, rfl, he, hz, hbw⟩ := hrel
    have HE := Lib.hid he; clear he
    by_cases hlt : k < n
    · obtain ⟨b, off, f, rfl, hb, HX, c0, c1, c2, c3, c4, c5, c6, c7, c8⟩ := (hr.below hbw hB).frm (k := k) (by rw [HL.out]; exact hlt)
      have hd := HD.out k hlt
      rw [HX.out] at hd
      have hz1 := encOf_size f
      have hsu := jF_succ l k (by rw [HL.out]; exact hlt)
      rw [HX.out] at hsu
      have HSU := Lib.hid hsu; clear hsu
      have hc := fun W => iEncF f.a f.b f.c f.d f.e f.g f.l f.m f.u hd W
      rw [show encFB f.a f.b f.c f.d f.e f.g f.l f.m f.u = encOf f from rfl] at hc
      have hci := fun W => iIs f.a f.b f.c f.d f.e f.g f.l f.m f.u hd W
      rw [show isFB f.a f.b f.c f.d f.e f.g f.l f.m f.u = okF f from rfl] at hci
      have hbw0 := hbw.alloc hbw.size (.cells #[.int .i64 f.a, .int .i64 f.b, .int .i64 f.c, .string f.d, .bool f.e, .int .i64 f.g, .int .i64 f.l, .int .i64 f.m, .bool f.u] 23)
      have hk0 : Bk (wr.alloc (.cells #[.int .i64 f.a, .int .i64 f.b, .int .i64 f.c, .string f.d, .bool f.e, .int .i64 f.g, .int .i64 f.l, .int .i64 f.m, .bool f.u] 23)) wr.heap.size 23 #[.int .i64 f.a, .int .i64 f.b, .int .i64 f.c, .string f.d, .bool f.e, .int .i64 f.g, .int .i64 f.l, .int .i64 f.m, .bool f.u] := heap_alloc_new wr _
      cases hq : okF f
      · rw [hq] at hci
        go_wp2_with fail
        refine (hci _).mono ?_
        rintro e w1 ⟨rfl, hb1⟩
        replace hb1 := below_next hbw0 hbw0.size hb1
        clear c0 c1 c2 c3 c4 c5 c6 c7 c8 hk0 hbw0
        go_wp2
        go_ret
        exact ⟨ret_str (epB_out (by rw [HL.out]; exact hlt) HX.out hq).symm, hb1⟩
      · rw [hq] at hci
        have HE2 := Lib.hid (show ∀ j, j < k + 1 → okF (l.getD j fr0) = true from fun j hj => by
          by_cases hj' : j < k
          · exact HE.out j hj'
          · obtain rfl : j = k := by omega
            rw [HX.out]; exact hq)
        have HO := Lib.hid (fun h => epB_long (l := l) (k := k + 1) (by rw [HL.out]; omega) h)
        rw [HSU.out] at HO
        go_wp2_with fail
        refine (hci _).mono ?_
        rintro e w1 ⟨rfl, hb1⟩
        obtain ⟨k0, k1, k2, k3, k4, k5, k6, k7, k8⟩ := (hk0.below hb1 hk0.lt).nine
        replace hb1 := below_next hbw0 hbw0.size hb1
        clear c0 c1 c2 c3 c4 c5 c6 c7 c8 hk0 hbw0 hci
        go_wp2_with fail
        refine (hc _).mono ?_
        rintro e w2 ⟨rfl, hb2⟩
        replace hb2 := below_next hb1 hb1.size hb2
        clear k0 k1 k2 k3 k4 k5 k6 k7 k8 hc hb1 hbw
        generalize encOf f = Y at hz1 HSU HO ⊢
        generalize hX : jF l k = X at hz HSU HO ⊢
        have hsz : (X ++ Y).size = X.size + Y.size := ByteArray.size_append
        obtain ⟨Z, hZ⟩ : ∃ Z, X ++ Y = Z := ⟨_, rfl⟩
        by_cases hs : 400 < Z.size
        · have hs1 : decide ((400 : Int) < (Z.size : Int)) = true := by simp; omega
          have hs2 : decide ((400 : Int) < ((X ++ Y).size : Int)) = true := by rw [hZ]; exact hs1
          go_wp2
          go_ret
          exact ⟨ret_str (HO.out (by rw [hZ]; exact hs)).symm, hb2⟩
        · have hs1 : decide ((400 : Int) < (Z.size : Int)) = false := by simp; omega
          have hs2 : decide ((400 : Int) < ((X ++ Y).size : Int)) = false := by rw [hZ]; exact hs1
          go_wp2
          go_roundw
          case rel => exact ⟨k + 1, by omega, by go_num, by rw [HSU.out]; first | done | rfl | (rw [hZ]), HE2.out, by rw [HSU.out, hZ]; omega, hb2⟩
          case measure => simp [intOf]; omega
    · go_wp2
      go_ret
      obtain rfl : k = n := by omega
      exact ⟨ret_str (epB_in HL.out HE.out hz).symm, hbw⟩
end Go.Proofs.Ytgeicojnjagboaa
