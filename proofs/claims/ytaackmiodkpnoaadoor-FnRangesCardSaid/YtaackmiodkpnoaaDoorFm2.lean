/- FormatRanges of the program. No conditions. -/
import Derived.Test.YtaackmiodkpnoaaDoorFm1
namespace Go.Proofs.YtaackmiodkpnoaaDoor
open Go.ChangeShapes Go.WideShapes Go.ChangeAt Go.RowKit Go.Sort RM
set_option linter.unusedVariables false
set_option linter.unusedSimpArgs false
theorem app4 (a b c d : ByteArray) : a ++ b ++ c ++ d = a ++ (b ++ c ++ d) := by rw [ByteArray.append_assoc, ByteArray.append_assoc, ByteArray.append_assoc]
theorem iFmtI (z : Int) (h : I64 z) (W : World) (ht : Tab W) : Calls Tryd.prog 30 #[.int .i64 z] W fun e w' => e = .returned (.string (itB z)) ∧ Below W.heap.size W w' := iFmt z h.1 h.2 W ht
set_option maxRecDepth 20000 in
set_option maxHeartbeats 4000000 in
theorem iFR {A : Option Addr} {c n : Nat} {w : World} {B : Nat} {l : List R} (hB : B ≤ w.heap.size) (hr : Rd w B A (encR l)) (hm : n ≤ 1048576) (HL : Hid (l.length = n)) (HB : Hid (BdR l)) (ht : Tab w) :
    Calls Tryd.prog 8 #[.slice A n c] w fun e w' => e = .returned (.string (fmtR l)) ∧ Below w.heap.size w w' := by
  by_cases hn0 : n = 0
  · subst hn0
    have HE := Lib.hid (show fmtR l = ⟨#[110, 111, 110, 101]⟩ by unfold fmtR; rw [if_pos HL.out])
    go_enter Tryd.func8, Tryd.ntmps8
    go_wp2
    go_ret
    exact ⟨ret_str HE.out.symm, Below.refl _ _⟩
  have hnz : ((n : Int) == 0) = false := by simp; omega
  go_enter Tryd.func8, Tryd.ntmps8
  go_wp2
  go_loopw [3, 11] (fun s i wr => ∃ (k : Nat) (S : ByteArray), k ≤ n ∧ i = .int .i64 k ∧ s = .string S ∧ Hid (fmtJ l k = S) ∧ Below w.heap.size w wr) (fun s i _ => n - (intOf i).toNat)
  case atStart => exact ⟨0, ⟨#[]⟩, Nat.zero_le _, rfl, rfl, rfl, Below.refl _ _⟩
  case round =>
    obtain ⟨k, S, hk, rfl, rfl, HS, hbw⟩ := hrel
    have hss := fmtJ_size HB.out k (by rw [HL.out]; exact hk)
    rw [HS.out] at hss
    obtain ⟨hs1, hs2⟩ := hss
    by_cases hlt : k < n
    · obtain ⟨b, off, x, y, rfl, hb, HX, c0, c1⟩ := (hr.below hbw hB).rng (k := k) (by rw [HL.out]; exact hlt)
      obtain ⟨bx, bY⟩ := HB.out.at HL.out hlt HX.out
      have zx := itB_size bx
      have zy := itB_size bY
      have hbw0 := hbw
      have hbw := hbw0.alloc hbw0.size (.cells #[.int .i64 x, .int .i64 y] 32)
      have hA := cell_new2 wr (.int .i64 x) (.int .i64 y) 32
      have k0 := cell_regrown hA.1
      have k1 := cell_regrown hA.2
      clear hA
      have htw := ht.below hbw ht.lt
      have HT := Lib.hid htw; clear htw
      have htd := fun d os => HT.out.below (below_regrown _ d os) HT.out.lt
      have zxy : (itB x ++ (⟨#[45]⟩ : ByteArray)).size = (itB x).size + 1 := by rw [ByteArray.size_append]; rfl
      have zxyy : (itB x ++ (⟨#[45]⟩ : ByteArray) ++ itB y).size = (itB x).size + 1 + (itB y).size := by rw [ByteArray.size_append, zxy]
      by_cases hk0 : 0 < k
      · have HN := Lib.hid (fmtJ_more hk0 HX.out)
        rw [HS.out, app4] at HN
        have hd : decide ((0 : Int) < (k : Int)) = true := by simp; omega
        have hdn : decide (0 < k) = true := by simp; omega
        have zz : (S ++ (⟨#[32]⟩ : ByteArray)).size = S.size + 1 := by rw [ByteArray.size_append]; rfl
        obtain ⟨S1, hS1⟩ : ∃ S1, S ++ (⟨#[32]⟩ : ByteArray) = S1 := ⟨_, rfl⟩
        rw [hS1] at HN zz
        go_wp2
        refine wp_region_quiet_below (by kernel_rfl) (by kernel_rfl) ?_
        repeat (go_big_quiet_step ((go_at_call 30; exact Calls.regrown_of (iFmtI _ (by assumption) _ (htd _ _)))))
        refine wpQuiet_nil ?_
        intro _ hw'
        obtain ⟨⟨dq, osq⟩, hw''⟩ := hw'
        subst hw''
        have hb2 := below_next hbw hbw.size (below_regrown _ dq osq)
        generalize grow (redrawn _ dq) osq = w2 at hb2 ⊢
        clear k0 k1 c0 c1
        go_wp2
        go_roundw
        case rel => exact ⟨k + 1, _, by omega, by go_num, rfl, HN, hb2⟩
        case measure => simp [intOf]; omega
      · have HN := Lib.hid (fmtJ_first hk0 HX.out)
        rw [HS.out, app4] at HN
        have hd : decide ((0 : Int) < (k : Int)) = false := by simp; omega
        have hdn : decide (0 < k) = false := by simp; omega
        go_wp2
        refine wp_region_quiet_below (by kernel_rfl) (by kernel_rfl) ?_
        repeat (go_big_quiet_step ((go_at_call 30; exact Calls.regrown_of (iFmtI _ (by assumption) _ (htd _ _)))))
        refine wpQuiet_nil ?_
        intro _ hw'
        obtain ⟨⟨dq, osq⟩, hw''⟩ := hw'
        subst hw''
        have hb2 := below_next hbw hbw.size (below_regrown _ dq osq)
        generalize grow (redrawn _ dq) osq = w2 at hb2 ⊢
        clear k0 k1 c0 c1
        go_wp2
        go_roundw
        case rel => exact ⟨k + 1, _, by omega, by go_num, rfl, HN, hb2⟩
        case measure => simp [intOf]; omega
    · obtain rfl : k = n := by omega
      have HE := Lib.hid (show fmtR l = S by unfold fmtR; rw [HL.out, if_neg hn0, HS.out])
      go_wp2
      go_ret
      exact ⟨ret_str HE.out.symm, hbw⟩
end Go.Proofs.YtaackmiodkpnoaaDoor
