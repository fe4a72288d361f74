/- Contracts of CommonRanges of the reference. No conditions. -/
import Derived.Test.YtaackmiodkpnoaaRngF
import Derived.Deep.RegionHeld3
namespace Go.Proofs.Ytaackmiodkpnoaa
open Go.ChangeShapes Go.WideShapes Go.ChangeAt Go.RowKit Go.Sort RM
set_option linter.unusedVariables false
set_option maxRecDepth 20000 in
set_option maxHeartbeats 2000000 in
theorem sComNo {A A' : Option Addr} {c c' n n' : Nat} {w : World} {B : Nat} {a b : List R} (hB : B ≤ w.heap.size) (hr : Rd w B A (encR a)) (hs : Rd w B A' (encR b)) (hm : n ≤ 1048576) (hm' : n' ≤ 1048576) (HA : Hid (a.length = n)) (HB : Hid (b.length = n')) (hno : (isRs a && isRs b) = false) :
    Calls Try.prog 10 #[.slice A n c, .slice A' n' c'] w (OutR w []) := by
  have hown := own_empty w w.heap.size 31 2 (Nat.le_refl _)
  have hb1 : Below w.heap.size w (w.alloc (.cells #[] 31)) := (Below.refl _ _).alloc (Nat.le_refl _) _
  have HV0 : Hid (Own w (w.alloc (.cells #[] 31)) (.slice (some ⟨w.heap.size, 0, none⟩) 0 0) []) := ⟨hown, hb1⟩
  clear hown
  go_enter Try.func10, Try.ntmps10
  go_wp2
  generalize w.alloc (.cells #[] 31) = w1 at hb1 HV0 ⊢
  go_loopw [5, 6] (fun v i wr => i = .int .i64 0 ∧ Own w wr v []) (fun v i _ => 0)
  case atStart => exact ⟨rfl, HV0.out⟩
  case round =>
    obtain ⟨rfl, hinv⟩ := hrel
    have HV := Lib.hid hinv; clear hinv HV0 hb1
    by_cases hlt : 0 < n
    · have hd : decide ((0 : Int) < (n : Int)) = true := by simp; omega
      have hB1 : B ≤ wr.heap.size := Nat.le_trans hB HV.out.bel.size
      cases hI : isRs a
      · go_wp2_with fail
        refine (sIs (B := B) hB1 (hr.below HV.out.bel hB) (by omega) HA).mono ?_
        rintro e w2 ⟨rfl, hb2⟩
        have HV1 := Lib.hid (HV.out.below hb2)
        rw [hI]
        go_wp2
        go_ret
        exact HV1.out.fin
      · have hJ : isRs b = false := by rw [hI] at hno; simpa using hno
        go_wp2_with fail
        refine (sIs (B := B) hB1 (hr.below HV.out.bel hB) (by omega) HA).mono ?_
        rintro e w2 ⟨rfl, hb2⟩
        have HV1 := Lib.hid (HV.out.below hb2)
        have hB2 : B ≤ w2.heap.size := Nat.le_trans hB1 hb2.size
        rw [hI]
        go_wp2_with fail
        refine (sIs (B := B) hB2 (hs.below HV1.out.bel hB) (by omega) HB).mono ?_
        rintro e w3 ⟨rfl, hb3⟩
        have HV2 := Lib.hid (HV1.out.below hb3)
        rw [hJ]
        go_wp2
        go_ret
        exact HV2.out.fin
    · have hd : decide ((0 : Int) < (n : Int)) = false := by simp; omega
      go_wp2
      go_ret
      exact HV.out.fin
set_option maxRecDepth 20000 in
set_option maxHeartbeats 4000000 in
theorem sComYes {A A' : Option Addr} {c c' n n' : Nat} {w : World} {B : Nat} {a b : List R} (hB : B ≤ w.heap.size) (hr : Rd w B A (encR a)) (hs : Rd w B A' (encR b)) (hm : n ≤ 1048576) (hm' : n' ≤ 1048576) (HA : Hid (a.length = n)) (HB : Hid (b.length = n')) (HI : Hid (isRs a = true)) (HJ : Hid (isRs b = true)) :
    Calls Try.prog 10 #[.slice A n c, .slice A' n' c'] w (OutR w (a.flatMap fun x => b.flatMap fun y => comOne x y)) := by
  obtain ⟨i0, hi, hz0, hz1, hz2⟩ := info_parts info_rng
  have hown := own_empty w w.heap.size 31 2 (Nat.le_refl _)
  have hb1 : Below w.heap.size w (w.alloc (.cells #[] 31)) := (Below.refl _ _).alloc (Nat.le_refl _) _
  have HV0 : Hid (Own w (w.alloc (.cells #[] 31)) (.slice (some ⟨w.heap.size, 0, none⟩) 0 0) []) := ⟨hown, hb1⟩
  clear hown
  go_enter Try.func10, Try.ntmps10
  go_wp2
  generalize w.alloc (.cells #[] 31) = w1 at hb1 HV0 ⊢
  go_loopw [5, 6] (fun v i wr => ∃ k : Nat, k ≤ n ∧ i = .int .i64 k ∧ Own w wr v ((a.take k).flatMap fun x => b.flatMap fun y => comOne x y)) (fun v i _ => n - (intOf i).toNat)
  case atStart => exact ⟨0, Nat.zero_le _, rfl, HV0.out⟩
  case round =>
    obtain ⟨k, hk, rfl, hinv⟩ := hrel
    have HV := Lib.hid hinv; clear hinv HV0 hb1
    by_cases hlt : k < n
    · have hB1 : B ≤ wr.heap.size := Nat.le_trans hB HV.out.bel.size
      go_wp2_with fail
      refine (sIs (B := B) hB1 (hr.below HV.out.bel hB) (by omega) HA).mono ?_
      rintro e w2 ⟨rfl, hb2⟩
      have HV1 := Lib.hid (HV.out.below hb2)
      have hB2 : B ≤ w2.heap.size := Nat.le_trans hB1 hb2.size
      rw [HI.out]
      clear HV hb2 hB1
      go_wp2_with fail
      refine (sIs (B := B) hB2 (hs.below HV1.out.bel hB) (by omega) HB).mono ?_
      rintro e w3 ⟨rfl, hb3⟩
      have HV := Lib.hid (HV1.out.below hb3)
      rw [HJ.out]
      clear HV1 hb3 hB2
      obtain ⟨b1, off1, x, y, rfl, hb', HX, d0, d1⟩ := (hr.below HV.out.bel hB).rng (k := k) (by rw [HA.out]; exact hlt)
      have HS := Lib.hid (com_snoc (fun x => b.flatMap fun y => comOne x y) (by rw [HA.out]; exact hlt) HX.out)
      have HLN := Lib.hid (fun j => com_len a b k j n n' (x, y) HA.out HB.out hlt hm hm')
      clear d0 d1
      generalize (a.take k).flatMap (fun x => b.flatMap fun y => comOne x y) = L at HV HS HLN ⊢
      go_wp2
      go_loopw [5, 7] (fun v i wr => ∃ j : Nat, j ≤ n' ∧ i = .int .i64 j ∧ Own w wr v (L ++ (b.take j).flatMap (comOne (x, y)))) (fun v i _ => n' - (intOf i).toNat)
      case atStart => exact ⟨0, Nat.zero_le _, rfl, by simpa using HV.out⟩
      case round =>
        obtain ⟨j, hj, rfl, hinv⟩ := hrel
        clear HV
        have HV := Lib.hid hinv
        clear hinv
        by_cases hlt2 : j < n'
        · obtain ⟨b2, off2, x2, y2, rfl, hb2, HX2, e0, e1⟩ := (hs.below HV.out.bel hB).rng (k := j) (by rw [HB.out]; exact hlt2)
          obtain ⟨b1', off1', x', y', he, hb1, HX1, d0, d1⟩ := (hr.below HV.out.bel hB).rng (k := k) (by rw [HA.out]; exact hlt)
          simp at he
          obtain ⟨rfl, rfl⟩ := he
          obtain ⟨rfl, rfl⟩ : x = x' ∧ y = y' := by have := HX.out.symm.trans HX1.out; simpa using this
          have hik0 : 0 ≤ (k : Int) := Int.natCast_nonneg _
          have hik1 : (k : Int) < (n : Int) := by omega
          have hij0 : 0 ≤ (j : Int) := Int.natCast_nonneg _
          have hij1 : (j : Int) < (n' : Int) := by omega
          obtain ⟨lo, hlo⟩ : ∃ lo, (if x < x2 then x2 else x) = lo := ⟨_, rfl⟩
          obtain ⟨hi', hhi⟩ : ∃ hi', (if y2 < y then y2 else y) = hi' := ⟨_, rfl⟩
          have HC := Lib.hid (comOne_if hlo hhi)
          have hlb1 : b1 < wr.heap.size := World.block_lt_of_cell? _ _ d0
          have hlb2 : b2 < wr.heap.size := World.block_lt_of_cell? _ _ e0
          have al := (Below.refl wr.heap.size wr).alloc (Nat.le_refl _) (.cells #[.int .i64 0, .int .i64 0] 31)
          have u0 := (al.cell (p := ⟨b1, off1 + k * 2, none⟩) hlb1).trans d0
          have u1 := (al.cell (p := ⟨b1, off1 + k * 2 + 1, none⟩) hlb1).trans d1
          have u2 := (al.cell (p := ⟨b2, off2 + j * 2, none⟩) hlb2).trans e0
          have u3 := (al.cell (p := ⟨b2, off2 + j * 2 + 1, none⟩) hlb2).trans e1
          go_wp2
          go_region_held3 (fun w' => w'.cell? ⟨b1, off1 + k * 2, none⟩ = some (.int .i64 x) ∧ w'.cell? ⟨b1, off1 + k * 2 + 1, none⟩ = some (.int .i64 y) ∧ w'.cell? ⟨b2, off2 + j * 2, none⟩ = some (.int .i64 x2) ∧ w'.cell? ⟨b2, off2 + j * 2 + 1, none⟩ = some (.int .i64 y2))
            (first | exact ⟨d0, d1, e0, e1⟩ | exact ⟨u0, u1, u2, u3⟩ | go_keep)
            (fail)
          all_goals
            have al2 : Below wr.heap.size wr ((wr.alloc (.cells #[.int .i64 lo, .int .i64 hi'] 31)).drew) := ((Below.refl wr.heap.size wr).alloc (Nat.le_refl _) _).drew
            have HV3 := Lib.hid (HV.out.below al2)
            have kb : Bk ((wr.alloc (.cells #[.int .i64 lo, .int .i64 hi'] 31)).drew) wr.heap.size 31 #[.int .i64 lo, .int .i64 hi'] := heap_alloc_new wr _
            clear d0 d1 e0 e1 u0 u1 u2 u3 al al2 HV hlb1 hlb2
            generalize wr.heap.size = gy at kb ⊢
            generalize (wr.alloc (.cells #[.int .i64 lo, .int .i64 hi'] 31)).drew = W2 at HV3 kb ⊢
            have r0 := kb.cell 0
            have r1 := kb.cell 1
            have HS2 := Lib.hid (com_snoc (comOne (x, y)) (by rw [HB.out]; exact hlt2) HX2.out)
            have HL2 := Lib.hid (HLN.out j)
            generalize (b.take j).flatMap (comOne (x, y)) = M at HV3 HS2 HL2 ⊢
            have hlen := Lib.hid (show (L ++ M).length ≤ 1099511627776 by have := HL2.out; rw [List.length_append]; exact this)
            by_cases hlh : lo < hi'
            · have HC2 := Lib.hid (show comOne (x, y) (x2, y2) = [(lo, hi')] by rw [HC.out, if_pos hlh])
              have hp3 : Below W2.heap.size W2 (W2.alloc (.cells #[.int .i64 lo, .int .i64 hi'] 31)) := (Below.refl _ _).alloc (Nat.le_refl _) _
              have HP3 := Lib.hid hp3; clear hp3 hlo hhi
              go_wp2_with (at_builtin; refine wpList_append_own _ rfl _ _ 24 rfl w.heap.size 31 i0 (.agg #[.int .i64 0, .int .i64 0]) 2 16 Try.underlying24 hi hz0 hz1 hz2 rfl (by decide) _ _ _ rfl (HV3.out.own.alloc _) ⟨W2.heap.size, 0, none⟩ 1 1 [.int .i64 lo, .int .i64 hi'] rfl rfl (news2 _ _ (by simp)) (one2 _ _) (by have := hlen.out; unfold maxLen; omega) (by have := hlen.out; omega) (by have := HV3.out.bel.size; simp; omega) ?_)
              intro v1 W3 hown1 hgrow1 hnil1
              have HV5 := Lib.hid (HV3.out.app HP3.out (by simp) hown1 hgrow1)
              clear hown1 hgrow1 hnil1 r0 r1 kb
              go_wp2
              go_roundw
              case rel => exact ⟨j + 1, by omega, by go_num, by rw [HS2.out, HC2.out, ← List.append_assoc]; exact HV5.out⟩
              case measure => simp [intOf]; omega
            · have HC2 := Lib.hid (show comOne (x, y) (x2, y2) = [] by rw [HC.out, if_neg hlh])
              clear hlo hhi
              go_wp2
              go_roundw
              case rel => exact ⟨j + 1, by omega, by go_num, by rw [HS2.out, HC2.out, List.append_nil]; exact HV3.out⟩
              case measure => simp [intOf]; omega
        · go_wp2
          go_roundw
          case rel => exact ⟨k + 1, by omega, by go_num, by rw [HS.out]; have := HV.out; rw [gap_all HB.out (by omega)] at this; exact this⟩
          case measure => simp [intOf]; omega
    · go_wp2
      go_ret
      have := HV.out.fin
      rwa [gap_all HA.out (by omega)] at this
theorem sCom {A A' : Option Addr} {c c' n n' : Nat} {w : World} {B : Nat} {a b : List R} (hB : B ≤ w.heap.size) (hr : Rd w B A (encR a)) (hs : Rd w B A' (encR b)) (hm : n ≤ 1048576) (hm' : n' ≤ 1048576) (HA : Hid (a.length = n)) (HB : Hid (b.length = n')) :
    Calls Try.prog 10 #[.slice A n c, .slice A' n' c'] w (OutR w (comR a b)) := by
  unfold comR
  cases h : (isRs a && isRs b)
  · exact sComNo hB hr hs hm hm' HA HB h
  · have h2 : isRs a = true ∧ isRs b = true := by simpa using h
    exact sComYes hB hr hs hm hm' HA HB (Lib.hid h2.1) (Lib.hid h2.2)
end Go.Proofs.Ytaackmiodkpnoaa
