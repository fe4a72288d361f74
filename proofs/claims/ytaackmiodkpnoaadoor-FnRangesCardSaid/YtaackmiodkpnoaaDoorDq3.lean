/- What the laws draw from a code: slices of ranges. No conditions. -/
import Derived.Test.YtaackmiodkpnoaaDoorDq2
import Derived.Test.YtaackmiodkpnoaaDoorRngE
namespace Go.Proofs.YtaackmiodkpnoaaDoor
open Go.ChangeShapes Go.WideShapes Go.ChangeAt Go.RowKit Go.Sort RM
set_option linter.unusedVariables false
set_option linter.unusedSimpArgs false
theorem own_keepG {w w' : World} {base n g : Nat} {v : Value} {xs : List Value} (h : w.ownsRow base 32 2 v n xs) (hg : w.grownBy w' (some g)) (hgb : g < base) : w'.ownsRow base 32 2 v n xs :=
  own_far h hg (fun k hk => by injection hk; omega)
theorem below_of_grown {w w' : World} {row : Option Nat} {B : Nat} (h : w.grownBy w' row) (hB : B ≤ w.heap.size) (hr : ∀ k, row = some k → B ≤ k) : Below B w w' :=
  ⟨h.os, h.tape, h.output, h.size, fun k hk => h.block k (by omega) (fun e => by have := hr k e.symm; omega)⟩
set_option maxRecDepth 20000 in
set_option maxHeartbeats 2000000 in
theorem l3Ranges_any {w : World} {g : Nat} (hc : Cur w g) : Calls Tryd.prog 45 #[.pointer (some ⟨g, 0, none⟩)] w (DrawRs w g 4) := by
  have hown := own_empty w w.heap.size 32 2 (Nat.le_refl _)
  have al := (Below.refl w.heap.size w).alloc (Nat.le_refl _) (.cells #[] 32)
  have hg0 := gb_of_below al (some g)
  have hc0 := hc.below al hc.lt
  have hgl := hc.lt
  go_enter Tryd.func45, Tryd.ntmps45
  go_wp2_with fail
  generalize w.alloc (.cells #[] 32) = w0 at hown hg0 hc0 ⊢
  clear al hc
  refine (l1Below_any 5 (by decide) (by decide) hc0).mono ?_
  rintro e w1 ⟨⟨x, ⟨hx0, hx1⟩, rfl⟩, hc1, hg1⟩
  obtain ⟨k0, rfl⟩ := Int.eq_ofNat_of_zero_le hx0
  replace hown := own_keepG hown hg1 hgl
  replace hg0 := grown_trans hg0 hg1
  have HO0 := Lib.hid hown
  clear hown hc0 hg1
  go_wp2_with fail
  go_loopw [3, 4] (fun v i wr => ∃ (k : Nat) (L : List R), i = .int .i64 k ∧ k + L.length ≤ 4 ∧ SmR L ∧ wr.ownsRow w.heap.size 32 2 v L.length (encR L) ∧ Cur wr g ∧ w.grownBy wr (some g)) (fun v i _ => (intOf i).toNat)
  case atStart => exact ⟨k0, [], rfl, by simp; omega, SmR.nil, HO0.out, hc1, hg0⟩
  case round =>
    obtain ⟨k, L, rfl, hkl, hsL, ho, hcr, hgr⟩ := hrel
    obtain ⟨A, c, rfl, _, _⟩ := Rd.of_own ho
    have HO := Lib.hid ho; clear ho HO0 hg0 hc1
    by_cases h0 : 0 < k
    · go_wp2_with fail
      refine (l3Range_any hcr).mono ?_
      rintro e w2 ⟨⟨x, y, ⟨hsx, hsy⟩, rfl⟩, hc2, hg2⟩
      have HO2 := Lib.hid (own_keepG HO.out hg2 hgl)
      have hg3 := grown_trans hgr hg2
      clear hcr hgr hg2 HO
      go_wp2_with fail
      refine (sAdd (B := w2.heap.size) (Nat.le_refl _) (own_rd HO2.out) (by omega) (Lib.hid rfl) x y).mono ?_
      rintro e w3 ⟨A3, c3, rfl, hb3, ho3⟩
      have hln := addR_len L (x, y)
      have HO3 := Lib.hid (own_lower ho3 hg3.size)
      have hc3 := hc2.below hb3 hc2.lt
      have hg4 := grown_below hg3 hb3
      have hsL' := hsL.addR (x := x) (y := y)
      generalize addR L (x, y) = L' at HO3 hln hsL' ⊢
      clear ho3 hb3 HO2 hc2 hg3
      go_wp2
      go_roundw
      case rel => exact ⟨k - 1, L', by go_num, by omega, hsL', HO3.out, hc3, hg4⟩
      case measure => simp [intOf]; omega
    · go_wp2
      go_ret
      exact ⟨A, c, L, rfl, by omega, hsL, HO.out, hcr, hgr⟩
set_option maxRecDepth 20000 in
set_option maxHeartbeats 2000000 in
theorem l3Any_any {w : World} {g : Nat} (hc : Cur w g) : Calls Tryd.prog 33 #[.pointer (some ⟨g, 0, none⟩)] w (DrawRs w g 5) := by
  obtain ⟨i0, hi, hz0, hz1, hz2⟩ := info_parts info_rng
  have hgl := hc.lt
  go_enter Tryd.func33, Tryd.ntmps33
  go_wp2_with fail
  refine (l3Ranges_any hc).mono ?_
  rintro e w1 ⟨A, c, L, rfl, hl, hsL, ho, hc1, hg1⟩
  have HO := Lib.hid ho; clear ho
  go_wp2_with fail
  refine (l1Once_any 12 (by decide) (by decide) hc1).mono ?_
  rintro e w2 ⟨⟨b, rfl⟩, hc2, hg2⟩
  have HO2 := Lib.hid (own_keepG HO.out hg2 hgl)
  have hg3 := grown_trans hg1 hg2
  clear HO hc1 hg1 hg2 hc
  cases b
  · go_wp2
    go_ret
    exact ⟨A, c, L, rfl, by omega, hsL, HO2.out, hc2, hg3⟩
  · go_wp2_with fail
    refine (l3Range_any hc2).mono ?_
    rintro e w3 ⟨⟨x, y, ⟨hsx, hsy⟩, rfl⟩, hc3, hg4⟩
    have HO3 := Lib.hid (own_keepG HO2.out hg4 hgl)
    replace hg3 := grown_trans hg3 hg4
    clear hg4 hc2 HO2
    have hsz := hg3.size
    have al := Lib.hid ((Below.refl w3.heap.size w3).alloc (Nat.le_refl _) (.cells #[.int .i64 x, .int .i64 y] 32))
    go_wp2_with (at_builtin; refine wpList_append_own _ rfl _ _ 25 rfl w.heap.size 32 i0 (.agg #[.int .i64 0, .int .i64 0]) 2 16 Tryd.underlying25 hi hz0 hz1 hz2 rfl (by decide) _ _ _ rfl (HO3.out.alloc _) ⟨w3.heap.size, 0, none⟩ 1 1 [.int .i64 x, .int .i64 y] rfl rfl (news2 _ _ (by simp)) (one2 _ _) (by unfold maxLen; omega) (by omega) (by simp; omega) ?_)
    intro v1 w4 hown1 hgrow1 _
    have hob : ∀ k, (Value.slice A L.length c).ownBlock = some k → w.heap.size ≤ k := fun k hk => (HO3.out.lt k hk).1
    have hc4 : Cur w4 g := by
      have h1 := hc3.below al.out hc3.lt
      refine h1.below (B := g + 1) (below_of_grown hgrow1 (by have := h1.lt; omega) (fun k hk => by have := hob k hk; omega)) (Nat.lt_succ_self g)
    have hg5 : w.grownBy w4 (some g) := by
      have h1 := grown_below hg3 al.out
      refine ⟨hgrow1.os.trans h1.os, hgrow1.tape.trans h1.tape, hgrow1.output.trans h1.output, Nat.le_trans h1.size hgrow1.size, fun k hk hne => (hgrow1.block k (Nat.lt_of_lt_of_le hk h1.size) (fun e => by have := hob k e.symm; omega)).trans (h1.block k hk hne)⟩
    have HO4 := Lib.hid (show w4.ownsRow w.heap.size 32 2 v1 (L ++ [(x, y)]).length (encR (L ++ [(x, y)])) by rw [encR_snoc]; simpa using hown1)
    clear hown1 hgrow1
    obtain ⟨A5, c5, rfl, _, _⟩ := Rd.of_own HO4.out
    go_wp2
    go_ret
    exact ⟨A5, c5, L ++ [(x, y)], rfl, by simp; omega, hsL.snoc hsx hsy, HO4.out, hc4, hg5⟩
end Go.Proofs.YtaackmiodkpnoaaDoor
