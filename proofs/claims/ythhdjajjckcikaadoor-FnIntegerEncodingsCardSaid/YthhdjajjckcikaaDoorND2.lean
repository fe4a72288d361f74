/- A text is drawn. No conditions. -/
import Derived.Test.YthhdjajjckcikaaDoorND1
namespace Go.Proofs.YthhdjajjckcikaaDoor
open Go.ChangeShapes Go.WideShapes Go.ChangeAt Go.RowKit Go.Sort
set_option linter.unusedVariables false
set_option linter.unusedSimpArgs false
theorem own_keepG {w w' : World} {base n g : Nat} {e : TypeId} {size : Nat} {v : Value} {xs : List Value} (h : w.ownsRow base e size v n xs) (hg : w.grownBy w' (some g)) (hgb : g < base) : w'.ownsRow base e size v n xs :=
  h.kept hg (by
    cases hv : v.ownBlock with
    | none => exact .inl rfl
    | some k => exact .inr (fun e => by injection e with e; have := (h.lt k hv).1; omega))
theorem below_of_grown {w w' : World} {row : Option Nat} {B : Nat} (h : w.grownBy w' row) (hB : B ≤ w.heap.size) (hr : ∀ k, row = some k → B ≤ k) : Below B w w' :=
  ⟨h.os, h.tape, h.output, h.size, fun k hk => h.block k (by omega) (fun e => by have := hr k e.symm; omega)⟩
/-- A text of at most m bytes is drawn. -/
def DrawS (w : World) (g m : Nat) (e : Ending) (w' : World) : Prop := (∃ s : ByteArray, s.size ≤ m ∧ e = .returned (.string s)) ∧ Cur w' g ∧ w.grownBy w' (some g)
set_option maxRecDepth 20000 in
set_option maxHeartbeats 4000000 in
theorem l1Text_any {w : World} {g : Nat} (m : Nat) (hm : m ≤ 255) (hc : Cur w g) : Calls Tryd.prog 20 #[.pointer (some ⟨g, 0, none⟩), .int .i64 m] w (DrawS w g m) := by
  obtain ⟨i0, hi, hz0, hz1, hz2⟩ := info_parts info_byte
  have hgl := hc.lt
  have hown := bown_empty w w.heap.size 5 1 (Nat.le_refl _)
  have al := (Below.refl w.heap.size w).alloc (Nat.le_refl _) (.cells #[] 5)
  have hg0 := gb_of_below' al (some g)
  have hc0 := hc.below al hc.lt
  go_enter Tryd.func20, Tryd.ntmps20
  go_wp2_with fail
  generalize w.alloc (.cells #[] 5) = w0 at hown hg0 hc0 ⊢
  clear al hc
  refine (l1Below_any 4 (by decide) (by decide) hc0).mono ?_
  rintro e w1 ⟨⟨z, ⟨hz0', hz1'⟩, rfl⟩, hc1, hg1⟩
  replace hown := own_keepG hown hg1 hgl
  replace hg0 := grown_trans hg0 hg1
  clear hc0 hg1
  go_wp2_with fail
  refine (l1Below_any (m + 1) (by omega) (by omega) hc1).mono ?_
  rintro e w2 ⟨⟨x, ⟨hx0, hx1⟩, rfl⟩, hc2, hg2⟩
  obtain ⟨k0, rfl⟩ := Int.eq_ofNat_of_zero_le hx0
  have HO0 := Lib.hid (own_keepG hown hg2 hgl)
  have HG0 := Lib.hid (grown_trans hg0 hg2)
  have HC0 := Lib.hid hc2
  clear hown hc1 hg2 hg0 hc2
  go_wp2_with fail
  rcases (show z = 1 ∨ z = 2 ∨ (z ≠ 1 ∧ z ≠ 2) by omega) with hz1 | hz1 | ⟨hz1, hz2⟩
  · subst hz1
    go_loopw [5, 7] (fun v i wr => ∃ (k : Nat) (L : List UInt8), i = .int .i64 k ∧ k + L.length ≤ m ∧ v ≠ .slice none 0 0 ∧ wr.ownsRow w.heap.size 5 1 v L.length (bys L) ∧ Cur wr g ∧ w.grownBy wr (some g)) (fun v i _ => (intOf i).toNat)
    case atStart => exact ⟨k0, [], rfl, by simp; omega, by simp, HO0.out, HC0.out, HG0.out⟩
    case round =>
      obtain ⟨k, L, rfl, hkl, hne, ho, hcr, hgr⟩ := hrel
      have HO := Lib.hid ho; clear ho HO0 HG0 HC0
      have HNE := Lib.hid hne; clear hne
      by_cases h0 : 0 < k
      · have hd0 : decide ((0 : Int) < (k : Int)) = true := by simp; omega
        go_wp2_with fail
        refine (l1Byte_any hcr).mono ?_
        rintro e w3 ⟨⟨b, ⟨hb0, hb1⟩, rfl⟩, hc3, hg3⟩
        obtain ⟨b, rfl⟩ := Int.eq_ofNat_of_zero_le hb0
        have HO3 := Lib.hid (own_keepG HO.out hg3 hgl)
        have hg4 := grown_trans hgr hg3
        have hsz := hg4.size
        clear hcr hgr hg3 HO
        go_wp2_with (first | (at_builtin; refine wpList_append_own _ rfl _ _ 22 rfl w.heap.size 5 i0 (.int .u8 0) 1 1 Tryd.underlying22 hi hz0 hz1 hz2 rfl (by decide) _ _ _ rfl (HO3.out.alloc _) ⟨w3.heap.size, 0, none⟩ 1 1 [.int .u8 ((b : Int) % 2)] rfl rfl (bnews1 _ (by simp)) (bone_1 _) (by unfold maxLen; omega) (by omega) (by simp; omega) ?_))
        intro v' w4 hown1 hgrow hnil
        have al := (Below.refl w3.heap.size w3).alloc (Nat.le_refl _) (.cells #[.int .u8 ((b : Int) % 2)] 5)
        have hob := fun k hk => (HO3.out.lt k hk).1
        have hc4 : Cur w4 g := by
          have h1 := hc3.below al hc3.lt
          exact h1.below (B := g + 1) (below_of_grown hgrow (by have := h1.lt; omega) (fun k hk => by have := hob k hk; omega)) (Nat.lt_succ_self g)
        have hg5 : w.grownBy w4 (some g) := by
          have h1 := grown_below' hg4 al
          refine ⟨hgrow.os.trans h1.os, hgrow.tape.trans h1.tape, hgrow.output.trans h1.output, Nat.le_trans h1.size hgrow.size, fun k hk hne => (hgrow.block k (Nat.lt_of_lt_of_le hk h1.size) (fun e => by have := hob k e.symm; omega)).trans (h1.block k hk hne)⟩
        have HO4 := Lib.hid (show w4.ownsRow w.heap.size 5 1 v' (L ++ [UInt8.ofNat (b % 2)]).length (bys (L ++ [UInt8.ofNat (b % 2)])) by rw [← bys_snoc L (b % 2) ((b : Int) % 2) (by omega) (by omega)]; simpa using hown1)
        have HN4 := Lib.hid (show v' ≠ .slice none 0 0 from fun e => hnil e)
        clear hown1 hgrow hnil HO3
        go_wp2
        go_roundw
        case rel => exact ⟨k - 1, L ++ [UInt8.ofNat (b % 2)], by go_num, by simp; omega, HN4.out, HO4.out, hc4, hg5⟩
        case measure => simp [intOf]; omega
      · have hd0 : decide ((0 : Int) < (k : Int)) = false := by simp; omega
        have hcv := conv_own HO.out HNE.out
        have hsl : (⟨L.toArray⟩ : ByteArray).size = L.length := by show L.toArray.size = _; simp
        go_wp2
        go_ret
        exact ⟨⟨_, by rw [hsl]; omega, rfl⟩, hcr, hgr⟩
  · subst hz1
    go_loopw [5, 7] (fun v i wr => ∃ (k : Nat) (L : List UInt8), i = .int .i64 k ∧ k + L.length ≤ m ∧ v ≠ .slice none 0 0 ∧ wr.ownsRow w.heap.size 5 1 v L.length (bys L) ∧ Cur wr g ∧ w.grownBy wr (some g)) (fun v i _ => (intOf i).toNat)
    case atStart => exact ⟨k0, [], rfl, by simp; omega, by simp, HO0.out, HC0.out, HG0.out⟩
    case round =>
      obtain ⟨k, L, rfl, hkl, hne, ho, hcr, hgr⟩ := hrel
      have HO := Lib.hid ho; clear ho HO0 HG0 HC0
      have HNE := Lib.hid hne; clear hne
      by_cases h0 : 0 < k
      · have hd0 : decide ((0 : Int) < (k : Int)) = true := by simp; omega
        go_wp2_with fail
        refine (l1Byte_any hcr).mono ?_
        rintro e w3 ⟨⟨b, ⟨hb0, hb1⟩, rfl⟩, hc3, hg3⟩
        obtain ⟨b, rfl⟩ := Int.eq_ofNat_of_zero_le hb0
        have HO3 := Lib.hid (own_keepG HO.out hg3 hgl)
        have hg4 := grown_trans hgr hg3
        have hsz := hg4.size
        clear hcr hgr hg3 HO
        go_wp2_with (first | (at_builtin; refine wpList_append_own _ rfl _ _ 22 rfl w.heap.size 5 i0 (.int .u8 0) 1 1 Tryd.underlying22 hi hz0 hz1 hz2 rfl (by decide) _ _ _ rfl (HO3.out.alloc _) ⟨w3.heap.size, 0, none⟩ 1 1 [.int .u8 (97 + (b : Int) % 4)] rfl rfl (bnews1 _ (by simp)) (bone_1 _) (by unfold maxLen; omega) (by omega) (by simp; omega) ?_))
        intro v' w4 hown1 hgrow hnil
        have al := (Below.refl w3.heap.size w3).alloc (Nat.le_refl _) (.cells #[.int .u8 (97 + (b : Int) % 4)] 5)
        have hob := fun k hk => (HO3.out.lt k hk).1
        have hc4 : Cur w4 g := by
          have h1 := hc3.below al hc3.lt
          exact h1.below (B := g + 1) (below_of_grown hgrow (by have := h1.lt; omega) (fun k hk => by have := hob k hk; omega)) (Nat.lt_succ_self g)
        have hg5 : w.grownBy w4 (some g) := by
          have h1 := grown_below' hg4 al
          refine ⟨hgrow.os.trans h1.os, hgrow.tape.trans h1.tape, hgrow.output.trans h1.output, Nat.le_trans h1.size hgrow.size, fun k hk hne => (hgrow.block k (Nat.lt_of_lt_of_le hk h1.size) (fun e => by have := hob k e.symm; omega)).trans (h1.block k hk hne)⟩
        have HO4 := Lib.hid (show w4.ownsRow w.heap.size 5 1 v' (L ++ [UInt8.ofNat (97 + b % 4)]).length (bys (L ++ [UInt8.ofNat (97 + b % 4)])) by rw [← bys_snoc L (97 + b % 4) (97 + (b : Int) % 4) (by omega) (by omega)]; simpa using hown1)
        have HN4 := Lib.hid (show v' ≠ .slice none 0 0 from fun e => hnil e)
        clear hown1 hgrow hnil HO3
        go_wp2
        go_roundw
        case rel => exact ⟨k - 1, L ++ [UInt8.ofNat (97 + b % 4)], by go_num, by simp; omega, HN4.out, HO4.out, hc4, hg5⟩
        case measure => simp [intOf]; omega
      · have hd0 : decide ((0 : Int) < (k : Int)) = false := by simp; omega
        have hcv := conv_own HO.out HNE.out
        have hsl : (⟨L.toArray⟩ : ByteArray).size = L.length := by show L.toArray.size = _; simp
        go_wp2
        go_ret
        exact ⟨⟨_, by rw [hsl]; omega, rfl⟩, hcr, hgr⟩
  · have hz1b : (z == 1) = false := by simp; omega
    have hz2b : (z == 2) = false := by simp; omega
    clear hz1 hz2
    go_loopw [5, 7] (fun v i wr => ∃ (k : Nat) (L : List UInt8), i = .int .i64 k ∧ k + L.length ≤ m ∧ v ≠ .slice none 0 0 ∧ wr.ownsRow w.heap.size 5 1 v L.length (bys L) ∧ Cur wr g ∧ w.grownBy wr (some g)) (fun v i _ => (intOf i).toNat)
    case atStart => exact ⟨k0, [], rfl, by simp; omega, by simp, HO0.out, HC0.out, HG0.out⟩
    case round =>
      obtain ⟨k, L, rfl, hkl, hne, ho, hcr, hgr⟩ := hrel
      have HO := Lib.hid ho; clear ho HO0 HG0 HC0
      have HNE := Lib.hid hne; clear hne
      by_cases h0 : 0 < k
      · have hd0 : decide ((0 : Int) < (k : Int)) = true := by simp; omega
        go_wp2_with fail
        refine (l1Byte_any hcr).mono ?_
        rintro e w3 ⟨⟨b, ⟨hb0, hb1⟩, rfl⟩, hc3, hg3⟩
        obtain ⟨b, rfl⟩ := Int.eq_ofNat_of_zero_le hb0
        have HO3 := Lib.hid (own_keepG HO.out hg3 hgl)
        have hg4 := grown_trans hgr hg3
        have hsz := hg4.size
        clear hcr hgr hg3 HO
        go_wp2_with (first | (at_builtin; refine wpList_append_own _ rfl _ _ 22 rfl w.heap.size 5 i0 (.int .u8 0) 1 1 Tryd.underlying22 hi hz0 hz1 hz2 rfl (by decide) _ _ _ rfl (HO3.out.alloc _) ⟨w3.heap.size, 0, none⟩ 1 1 [.int .u8 ((b : Int))] rfl rfl (bnews1 _ (by simp)) (bone_1 _) (by unfold maxLen; omega) (by omega) (by simp; omega) ?_))
        intro v' w4 hown1 hgrow hnil
        have al := (Below.refl w3.heap.size w3).alloc (Nat.le_refl _) (.cells #[.int .u8 ((b : Int))] 5)
        have hob := fun k hk => (HO3.out.lt k hk).1
        have hc4 : Cur w4 g := by
          have h1 := hc3.below al hc3.lt
          exact h1.below (B := g + 1) (below_of_grown hgrow (by have := h1.lt; omega) (fun k hk => by have := hob k hk; omega)) (Nat.lt_succ_self g)
        have hg5 : w.grownBy w4 (some g) := by
          have h1 := grown_below' hg4 al
          refine ⟨hgrow.os.trans h1.os, hgrow.tape.trans h1.tape, hgrow.output.trans h1.output, Nat.le_trans h1.size hgrow.size, fun k hk hne => (hgrow.block k (Nat.lt_of_lt_of_le hk h1.size) (fun e => by have := hob k e.symm; omega)).trans (h1.block k hk hne)⟩
        have HO4 := Lib.hid (show w4.ownsRow w.heap.size 5 1 v' (L ++ [UInt8.ofNat (b)]).length (bys (L ++ [UInt8.ofNat (b)])) by rw [← bys_snoc L (b) ((b : Int)) (by omega) (by omega)]; simpa using hown1)
        have HN4 := Lib.hid (show v' ≠ .slice none 0 0 from fun e => hnil e)
        clear hown1 hgrow hnil HO3
        go_wp2
        go_roundw
        case rel => exact ⟨k - 1, L ++ [UInt8.ofNat (b)], by go_num, by simp; omega, HN4.out, HO4.out, hc4, hg5⟩
        case measure => simp [intOf]; omega
      · have hd0 : decide ((0 : Int) < (k : Int)) = false := by simp; omega
        have hcv := conv_own HO.out HNE.out
        have hsl : (⟨L.toArray⟩ : ByteArray).size = L.length := by show L.toArray.size = _; simp
        go_wp2
        go_ret
        exact ⟨⟨_, by rw [hsl]; omega, rfl⟩, hcr, hgr⟩
end Go.Proofs.YthhdjajjckcikaaDoor
