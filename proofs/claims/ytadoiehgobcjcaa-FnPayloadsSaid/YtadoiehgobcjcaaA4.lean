/- EncodeQuics: its contracts. No conditions. What FnVarints draws from its code. No conditions. Plain laws of varints and hexadecimal text. No program in sight. Rows of bytes that the code builds, and the text they become. No conditions. A text is drawn. No conditions. What the laws draw from a code: data of frames, spoilt texts. No conditions. Plain laws of numbers read back from their bytes, in the words of the walks. No conditions. -/
import Derived.Test.YtadoiehgobcjcaaA3
import Derived.Test.YtadoiehgobcjcaaA1
import Derived.Below
import Derived.Laws.IdiomStrings
import Derived.Deep.RegionWith
import Derived.Test.YtadoiehgobcjcaaA2
namespace Go.Proofs.Ytadoiehgobcjcaa
open Go.ChangeShapes Go.WideShapes Go.ChangeAt Go.RowKit Go.Sort QM
set_option linter.unusedVariables false
set_option linter.unusedSimpArgs false
def jnF (l : List Int) (k : Nat) : ByteArray := (l.take k).foldl (fun s x => s ++ encI x) ⟨#[]⟩
theorem jnF_zero (l : List Int) : jnF l 0 = ⟨#[]⟩ := by simp [jnF]
theorem jnF_succ (l : List Int) (k : Nat) (h : k < l.length) : jnF l (k + 1) = jnF l k ++ encI (l.getD k 0) := by
  unfold jnF
  rw [List.take_succ_eq_append_getElem h, List.foldl_append]
  simp [List.getD_eq_getElem?_getD, List.getElem?_eq_getElem h]
theorem encI_size (x : Int) : (encI x).size ≤ 8 := by
  unfold encI
  split
  · have h := sizeQ_pos x.toNat
    show (encQ x.toNat).toArray.size ≤ 8
    rw [List.size_toArray, encQ_len]; omega
  · exact Nat.zero_le _
theorem jnF_size (l : List Int) (k : Nat) (h : k ≤ l.length) : (jnF l k).size ≤ 8 * k := by
  induction k with
  | zero => rw [jnF_zero]; exact Nat.le_refl _
  | succ k ih =>
    rw [jnF_succ l k (by omega), ByteArray.size_append]
    have := ih (by omega)
    have := encI_size (l.getD k 0)
    omega
/-- The forms of a list's numbers, joined; none where one has no form. -/
def encL (l : List Int) : ByteArray := if l.all qB then jnF l l.length else ⟨#[]⟩
theorem encL_out {l : List Int} {k : Nat} {x : Int} (hk : k < l.length) (hx : l.getD k 0 = x) (hq : qB x = false) : encL l = ⟨#[]⟩ := by
  have : l.all qB = false := by
    rw [Bool.eq_false_iff]
    intro h
    rw [List.all_eq_true] at h
    have := h (l.getD k 0) (by rw [List.getD_eq_getElem?_getD, List.getElem?_eq_getElem hk]; exact List.getElem_mem hk)
    rw [hx, hq] at this
    cases this
  simp [encL, this]
theorem encL_in {l : List Int} {n : Nat} (hl : l.length = n) (h : ∀ j, j < n → qB (l.getD j 0) = true) : encL l = jnF l n := by
  have : l.all qB = true := by
    rw [List.all_eq_true]
    intro x hx
    obtain ⟨i, hi, rfl⟩ := List.getElem_of_mem hx
    have := h i (by omega)
    rwa [List.getD_eq_getElem?_getD, List.getElem?_eq_getElem hi] at this
  simp [encL, this, hl]
theorem sEncs {A : Option Addr} {c n : Nat} {w : World} {B : Nat} {l : List Int} (hB : B ≤ w.heap.size) (hr : Rd w B A (ints l)) (hm : n ≤ 1048576) (HL : Hid (l.length = n)) :
    Calls Try.prog 21 #[.slice A n c] w fun e w' => e = .returned (.string (encL l)) ∧ Below w.heap.size w w' := by
  go_enter Try.func21, Try.ntmps21
  go_wp2
  go_loopw [3, 4] (fun s i wr => ∃ k : Nat, k ≤ n ∧ i = .int .i64 k ∧ s = .string (jnF l k) ∧ (∀ j, j < k → qB (l.getD j 0) = true) ∧ Below w.heap.size w wr) (fun s i _ => n - (intOf i).toNat)
  case atStart => exact ⟨0, Nat.zero_le _, rfl, by rw [jnF_zero], fun j hj => by omega, Below.refl _ _⟩
  case round =>
    obtain ⟨k, hk, rfl, rfl, he, hbw⟩ := hrel
    have HE := Lib.hid he; clear he
    by_cases hlt : k < n
    · obtain ⟨b, off, x, rfl, hb, HX, c0⟩ := (hr.below hbw hB).int (k := k) (by rw [HL.out]; exact hlt)
      have hz := jnF_size l k (by rw [HL.out]; omega)
      have hz1 := encI_size x
      have hsu := jnF_succ l k (by rw [HL.out]; exact hlt)
      rw [HX.out] at hsu
      have HSU := Lib.hid hsu; clear hsu
      cases hq : qB x
      · have hs0 : sizeI x = 0 := by unfold sizeI; rw [hq]; rfl
        go_wp2_with (first | (go_at_call 48; refine (sSize _ _).mono ?_; rintro e w' ⟨rfl, rfl⟩))
        go_ret
        exact ⟨ret_str (encL_out (by rw [HL.out]; exact hlt) HX.out hq).symm, hbw⟩
      · have hs0 : (sizeI x == 0) = false := by unfold sizeI; rw [hq]; simp; (repeat' split) <;> omega
        have HE2 := Lib.hid (show ∀ j, j < k + 1 → qB (l.getD j 0) = true from fun j hj => by
          by_cases hj' : j < k
          · exact HE.out j hj'
          · obtain rfl : j = k := by omega
            rw [HX.out]; exact hq)
        go_wp2_with (first | (go_at_call 48; refine (sSize _ _).mono ?_; rintro e w' ⟨rfl, rfl⟩) | (go_at_call 10; refine (sEncI _ _).mono ?_; rintro e w2 ⟨rfl, hb2⟩))
        exact ⟨⟨k + 1, by omega, by go_num, by rw [HSU.out], HE2.out, below_next hbw hbw.size hb2⟩, by simp [intOf]; omega⟩
    · go_wp2
      go_ret
      obtain rfl : k = n := by omega
      exact ⟨ret_str (encL_in HL.out HE.out).symm, hbw⟩
theorem iEncs {A : Option Addr} {c n : Nat} {w : World} {B : Nat} {l : List Int} (hB : B ≤ w.heap.size) (hr : Rd w B A (ints l)) (hm : n ≤ 1048576) (HL : Hid (l.length = n)) :
    Calls Try.prog 16 #[.slice A n c] w fun e w' => e = .returned (.string (encL l)) ∧ Below w.heap.size w w' := by
  go_enter Try.func16, Try.ntmps16
  go_wp2
  go_loopw [3, 8] (fun s i wr => ∃ k : Nat, k ≤ n ∧ i = .int .i64 k ∧ s = .string (jnF l k) ∧ (∀ j, j < k → qB (l.getD j 0) = true) ∧ Below w.heap.size w wr) (fun s i _ => n - (intOf i).toNat)
  case atStart => exact ⟨0, Nat.zero_le _, rfl, by rw [jnF_zero], fun j hj => by omega, Below.refl _ _⟩
  case round =>
    obtain ⟨k, hk, rfl, rfl, he, hbw⟩ := hrel
    have HE := Lib.hid he; clear he
    by_cases hlt : k < n
    · obtain ⟨b, off, x, rfl, hb, HX, c0⟩ := (hr.below hbw hB).int (k := k) (by rw [HL.out]; exact hlt)
      have hz := jnF_size l k (by rw [HL.out]; omega)
      have hz1 := encI_size x
      have hsu := jnF_succ l k (by rw [HL.out]; exact hlt)
      rw [HX.out] at hsu
      have HSU := Lib.hid hsu; clear hsu
      cases hq : qB x
      · have hs0 : sizeI x = 0 := by unfold sizeI; rw [hq]; rfl
        go_wp2_with (first | (go_at_call 50; refine (isQuic_any _ _).mono ?_; rintro e w' ⟨rfl, rfl⟩))
        go_ret
        exact ⟨ret_str (encL_out (by rw [HL.out]; exact hlt) HX.out hq).symm, hbw⟩
      · have hs0 : (sizeI x == 0) = false := by unfold sizeI; rw [hq]; simp; (repeat' split) <;> omega
        have HE2 := Lib.hid (show ∀ j, j < k + 1 → qB (l.getD j 0) = true from fun j hj => by
          by_cases hj' : j < k
          · exact HE.out j hj'
          · obtain rfl : j = k := by omega
            rw [HX.out]; exact hq)
        go_wp2_with (first | (go_at_call 50; refine (isQuic_any _ _).mono ?_; rintro e w' ⟨rfl, rfl⟩) | (go_at_call 8; refine (iEncI _ _).mono ?_; rintro e w2 ⟨rfl, hb2⟩))
        exact ⟨⟨k + 1, by omega, by go_num, by rw [HSU.out], HE2.out, below_next hbw hbw.size hb2⟩, by simp [intOf]; omega⟩
    · go_wp2
      go_ret
      obtain rfl : k = n := by omega
      exact ⟨ret_str (encL_in HL.out HE.out).symm, hbw⟩
end Go.Proofs.Ytadoiehgobcjcaa

namespace Go.Proofs.Ytadoiehgobcjcaa
open Go.ChangeShapes Go.WideShapes Go.ChangeAt Go.RowKit Go.Sort QM
set_option linter.unusedVariables false
set_option linter.unusedSimpArgs false
theorem drawEncodeQuic {A : Option Addr} {c n : Nat} {w : World} {l : List Int} (hr : Rd w w.heap.size A (bys l)) (hm : n ≤ 1048576) (HL : Hid (l.length = n)) :
    Calls Try.prog 7 #[.slice A n c] w (Drawn w fun v => ∃ x : Int, v = .int .i64 x ∧ NearQ x) := by
  go_enter Try.func7, Try.ntmps7
  go_wp2_with fail
  refine (l1New_any hr hm HL).mono ?_
  rintro e w1 ⟨g, rfl, hc1, hb1, hg⟩
  go_wp2_with fail
  refine (l2Number_any hc1).mono ?_
  rintro e w2 ⟨⟨x, hx, rfl⟩, hc2, hg2⟩
  replace hb1 := below_only hb1 hg2 hb1.size (fun k hk => by injection hk; omega)
  go_wp2
  go_ret
  exact ⟨_, rfl, ⟨x, rfl, hx⟩, hb1⟩
/-- A text and a place near its start. -/
def TextAt (v : Value) : Prop := ∃ (s : ByteArray) (x : Int), v = .tuple #[.string s, .int .i64 x] ∧ s.size ≤ 16 ∧ -1 ≤ x ∧ x ≤ 3
set_option maxRecDepth 20000 in
set_option maxHeartbeats 2000000 in
theorem drawDecodeQuic {A : Option Addr} {c n : Nat} {w : World} {l : List Int} (hr : Rd w w.heap.size A (bys l)) (hm : n ≤ 1048576) (HL : Hid (l.length = n)) :
    Calls Try.prog 13 #[.slice A n c] w (Drawn w TextAt) := by
  go_enter Try.func13, Try.ntmps13
  go_wp2_with fail
  refine (l1New_any hr hm HL).mono ?_
  rintro e w1 ⟨g, rfl, hc1, hb1, hg⟩
  go_wp2_with fail
  refine (l1Once_any 3 (by decide) (by decide) hc1).mono ?_
  rintro e w2 ⟨⟨b, rfl⟩, hc2, hg2⟩
  replace hb1 := below_only hb1 hg2 hb1.size (fun k hk => by injection hk; omega)
  clear hc1 hg2
  cases b
  · go_wp2_with fail
    refine (l2Number_any hc2).mono ?_
    rintro e w3 ⟨⟨x, hx, rfl⟩, hc3, hg3⟩
    replace hb1 := below_only hb1 hg3 hb1.size (fun k hk => by injection hk; omega)
    clear hc2 hg3
    go_wp2_with fail
    refine (sEncI _ _).mono ?_
    rintro e w4 ⟨rfl, hb4⟩
    have hc4 := cur_step hc3 hb4
    replace hb1 := below_next hb1 hb1.size hb4
    clear hc3 hb4
    go_wp2_with fail
    refine (l2Number_any hc4).mono ?_
    rintro e w5 ⟨⟨y, hy, rfl⟩, hc5, hg5⟩
    replace hb1 := below_only hb1 hg5 hb1.size (fun k hk => by injection hk; omega)
    clear hc4 hg5
    go_wp2_with fail
    refine (sEncI _ _).mono ?_
    rintro e w6 ⟨rfl, hb6⟩
    have hc6 := cur_step hc5 hb6
    replace hb1 := below_next hb1 hb1.size hb6
    clear hc5 hb6
    have z1 := encI_size x
    have z2 := encI_size y
    go_wp2_with fail
    refine (l1Below_any 3 (by decide) (by decide) hc6).mono ?_
    rintro e w7 ⟨⟨z, ⟨hz0, hz1⟩, rfl⟩, hc7, hg7⟩
    replace hb1 := below_only hb1 hg7 hb1.size (fun k hk => by injection hk; omega)
    clear hc6 hg7
    go_wp2
    go_ret2
    exact ⟨_, rfl, ⟨_, z, rfl, by rw [ByteArray.size_append]; omega, by omega, by omega⟩, hb1⟩
  · go_wp2_with fail
    refine (l2Bytes_any 9 (by decide) hc2).mono ?_
    rintro e w3 ⟨⟨s, hs, rfl⟩, hc3, hg3⟩
    replace hb1 := below_only hb1 hg3 hb1.size (fun k hk => by injection hk; omega)
    clear hc2 hg3
    go_wp2_with fail
    refine (l1Below_any 4 (by decide) (by decide) hc3).mono ?_
    rintro e w7 ⟨⟨z, ⟨hz0, hz1⟩, rfl⟩, hc7, hg7⟩
    replace hb1 := below_only hb1 hg7 hb1.size (fun k hk => by injection hk; omega)
    clear hc3 hg7
    go_wp2
    go_ret2
    exact ⟨_, rfl, ⟨s, _, rfl, by omega, by omega, by omega⟩, hb1⟩
def shL : List ByteArray := [⟨#[64, 5]⟩, ⟨#[64, 64]⟩, ⟨#[128, 0, 0, 5]⟩, ⟨#[5]⟩, ⟨#[]⟩, ⟨#[64]⟩]
set_option maxRecDepth 20000 in
set_option maxHeartbeats 2000000 in
theorem drawIsShortest {A : Option Addr} {c n : Nat} {w : World} {l : List Int} (hr : Rd w w.heap.size A (bys l)) (hm : n ≤ 1048576) (HL : Hid (l.length = n)) :
    Calls Try.prog 18 #[.slice A n c] w (Drawn w TextAt) := by
  go_enter Try.func18, Try.ntmps18
  go_wp2_with fail
  refine (l1New_any hr hm HL).mono ?_
  rintro e w1 ⟨g, rfl, hc1, hb1, hg⟩
  go_wp2_with fail
  refine (l1Once_any 3 (by decide) (by decide) hc1).mono ?_
  rintro e w2 ⟨⟨b, rfl⟩, hc2, hg2⟩
  replace hb1 := below_only hb1 hg2 hb1.size (fun k hk => by injection hk; omega)
  clear hc1 hg2
  cases b
  · have hr2 := (hr.below hb1 (Nat.le_refl _)).more hb1.size
    go_wp2_with fail
    refine (drawDecodeQuic hr2 hm HL).mono ?_
    rintro e w3 ⟨v, rfl, ⟨s, x, rfl, hs, hx0, hx1⟩, hb3⟩
    replace hb1 := below_next hb1 hb1.size hb3
    clear hr2 hb3
    go_wp2
    go_ret2
    exact ⟨_, rfl, ⟨s, x, rfl, hs, hx0, hx1⟩, hb1⟩
  · go_wp2_with fail
    have al := (Below.refl w2.heap.size w2).alloc (Nat.le_refl _) (.cells (strs shL).toArray 9)
    have hr := lit_rd w2 9 (strs shL)
    refine (l1Pick_any hr (fun b o e => by simp at e; have := hc2.lt; omega) rfl (by decide) (by decide) (hc2.below al hc2.lt)).mono ?_
    rintro e w4 ⟨⟨u, hu, rfl⟩, hc4, hg4⟩
    replace hb1 := below_only (below_next hb1 hb1.size al) hg4 (by have := hb1.size; have := al.size; omega) (fun k hk => by injection hk; omega)
    have hu16 : u.size ≤ 16 := by
      have : ∀ u ∈ shL, u.size ≤ 16 := by decide
      exact this u hu
    clear hu hr al hg4 hc2
    go_wp2
    go_ret2
    exact ⟨_, rfl, ⟨u, 0, rfl, hu16, by omega, by omega⟩, hb1⟩
theorem own_lower' {w : World} {base base' : Nat} {e : TypeId} {size n : Nat} {v : Value} {xs : List Value} (h : w.ownsRow base e size v n xs) (hb : base' ≤ base) : w.ownsRow base' e size v n xs :=
  ⟨h.1, h.2.imp id fun ⟨g, cap, cur, e1, hb', r⟩ => ⟨g, cap, cur, e1, Nat.le_trans hb hb', r⟩⟩
theorem encL_sz (l : List Int) : (encL l).size ≤ 8 * l.length := by
  unfold encL
  split
  · exact jnF_size l _ (Nat.le_refl _)
  · exact Nat.zero_le _
/-- A slice of few ints near the wire's range. -/
def FewInts (w : World) (e : Ending) (w' : World) : Prop := ∃ A c L, e = .returned (.slice A (L : List Int).length c) ∧ L.length ≤ 4 ∧ (∀ x ∈ L, NearQ x) ∧ w'.ownsRow w.heap.size 3 1 (.slice A L.length c) L.length (ints L) ∧ Below w.heap.size w w'
theorem own_keepG {w w' : World} {base n g size : Nat} {e : TypeId} {v : Value} {xs : List Value} (h : w.ownsRow base e size v n xs) (hg : w.grownBy w' (some g)) (hgb : g < base) : w'.ownsRow base e size v n xs :=
  own_far h hg (fun k hk => by injection hk; omega)
theorem FewInts.of_own {w w' : World} {v : Value} {n : Nat} {L : List Int} (hv : v ≠ .slice none 0 0 ∨ True) (h : w'.ownsRow w.heap.size 3 1 v n (ints L)) (hn : n = L.length) (h4 : L.length ≤ 4) (hq : ∀ x ∈ L, NearQ x) (hb : Below w.heap.size w w') : FewInts w (.returned v) w' := by
  subst hn
  obtain ⟨A, c, rfl, _, _⟩ := Rd.of_own h
  exact ⟨A, c, L, rfl, h4, hq, h, hb⟩
set_option maxRecDepth 20000 in
set_option maxHeartbeats 4000000 in
theorem drawEncodeQuics {A : Option Addr} {c n : Nat} {w : World} {l : List Int} (hr : Rd w w.heap.size A (bys l)) (hm : n ≤ 1048576) (HL : Hid (l.length = n)) :
    Calls Try.prog 15 #[.slice A n c] w (FewInts w) := by
  obtain ⟨i0, hi, hz0, hz1, hz2⟩ := info_parts info_int
  go_enter Try.func15, Try.ntmps15
  go_wp2_with fail
  refine (l1New_any hr hm HL).mono ?_
  rintro e w1 ⟨g, rfl, hc1, hb1, hg⟩
  have hown := own_empty w1 w1.heap.size 3 1 (Nat.le_refl _)
  have al := (Below.refl w1.heap.size w1).alloc (Nat.le_refl _) (.cells #[] 3)
  have hgl := hc1.lt
  have hs1 := hb1.size
  have hc2 := cur_step hc1 al
  have hb2 := below_next hb1 hb1.size al
  have h12 := al.size
  clear hc1 hb1
  go_wp2_with fail
  generalize w1.alloc (.cells #[] 3) = w2 at hown hc2 hb2 h12 ⊢
  clear al
  refine (l1Below_any 5 (by decide) (by decide) hc2).mono ?_
  rintro e w3 ⟨⟨x, ⟨hx0, hx1⟩, rfl⟩, hc3, hg3⟩
  obtain ⟨k0, rfl⟩ := Int.eq_ofNat_of_zero_le hx0
  have HO0 := Lib.hid (own_keepG hown hg3 hgl)
  have HB0 := Lib.hid (below_only hb2 hg3 hb2.size (fun k hk => by injection hk; omega))
  have HC0 := Lib.hid hc3
  have h13 : w1.heap.size ≤ w3.heap.size := Nat.le_trans h12 hg3.size
  clear hown hc2 hg3 hb2 hc3
  go_wp2_with fail
  go_loopw [4, 5] (fun v i wr => ∃ (k : Nat) (L : List Int), i = .int .i64 k ∧ k + L.length ≤ 4 ∧ (∀ x ∈ L, NearQ x) ∧ wr.ownsRow w1.heap.size 3 1 v L.length (ints L) ∧ Cur wr g ∧ Below w.heap.size w wr ∧ w1.heap.size ≤ wr.heap.size) (fun v i _ => (intOf i).toNat)
  case atStart => exact ⟨k0, [], rfl, by simp; omega, by simp, HO0.out, HC0.out, HB0.out, h13⟩
  case round =>
    obtain ⟨k, L, rfl, hkl, hq, ho, hcr, hbr, h1r⟩ := hrel
    have HO := Lib.hid ho; clear ho HO0 HB0 HC0
    have HQ := Lib.hid hq; clear hq
    by_cases h0 : 0 < k
    · have hd0 : decide ((0 : Int) < (k : Int)) = true := by simp; omega
      go_wp2_with fail
      refine (l2Number_any hcr).mono ?_
      rintro e w4 ⟨⟨x, hx, rfl⟩, hc4, hg4⟩
      have HO4 := Lib.hid (own_keepG HO.out hg4 hgl)
      have hb4 := below_only hbr hg4 hbr.size (fun k hk => by injection hk; omega)
      have hsz := hb4.size
      have hgs := hg4.size
      have hb1s : w1.heap.size ≤ w4.heap.size := Nat.le_trans h1r hgs
      clear hcr hbr hg4 HO
      go_wp2_with (first | (at_builtin; refine wpList_append_own _ rfl _ _ 32 rfl w1.heap.size 3 i0 (.int .i64 0) 1 8 Try.underlying32 hi hz0 hz1 hz2 rfl (by decide) _ _ _ rfl (HO4.out.alloc _) ⟨w4.heap.size, 0, none⟩ 1 1 [.int .i64 x] rfl rfl (news1 _ (by simp)) (one_1 _) (by unfold maxLen; omega) (by omega) (by simp; omega) ?_))
      intro v' w5 hown1 hgrow _
      have al := (Below.refl w4.heap.size w4).alloc (Nat.le_refl _) (.cells #[.int .i64 x] 3)
      have hob := fun k hk => (HO4.out.lt k hk).1
      have hc5 : Cur w5 g := by
        have h1 := hc4.below al hc4.lt
        exact h1.below (B := g + 1) (below_only (Below.refl _ _) hgrow (by have := h1.lt; omega) (fun k hk => by have := hob k hk; omega)) (Nat.lt_succ_self g)
      have hb5 : Below w.heap.size w w5 := below_only (below_next hb4 hb4.size al) hgrow (by have := al.size; omega) (fun k hk => by have := hob k hk; omega)
      have HO5 := Lib.hid (show w5.ownsRow w1.heap.size 3 1 v' (L ++ [x]).length (ints (L ++ [x])) by rw [ints_snoc]; simpa using hown1)
      have HQ5 := Lib.hid (show ∀ y ∈ L ++ [x], NearQ y from fun y hy => by rcases List.mem_append.1 hy with h | h; exact HQ.out y h; simp at h; rw [h]; exact hx)
      have h15 : w1.heap.size ≤ w5.heap.size := by have := hgrow.size; have := al.size; omega
      clear hown1 hgrow HO4
      go_wp2
      go_roundw
      case rel => exact ⟨k - 1, L ++ [x], by go_num, by simp; omega, HQ5.out, HO5.out, hc5, hb5, h15⟩
      case measure => simp [intOf]; omega
    · have hd0 : decide ((0 : Int) < (k : Int)) = false := by simp; omega
      go_wp2
      go_ret
      exact FewInts.of_own (.inr trivial) (own_lower' HO.out hs1) rfl (by omega) HQ.out hbr
set_option maxRecDepth 20000 in
set_option maxHeartbeats 2000000 in
theorem drawDecodeQuics {A : Option Addr} {c n : Nat} {w : World} {l : List Int} (hr : Rd w w.heap.size A (bys l)) (hm : n ≤ 1048576) (HL : Hid (l.length = n)) :
    Calls Try.prog 19 #[.slice A n c] w (Drawn w fun v => ∃ s : ByteArray, v = .string s ∧ s.size ≤ 32) := by
  go_enter Try.func19, Try.ntmps19
  go_wp2_with fail
  refine (l1New_any hr hm HL).mono ?_
  rintro e w1 ⟨g, rfl, hc1, hb1, hg⟩
  go_wp2_with fail
  refine (l1Once_any 3 (by decide) (by decide) hc1).mono ?_
  rintro e w2 ⟨⟨b, rfl⟩, hc2, hg2⟩
  replace hb1 := below_only hb1 hg2 hb1.size (fun k hk => by injection hk; omega)
  clear hc1 hg2
  cases b
  · have hr2 := (hr.below hb1 (Nat.le_refl _)).more hb1.size
    go_wp2_with fail
    refine (drawEncodeQuics hr2 hm HL).mono ?_
    rintro e w3 ⟨A3, c3, L, rfl, h4, hq, ho, hb3⟩
    replace hb1 := below_next hb1 hb1.size hb3
    clear hr2 hb3
    go_wp2_with fail
    refine (sEncs (Nat.le_refl _) (own_rd ho) (by omega) (Lib.hid rfl)).mono ?_
    rintro e w4 ⟨rfl, hb4⟩
    replace hb1 := below_next hb1 hb1.size hb4
    have hz := encL_sz L
    go_wp2
    go_ret
    exact ⟨_, rfl, ⟨_, rfl, by omega⟩, hb1⟩
  · go_wp2_with fail
    refine (l2Bytes_any 12 (by decide) hc2).mono ?_
    rintro e w3 ⟨⟨s, hs, rfl⟩, hc3, hg3⟩
    replace hb1 := below_only hb1 hg3 hb1.size (fun k hk => by injection hk; omega)
    clear hc2 hg3
    go_wp2
    go_ret
    exact ⟨_, rfl, ⟨s, rfl, by omega⟩, hb1⟩
end Go.Proofs.Ytadoiehgobcjcaa

namespace Go.Proofs.Ytadoiehgobcjcaa.VM
theorem ofNat_toNat (m : Nat) : (UInt8.ofNat m).toNat = m % 256 := by simp
theorem u8_ext {a b : UInt8} (h : a.toNat = b.toNat) : a = b := UInt8.toNat_inj.1 h
/- varints -/
def encV : Nat → Nat → List UInt8
  | 0, n => [UInt8.ofNat n]
  | f + 1, n => if n < 128 then [UInt8.ofNat n] else UInt8.ofNat (n % 128 + 128) :: encV f (n / 128)
theorem encV_small {f n : Nat} (h : n < 128) : encV f n = [UInt8.ofNat n] := by
  cases f with
  | zero => rfl
  | succ f => simp [encV, h]
theorem encV_big {f n : Nat} (h : ¬ n < 128) : encV (f + 1) n = UInt8.ofNat (n % 128 + 128) :: encV f (n / 128) := by simp [encV, h]
/-- value of the first k bytes, least first -/
def acc (l : List UInt8) : Nat → Nat
  | 0 => 0
  | k + 1 => (match l with | [] => 0 | c :: t => c.toNat % 128 + 128 * acc t k)
def accG : Nat → List UInt8 → Nat
  | _, [] => 0
  | 0, _ => 0
  | k + 1, c :: t => c.toNat % 128 + 128 * accG k t
theorem accG_zero (l : List UInt8) : accG 0 l = 0 := by cases l <;> rfl
theorem accG_snoc (k : Nat) : ∀ (l : List UInt8) (c : UInt8), l[k]? = some c → accG (k + 1) l = accG k l + 128 ^ k * (c.toNat % 128) := by
  induction k with
  | zero =>
    intro l c h
    cases l with
    | nil => cases h
    | cons d t => simp at h; subst h; simp [accG, accG_zero]
  | succ k ih =>
    intro l c h
    cases l with
    | nil => cases h
    | cons d t =>
      simp only [List.getElem?_cons_succ] at h
      have := ih t c h
      simp only [accG] at this ⊢
      rw [this, Nat.mul_add, Nat.pow_succ, ← Nat.mul_assoc, Nat.mul_comm 128 (128 ^ k)]
      omega
theorem accG_lt (k : Nat) : ∀ (l : List UInt8), accG k l < 128 ^ k := by
  induction k with
  | zero => intro l; rw [accG_zero]; decide
  | succ k ih =>
    intro l
    cases l with
    | nil => simp only [accG]; exact Nat.pow_pos (by decide)
    | cons c t =>
      have := ih t
      simp only [accG]
      rw [Nat.pow_succ]
      omega
/-- the form at the head: value, length -/
def decV : Nat → List UInt8 → Option (Nat × Nat)
  | 0, _ => none
  | _, [] => none
  | f + 1, c :: t => if c.toNat < 128 then some (c.toNat, 1) else (decV f t).map fun p => (c.toNat % 128 + 128 * p.1, p.2 + 1)
/-- place of the first small byte among the first f -/
def stop : Nat → List UInt8 → Option Nat
  | 0, _ => none
  | _, [] => none
  | f + 1, c :: t => if c.toNat < 128 then some 0 else (stop f t).map (· + 1)
theorem stop_none {f : Nat} : ∀ {l : List UInt8}, stop f l = none → ∀ i c, i < f → l[i]? = some c → 128 ≤ c.toNat := by
  induction f with
  | zero => intro l _ i c hi; omega
  | succ f ih =>
    intro l h i c hi hc
    cases l with
    | nil => cases hc
    | cons d t =>
      simp only [stop] at h
      split at h
      · cases h
      · rename_i hd
        cases i with
        | zero => simp at hc; subst hc; omega
        | succ i =>
          exact ih (by simpa using h) i c (by omega) (by simpa using hc)
theorem stop_some {f : Nat} : ∀ {l : List UInt8} {i : Nat}, stop f l = some i → i < f ∧ (∃ c, l[i]? = some c ∧ c.toNat < 128) ∧ ∀ j c, j < i → l[j]? = some c → 128 ≤ c.toNat := by
  induction f with
  | zero => intro l i h; cases h
  | succ f ih =>
    intro l i h
    cases l with
    | nil => cases h
    | cons d t =>
      simp only [stop] at h
      split at h
      · rename_i hd
        injection h with h; subst h
        exact ⟨by omega, ⟨d, rfl, hd⟩, fun j c hj => by omega⟩
      · rename_i hd
        simp only [Option.map_eq_some_iff] at h
        obtain ⟨i', h1, rfl⟩ := h
        obtain ⟨a, ⟨c, b1, b2⟩, e⟩ := ih h1
        refine ⟨by omega, ⟨c, by simpa using b1, b2⟩, fun j c' hj hc' => ?_⟩
        cases j with
        | zero => simp at hc'; subst hc'; omega
        | succ j => exact e j c' (by omega) (by simpa using hc')
theorem stop_of {f : Nat} : ∀ {l : List UInt8} {i : Nat} {c : UInt8}, i < f → l[i]? = some c → c.toNat < 128 → (∀ j c, j < i → l[j]? = some c → 128 ≤ c.toNat) → stop f l = some i := by
  induction f with
  | zero => intro l i c h; omega
  | succ f ih =>
    intro l i c hi hc hlt hb
    cases l with
    | nil => cases hc
    | cons d t =>
      simp only [stop]
      cases i with
      | zero => simp at hc; subst hc; rw [if_pos hlt]
      | succ i =>
        have h0 := hb 0 d (by omega) rfl
        rw [if_neg (by omega), ih (i := i) (by omega) (by simpa using hc) hlt (fun j c' hj hc' => hb (j + 1) c' (by omega) (by simpa using hc'))]
        rfl
/-- what DecodeVarint returns -/
def dv (l : List UInt8) : Nat × Nat :=
  match stop 7 l with
  | none => (0, 0)
  | some i => if 0 < i ∧ (l.getD i 0).toNat = 0 then (0, 0) else (accG (i + 1) l, i + 1)

/-- encV of an accumulated value: the same bytes just where the form is shortest -/
theorem encV_acc (k : Nat) : ∀ (f : Nat) (l : List UInt8), k ≤ f → k < l.length →
    (encV f (accG (k + 1) l) = l.take (k + 1) ↔ (∀ j c, j < k → l[j]? = some c → 128 ≤ c.toNat) ∧ (l.getD k 0).toNat < 128 ∧ (0 < k → (l.getD k 0).toNat ≠ 0)) := by
  induction k with
  | zero =>
    intro f l _ hl
    cases l with
    | nil => simp at hl
    | cons c t =>
      have hc := c.toNat_lt
      simp only [accG, accG_zero, Nat.mul_zero, Nat.add_zero]
      rw [encV_small (by omega)]
      simp
      constructor
      · intro h
        have := congrArg UInt8.toNat h
        rw [ofNat_toNat] at this
        omega
      · intro h
        apply u8_ext
        rw [ofNat_toNat]; omega
  | succ k ih =>
    intro f l hf hl
    cases l with
    | nil => simp at hl
    | cons c t =>
      have hc := c.toNat_lt
      obtain ⟨f, rfl⟩ : ∃ g, f = g + 1 := ⟨f - 1, by omega⟩
      have ih' := ih f t (by omega) (by simpa using hl)
      have hlt := accG_lt (k + 1) t
      have hlk : k < t.length := by simpa using hl
      have hget : (c :: t).getD (k + 1) 0 = t.getD k 0 := by simp
      have hacc : accG (k + 1 + 1) (c :: t) = c.toNat % 128 + 128 * accG (k + 1) t := rfl
      rw [hget, hacc, List.take_succ_cons]
      by_cases hz : accG (k + 1) t = 0
      · rw [hz, Nat.mul_zero, Nat.add_zero, encV_small (by omega)]
        constructor
        · intro h
          exfalso
          have := congrArg List.length h
          rw [List.length_singleton, List.length_cons, List.length_take] at this
          omega
        · rintro ⟨h1, h2, h3⟩
          exfalso
          have hs := accG_snoc k t (t.getD k 0) (by simp [hlk])
          rw [hz] at hs
          have hne := h3 (by omega)
          have : (t.getD k 0).toNat % 128 = (t.getD k 0).toNat := Nat.mod_eq_of_lt h2
          have hs2 : accG k t + 128 ^ k * (t.getD k 0).toNat = 0 := by rw [← this]; omega
          have hp : 0 < 128 ^ k * (t.getD k 0).toNat := Nat.mul_pos (Nat.pow_pos (by decide)) (by omega)
          generalize 128 ^ k * (t.getD k 0).toNat = z at hs2 hp
          omega
      · rw [encV_big (by omega)]
        have e1 : (c.toNat % 128 + 128 * accG (k + 1) t) % 128 = c.toNat % 128 := by omega
        have e2 : (c.toNat % 128 + 128 * accG (k + 1) t) / 128 = accG (k + 1) t := by omega
        rw [e1, e2, List.cons.injEq, ih']
        constructor
        · rintro ⟨h0, h1, h2, h3⟩
          have h0' := congrArg UInt8.toNat h0
          rw [ofNat_toNat] at h0'
          refine ⟨fun j d hj hd => ?_, h2, fun _ => ?_⟩
          · cases j with
            | zero => simp at hd; subst hd; omega
            | succ j => exact h1 j d (by omega) (by simpa using hd)
          · intro hzero
            by_cases hk : 0 < k
            · exact h3 hk hzero
            · have : k = 0 := by omega
              subst this
              cases t with
              | nil => simp at hlk
              | cons d t => simp [accG, accG_zero] at hz hzero; omega
        · rintro ⟨h1, h2, h3⟩
          refine ⟨?_, fun j d hj hd => h1 (j + 1) d (by omega) (by simpa using hd), h2, fun _ => h3 (by omega)⟩
          apply u8_ext
          rw [ofNat_toNat]
          have := h1 0 c (by omega) rfl
          omega
/-- spec's search: the first k with encV (acc k) = take k gives dv; none: (0,0) -/
theorem dv_hit {l : List UInt8} {k : Nat} (hk : k < 7) (hl : k < l.length) (h : encV 7 (accG (k + 1) l) = l.take (k + 1)) : dv l = (accG (k + 1) l, k + 1) := by
  rw [encV_acc k 7 l (by omega) hl] at h
  obtain ⟨h1, h2, h3⟩ := h
  have hs : stop 7 l = some k := stop_of (c := l.getD k 0) hk (by simp [hl]) h2 h1
  unfold dv
  rw [hs]
  simp only
  rw [if_neg (by rintro ⟨a, b⟩; exact h3 a b)]
theorem dv_miss {l : List UInt8} (h : ∀ k, k < 7 → k < l.length → encV 7 (accG (k + 1) l) ≠ l.take (k + 1)) : dv l = (0, 0) := by
  unfold dv
  split
  · rfl
  · rename_i i hs
    obtain ⟨h1, ⟨c, h2, h3⟩, h4⟩ := stop_some hs
    have hl : i < l.length := by rw [List.getElem?_eq_some_iff] at h2; exact h2.1
    have := h i h1 hl
    rw [ne_eq, encV_acc i 7 l (by omega) hl] at this
    have hg : l.getD i 0 = c := by simp [h2]
    split
    · rfl
    · rename_i hc
      exfalso
      apply this
      refine ⟨h4, by rw [hg]; exact h3, fun hi hz => hc ⟨hi, hz⟩⟩
/- the round trip -/
theorem encV_len (f : Nat) : ∀ n, 1 ≤ (encV f n).length ∧ (encV f n).length ≤ f + 1 := by
  induction f with
  | zero => intro n; simp [encV]
  | succ f ih =>
    intro n
    by_cases h : n < 128
    · rw [encV_small h]; simp
    · rw [encV_big h]; have := ih (n / 128); simp; omega
theorem encV_round (f : Nat) : ∀ (n : Nat) (t : List UInt8), n < 128 ^ (f + 1) → (∀ j, j < (encV f n).length - 1 → 128 ≤ ((encV f n ++ t).getD j 0).toNat) ∧ ((encV f n ++ t).getD ((encV f n).length - 1) 0).toNat < 128 ∧
    (128 ≤ n → ((encV f n ++ t).getD ((encV f n).length - 1) 0).toNat ≠ 0) ∧ accG (encV f n).length (encV f n ++ t) = n ∧ (128 ≤ n ↔ 2 ≤ (encV f n).length) := by
  induction f with
  | zero =>
    intro n t h
    simp at h
    have e : encV 0 n = [UInt8.ofNat n] := rfl
    rw [e]
    have hn : (UInt8.ofNat n).toNat = n := by rw [ofNat_toNat]; omega
    simp [accG, accG_zero, hn]
    omega
  | succ f ih =>
    intro n t h
    by_cases hs : n < 128
    · rw [encV_small hs]
      have hn : (UInt8.ofNat n).toNat = n := by rw [ofNat_toNat]; omega
      simp [accG, accG_zero, hn]
      omega
    · rw [encV_big hs]
      have hq : n / 128 < 128 ^ (f + 1) := by rw [Nat.pow_succ] at h; omega
      obtain ⟨i1, i2, i3, i4, i5⟩ := ih (n / 128) t hq
      have hl := encV_len f (n / 128)
      have hb : (UInt8.ofNat (n % 128 + 128)).toNat = n % 128 + 128 := by rw [ofNat_toNat]; omega
      have hL : (UInt8.ofNat (n % 128 + 128) :: encV f (n / 128)).length - 1 = (encV f (n / 128)).length - 1 + 1 := by simp; omega
      refine ⟨fun j hj => ?_, ?_, fun _ => ?_, ?_, ?_⟩
      · cases j with
        | zero => simp only [List.cons_append, List.getD_cons_zero, hb]; omega
        | succ j => simpa using i1 j (by simp at hj; omega)
      · rw [hL]; simpa using i2
      · rw [hL]
        simp only [List.cons_append, List.getD_cons_succ]
        by_cases hn : 128 ≤ n / 128
        · exact i3 hn
        · have e : encV f (n / 128) = [UInt8.ofNat (n / 128)] := encV_small (by omega)
          rw [e]
          simp only [List.length_singleton, Nat.sub_self, List.cons_append, List.getD_cons_zero, ofNat_toNat]
          omega
      · rw [List.length_cons, List.cons_append]
        simp only [accG, i4, hb]; omega
      · simp; omega
theorem encV_len_pow (k : Nat) : ∀ f n, n < 128 ^ (k + 1) → (encV f n).length ≤ k + 1 := by
  induction k with
  | zero => intro f n h; rw [encV_small (by simpa using h)]; simp
  | succ k ih =>
    intro f n h
    by_cases hs : n < 128
    · rw [encV_small hs]; simp
    · cases f with
      | zero => simp [encV]
      | succ f =>
        rw [encV_big hs]
        have := ih f (n / 128) (by rw [Nat.pow_succ] at h; omega)
        simp; omega
theorem dv_encV {n : Nat} (h : n ≤ 562949953421311) (t : List UInt8) : dv (encV 7 n ++ t) = (n, (encV 7 n).length) := by
  have hl7 : (encV 7 n).length ≤ 7 := encV_len_pow 6 7 n (by simp; omega)
  have hl1 := (encV_len 7 n).1
  obtain ⟨i1, i2, i3, i4, i5⟩ := encV_round 7 n t (by simp; omega)
  generalize hL : encV 7 n ++ t = L at i1 i2 i3 i4 ⊢
  have hLl : (encV 7 n).length - 1 < L.length := by rw [← hL]; simp; omega
  have hs : stop 7 L = some ((encV 7 n).length - 1) := by
    refine stop_of (c := L.getD ((encV 7 n).length - 1) 0) (by omega) (by simp [hLl]) i2 (fun j c hj hc => ?_)
    have := i1 j hj
    simpa [hc] using this
  unfold dv
  rw [hs]
  simp only
  have e : (encV 7 n).length - 1 + 1 = (encV 7 n).length := by omega
  rw [e, i4, if_neg]
  rintro ⟨a, b⟩
  exact i3 (by omega) b
/- hex -/
def digs : List UInt8 := [48, 49, 50, 51, 52, 53, 54, 55, 56, 57, 97, 98, 99, 100, 101, 102]
def dig (k : Nat) : UInt8 := digs.getD k 0
def hexV (c : UInt8) : Int := if 48 ≤ c.toNat ∧ c.toNat ≤ 57 then c.toNat - 48 else if 97 ≤ c.toNat ∧ c.toNat ≤ 102 then c.toNat - 87 else -1
theorem hexV_dig : ∀ k : Fin 16, hexV (dig k.val) = k.val := by decide
theorem dig_hexV : ∀ n : Fin 256, 0 ≤ hexV (UInt8.ofNat n.val) → dig (hexV (UInt8.ofNat n.val)).toNat = UInt8.ofNat n.val := by decide +kernel
theorem hexV_lt : ∀ n : Fin 256, hexV (UInt8.ofNat n.val) < 16 ∧ -1 ≤ hexV (UInt8.ofNat n.val) := by decide +kernel
theorem hexV_bd (c : UInt8) : hexV c < 16 ∧ -1 ≤ hexV c := by
  have := hexV_lt ⟨c.toNat, c.toNat_lt⟩
  simpa using this
theorem dig_eq {c : UInt8} {k : Nat} (hk : k < 16) : dig k = c ↔ hexV c = k := by
  constructor
  · intro h; rw [← h]; exact hexV_dig ⟨k, hk⟩
  · intro h
    have := dig_hexV ⟨c.toNat, c.toNat_lt⟩
    simp at this
    have := this (by omega)
    rw [h] at this
    simpa using this
def encH (l : List UInt8) : List UInt8 := l.flatMap fun c => [dig (c.toNat / 16), dig (c.toNat % 16)]
theorem encH_len (l : List UInt8) : (encH l).length = 2 * l.length := by
  induction l with
  | nil => rfl
  | cons c l ih => show (_ :: _ :: encH l).length = _; simp [ih]; omega
def decH : List UInt8 → Option (List UInt8)
  | [] => some []
  | [_] => none
  | a :: b :: t => if hexV a < 0 ∨ hexV b < 0 then none else (decH t).map (UInt8.ofNat (16 * (hexV a).toNat + (hexV b).toNat) :: ·)
theorem decH_encH (l : List UInt8) : decH (encH l) = some l := by
  induction l with
  | nil => rfl
  | cons c l ih =>
    show decH (dig (c.toNat / 16) :: dig (c.toNat % 16) :: encH l) = _
    have hc := c.toNat_lt
    have h1 := hexV_dig ⟨c.toNat / 16, by omega⟩
    have h2 := hexV_dig ⟨c.toNat % 16, by omega⟩
    simp only at h1 h2
    simp only [decH, h1, h2, ih]
    rw [if_neg (by omega)]
    simp only [Option.map_some, Option.some.injEq, List.cons.injEq, and_true]
    apply u8_ext
    rw [ofNat_toNat]; omega
theorem decH_odd : ∀ (n : Nat) (l : List UInt8), l.length = 2 * n + 1 → decH l = none := by
  intro n
  induction n with
  | zero => intro l h; match l, h with | [a], _ => rfl
  | succ n ih =>
    intro l h
    match l, h with
    | a :: b :: t, h =>
      simp only [decH]
      split
      · rfl
      · rw [ih t (by simp at h; omega)]; rfl
end Go.Proofs.Ytadoiehgobcjcaa.VM

namespace Go.Proofs.Ytadoiehgobcjcaa
open Go.ChangeShapes Go.WideShapes Go.ChangeAt Go.RowKit Go.Sort QM
set_option linter.unusedVariables false
set_option linter.unusedSimpArgs false
theorem info_byte : (Try.prog.info? 5).map (fun i => (i.zero, i.size, i.bytes)) = some (some (.int .u8 0), 1, 1) := by kernel_rfl
/-- The cells of a list of bytes. -/
def ubs (l : List UInt8) : List Value := l.map (fun b => .int .u8 (b.toNat : Int))
theorem ubs_len (l : List UInt8) : (ubs l).length = l.length := by simp [ubs]
theorem ubs_snoc (l : List UInt8) (m : Nat) (c : Int) (hc : c = (m : Int)) (hm : m < 256) : ubs l ++ [.int .u8 c] = ubs (l ++ [UInt8.ofNat m]) := by
  subst hc
  have e : (UInt8.ofNat m).toNat = m := by rw [ofNat_toNat]; omega
  simp only [ubs, List.map_append, List.map_cons, List.map_nil, e]
theorem ubs_snoc2 (l : List UInt8) (x y : UInt8) : ubs l ++ [.int .u8 (x.toNat : Int), .int .u8 (y.toNat : Int)] = ubs (l ++ [x, y]) := by simp [ubs]
theorem conv_own {w : World} {base n : Nat} {v : Value} {l : List UInt8} (h : w.ownsRow base 5 1 v n (ubs l)) (hne : v ≠ .slice none 0 0) :
    (convert 22 9 v).run Try.prog w = .ok (.string ⟨l.toArray⟩) w := by
  have hl : l.length = n := by have := h.1; simpa [ubs] using this
  rcases h.2 with ⟨e, _⟩ | ⟨g, cap, cur, rfl, hb, hh, hn, hcm, hcs, ht⟩
  · exact absurd e hne
  · have h2 := run_convert_bytes_back (P := Try.prog) w 22 9 5 ⟨g, 0, none⟩ cap l Try.underlying22 Try.underlying5 Try.underlying9 (fun j hj => by
      exact h.cells (g := g) rfl j (.int .u8 (l[j].toNat : Int)) (by simp [ubs, hj]))
    rw [hl] at h2
    exact h2
theorem bown_empty (w : World) (base : Nat) (T : TypeId) (size : Nat) (hb : base ≤ w.heap.size) : (w.alloc (.cells #[] T)).ownsRow base T size (.slice (some ⟨w.heap.size, 0, none⟩) 0 0) 0 [] :=
  World.ownsRow_made w #[] 0 hb (by unfold maxLen; omega) (by simp)
theorem bnews1 {w : World} {g : Nat} {T : TypeId} (u : Value) (hg : g = w.heap.size) : ∀ (j : Nat) (x : Value), [u][j]? = some x → (w.alloc (.cells #[u] T)).cell? ((⟨g, 0, none⟩ : Addr).add j) = some x := by
  subst hg
  intro j x hj
  match j, hj with
  | 0, hj => simp at hj; subst hj; simp [Addr.add, go_sem]
  | j + 1, hj => simp at hj
theorem bnews2 {w : World} {g : Nat} {T : TypeId} (u v : Value) (hg : g = w.heap.size) : ∀ (j : Nat) (x : Value), [u, v][j]? = some x → (w.alloc (.cells #[u, v] T)).cell? ((⟨g, 0, none⟩ : Addr).add j) = some x := by
  subst hg
  intro j x hj
  match j, hj with
  | 0, hj => simp at hj; subst hj; simp [Addr.add, go_sem]
  | 1, hj => simp at hj; subst hj; simp [Addr.add, go_sem]
  | j + 2, hj => simp at hj
theorem bone_1 (a : Int) : ∀ u ∈ [Value.int .u8 a], u.oneCell' = true := by intro u hu; simp at hu; subst hu; rfl
theorem bone_2 (a b : Int) : ∀ u ∈ [Value.int .u8 a, Value.int .u8 b], u.oneCell' = true := by intro u hu; simp at hu; rcases hu with rfl | rfl <;> rfl
theorem some_next {w w' : World} {base : Nat} {e : TypeId} {size n m : Nat} {v v' : Value} (h : v' = .slice none 0 0 ↔ v = .slice none 0 0 ∧ m = 0) (hm : m ≠ 0) : v' ≠ .slice none 0 0 := fun e => hm (h.1 e).2
end Go.Proofs.Ytadoiehgobcjcaa

namespace Go.Proofs.Ytadoiehgobcjcaa
open Go.ChangeShapes Go.WideShapes Go.ChangeAt Go.RowKit Go.Sort
set_option linter.unusedVariables false
set_option linter.unusedSimpArgs false
theorem below_of_grown {w w' : World} {row : Option Nat} {B : Nat} (h : w.grownBy w' row) (hB : B ≤ w.heap.size) (hr : ∀ k, row = some k → B ≤ k) : Below B w w' :=
  ⟨h.os, h.tape, h.output, h.size, fun k hk => h.block k (by omega) (fun e => by have := hr k e.symm; omega)⟩
set_option maxRecDepth 20000 in
set_option maxHeartbeats 4000000 in
theorem l1Text_any {w : World} {g : Nat} (m : Nat) (hm : m ≤ 255) (hc : Cur w g) : Calls Try.prog 74 #[.pointer (some ⟨g, 0, none⟩), .int .i64 m] w (DrawT w g fun s => s.size ≤ m) := by
  obtain ⟨i0, hi, hz0, hz1, hz2⟩ := info_parts info_byte
  have hgl := hc.lt
  have hown := bown_empty w w.heap.size 5 1 (Nat.le_refl _)
  have al := (Below.refl w.heap.size w).alloc (Nat.le_refl _) (.cells #[] 5)
  have hg0 := gb_of_below al (some g)
  have hc0 := hc.below al hc.lt
  go_enter Try.func74, Try.ntmps74
  go_wp2_with fail
  generalize w.alloc (.cells #[] 5) = w0 at hown hg0 hc0 ⊢
  clear al hc
  refine (l1Below_any 4 (by decide) (by decide) hc0).mono ?_
  rintro e w1 ⟨⟨z, ⟨hz0', hz1'⟩, rfl⟩, hc1, hg1⟩
  replace hown := own_keepG hown hg1 hgl
  replace hg0 := grown_trans hg0 hg1
  clear hc0 hg1
  go_wp2_with fail
  refine (l1Below_any (m + 1) (by omega) (by omega) hc1).mono ?_
  rintro e w2 ⟨⟨x, ⟨hx0, hx1⟩, rfl⟩, hc2, hg2⟩
  obtain ⟨k0, rfl⟩ := Int.eq_ofNat_of_zero_le hx0
  have HO0 := Lib.hid (own_keepG hown hg2 hgl)
  have HG0 := Lib.hid (grown_trans hg0 hg2)
  have HC0 := Lib.hid hc2
  clear hown hc1 hg2 hg0 hc2
  go_wp2_with fail
  rcases (show z = 1 ∨ z = 2 ∨ (z ≠ 1 ∧ z ≠ 2) by omega) with hz1 | hz1 | ⟨hz1, hz2⟩
  · subst hz1
    go_loopw [5, 7] (fun v i wr => ∃ (k : Nat) (L : List UInt8), i = .int .i64 k ∧ k + L.length ≤ m ∧ v ≠ .slice none 0 0 ∧ wr.ownsRow w.heap.size 5 1 v L.length (ubs L) ∧ Cur wr g ∧ w.grownBy wr (some g)) (fun v i _ => (intOf i).toNat)
    case atStart => exact ⟨k0, [], rfl, by simp; omega, by simp, HO0.out, HC0.out, HG0.out⟩
    case round =>
      obtain ⟨k, L, rfl, hkl, hne, ho, hcr, hgr⟩ := hrel
      have HO := Lib.hid ho; clear ho HO0 HG0 HC0
      have HNE := Lib.hid hne; clear hne
      by_cases h0 : 0 < k
      · have hd0 : decide ((0 : Int) < (k : Int)) = true := by simp; omega
        go_wp2_with fail
        refine (l1Byte_any hcr).mono ?_
        rintro e w3 ⟨⟨b, ⟨hb0, hb1⟩, rfl⟩, hc3, hg3⟩
        obtain ⟨b, rfl⟩ := Int.eq_ofNat_of_zero_le hb0
        have HO3 := Lib.hid (own_keepG HO.out hg3 hgl)
        have hg4 := grown_trans hgr hg3
        have hsz := hg4.size
        clear hcr hgr hg3 HO
        go_wp2_with (first | (at_builtin; refine wpList_append_own _ rfl _ _ 22 rfl w.heap.size 5 i0 (.int .u8 0) 1 1 Try.underlying22 hi hz0 hz1 hz2 rfl (by decide) _ _ _ rfl (HO3.out.alloc _) ⟨w3.heap.size, 0, none⟩ 1 1 [.int .u8 ((b : Int) % 2)] rfl rfl (bnews1 _ (by simp)) (bone_1 _) (by unfold maxLen; omega) (by omega) (by simp; omega) ?_))
        intro v' w4 hown1 hgrow hnil
        have al := (Below.refl w3.heap.size w3).alloc (Nat.le_refl _) (.cells #[.int .u8 ((b : Int) % 2)] 5)
        have hob := fun k hk => (HO3.out.lt k hk).1
        have hc4 : Cur w4 g := by
          have h1 := hc3.below al hc3.lt
          exact h1.below (B := g + 1) (below_of_grown hgrow (by have := h1.lt; omega) (fun k hk => by have := hob k hk; omega)) (Nat.lt_succ_self g)
        have hg5 : w.grownBy w4 (some g) := by
          have h1 := grown_below hg4 al
          refine ⟨hgrow.os.trans h1.os, hgrow.tape.trans h1.tape, hgrow.output.trans h1.output, Nat.le_trans h1.size hgrow.size, fun k hk hne => (hgrow.block k (Nat.lt_of_lt_of_le hk h1.size) (fun e => by have := hob k e.symm; omega)).trans (h1.block k hk hne)⟩
        have HO4 := Lib.hid (show w4.ownsRow w.heap.size 5 1 v' (L ++ [UInt8.ofNat (b % 2)]).length (ubs (L ++ [UInt8.ofNat (b % 2)])) by rw [← ubs_snoc L (b % 2) ((b : Int) % 2) (by omega) (by omega)]; simpa using hown1)
        have HN4 := Lib.hid (show v' ≠ .slice none 0 0 from fun e => hnil e)
        clear hown1 hgrow hnil HO3
        go_wp2
        go_roundw
        case rel => exact ⟨k - 1, L ++ [UInt8.ofNat (b % 2)], by go_num, by simp; omega, HN4.out, HO4.out, hc4, hg5⟩
        case measure => simp [intOf]; omega
      · have hd0 : decide ((0 : Int) < (k : Int)) = false := by simp; omega
        have hcv := conv_own HO.out HNE.out
        have hsl : (⟨L.toArray⟩ : ByteArray).size = L.length := by show L.toArray.size = _; simp
        go_wp2
        go_ret
        exact ⟨⟨_, by show (⟨L.toArray⟩ : ByteArray).size ≤ m; rw [hsl]; omega, rfl⟩, hcr, hgr⟩
  · subst hz1
    go_loopw [5, 7] (fun v i wr => ∃ (k : Nat) (L : List UInt8), i = .int .i64 k ∧ k + L.length ≤ m ∧ v ≠ .slice none 0 0 ∧ wr.ownsRow w.heap.size 5 1 v L.length (ubs L) ∧ Cur wr g ∧ w.grownBy wr (some g)) (fun v i _ => (intOf i).toNat)
    case atStart => exact ⟨k0, [], rfl, by simp; omega, by simp, HO0.out, HC0.out, HG0.out⟩
    case round =>
      obtain ⟨k, L, rfl, hkl, hne, ho, hcr, hgr⟩ := hrel
      have HO := Lib.hid ho; clear ho HO0 HG0 HC0
      have HNE := Lib.hid hne; clear hne
      by_cases h0 : 0 < k
      · have hd0 : decide ((0 : Int) < (k : Int)) = true := by simp; omega
        go_wp2_with fail
        refine (l1Byte_any hcr).mono ?_
        rintro e w3 ⟨⟨b, ⟨hb0, hb1⟩, rfl⟩, hc3, hg3⟩
        obtain ⟨b, rfl⟩ := Int.eq_ofNat_of_zero_le hb0
        have HO3 := Lib.hid (own_keepG HO.out hg3 hgl)
        have hg4 := grown_trans hgr hg3
        have hsz := hg4.size
        clear hcr hgr hg3 HO
        go_wp2_with (first | (at_builtin; refine wpList_append_own _ rfl _ _ 22 rfl w.heap.size 5 i0 (.int .u8 0) 1 1 Try.underlying22 hi hz0 hz1 hz2 rfl (by decide) _ _ _ rfl (HO3.out.alloc _) ⟨w3.heap.size, 0, none⟩ 1 1 [.int .u8 (97 + (b : Int) % 4)] rfl rfl (bnews1 _ (by simp)) (bone_1 _) (by unfold maxLen; omega) (by omega) (by simp; omega) ?_))
        intro v' w4 hown1 hgrow hnil
        have al := (Below.refl w3.heap.size w3).alloc (Nat.le_refl _) (.cells #[.int .u8 (97 + (b : Int) % 4)] 5)
        have hob := fun k hk => (HO3.out.lt k hk).1
        have hc4 : Cur w4 g := by
          have h1 := hc3.below al hc3.lt
          exact h1.below (B := g + 1) (below_of_grown hgrow (by have := h1.lt; omega) (fun k hk => by have := hob k hk; omega)) (Nat.lt_succ_self g)
        have hg5 : w.grownBy w4 (some g) := by
          have h1 := grown_below hg4 al
          refine ⟨hgrow.os.trans h1.os, hgrow.tape.trans h1.tape, hgrow.output.trans h1.output, Nat.le_trans h1.size hgrow.size, fun k hk hne => (hgrow.block k (Nat.lt_of_lt_of_le hk h1.size) (fun e => by have := hob k e.symm; omega)).trans (h1.block k hk hne)⟩
        have HO4 := Lib.hid (show w4.ownsRow w.heap.size 5 1 v' (L ++ [UInt8.ofNat (97 + b % 4)]).length (ubs (L ++ [UInt8.ofNat (97 + b % 4)])) by rw [← ubs_snoc L (97 + b % 4) (97 + (b : Int) % 4) (by omega) (by omega)]; simpa using hown1)
        have HN4 := Lib.hid (show v' ≠ .slice none 0 0 from fun e => hnil e)
        clear hown1 hgrow hnil HO3
        go_wp2
        go_roundw
        case rel => exact ⟨k - 1, L ++ [UInt8.ofNat (97 + b % 4)], by go_num, by simp; omega, HN4.out, HO4.out, hc4, hg5⟩
        case measure => simp [intOf]; omega
      · have hd0 : decide ((0 : Int) < (k : Int)) = false := by simp; omega
        have hcv := conv_own HO.out HNE.out
        have hsl : (⟨L.toArray⟩ : ByteArray).size = L.length := by show L.toArray.size = _; simp
        go_wp2
        go_ret
        exact ⟨⟨_, by show (⟨L.toArray⟩ : ByteArray).size ≤ m; rw [hsl]; omega, rfl⟩, hcr, hgr⟩
  · have hz1b : (z == 1) = false := by simp; omega
    have hz2b : (z == 2) = false := by simp; omega
    clear hz1 hz2
    go_loopw [5, 7] (fun v i wr => ∃ (k : Nat) (L : List UInt8), i = .int .i64 k ∧ k + L.length ≤ m ∧ v ≠ .slice none 0 0 ∧ wr.ownsRow w.heap.size 5 1 v L.length (ubs L) ∧ Cur wr g ∧ w.grownBy wr (some g)) (fun v i _ => (intOf i).toNat)
    case atStart => exact ⟨k0, [], rfl, by simp; omega, by simp, HO0.out, HC0.out, HG0.out⟩
    case round =>
      obtain ⟨k, L, rfl, hkl, hne, ho, hcr, hgr⟩ := hrel
      have HO := Lib.hid ho; clear ho HO0 HG0 HC0
      have HNE := Lib.hid hne; clear hne
      by_cases h0 : 0 < k
      · have hd0 : decide ((0 : Int) < (k : Int)) = true := by simp; omega
        go_wp2_with fail
        refine (l1Byte_any hcr).mono ?_
        rintro e w3 ⟨⟨b, ⟨hb0, hb1⟩, rfl⟩, hc3, hg3⟩
        obtain ⟨b, rfl⟩ := Int.eq_ofNat_of_zero_le hb0
        have HO3 := Lib.hid (own_keepG HO.out hg3 hgl)
        have hg4 := grown_trans hgr hg3
        have hsz := hg4.size
        clear hcr hgr hg3 HO
        go_wp2_with (first | (at_builtin; refine wpList_append_own _ rfl _ _ 22 rfl w.heap.size 5 i0 (.int .u8 0) 1 1 Try.underlying22 hi hz0 hz1 hz2 rfl (by decide) _ _ _ rfl (HO3.out.alloc _) ⟨w3.heap.size, 0, none⟩ 1 1 [.int .u8 ((b : Int))] rfl rfl (bnews1 _ (by simp)) (bone_1 _) (by unfold maxLen; omega) (by omega) (by simp; omega) ?_))
        intro v' w4 hown1 hgrow hnil
        have al := (Below.refl w3.heap.size w3).alloc (Nat.le_refl _) (.cells #[.int .u8 ((b : Int))] 5)
        have hob := fun k hk => (HO3.out.lt k hk).1
        have hc4 : Cur w4 g := by
          have h1 := hc3.below al hc3.lt
          exact h1.below (B := g + 1) (below_of_grown hgrow (by have := h1.lt; omega) (fun k hk => by have := hob k hk; omega)) (Nat.lt_succ_self g)
        have hg5 : w.grownBy w4 (some g) := by
          have h1 := grown_below hg4 al
          refine ⟨hgrow.os.trans h1.os, hgrow.tape.trans h1.tape, hgrow.output.trans h1.output, Nat.le_trans h1.size hgrow.size, fun k hk hne => (hgrow.block k (Nat.lt_of_lt_of_le hk h1.size) (fun e => by have := hob k e.symm; omega)).trans (h1.block k hk hne)⟩
        have HO4 := Lib.hid (show w4.ownsRow w.heap.size 5 1 v' (L ++ [UInt8.ofNat (b)]).length (ubs (L ++ [UInt8.ofNat (b)])) by rw [← ubs_snoc L (b) ((b : Int)) (by omega) (by omega)]; simpa using hown1)
        have HN4 := Lib.hid (show v' ≠ .slice none 0 0 from fun e => hnil e)
        clear hown1 hgrow hnil HO3
        go_wp2
        go_roundw
        case rel => exact ⟨k - 1, L ++ [UInt8.ofNat (b)], by go_num, by simp; omega, HN4.out, HO4.out, hc4, hg5⟩
        case measure => simp [intOf]; omega
      · have hd0 : decide ((0 : Int) < (k : Int)) = false := by simp; omega
        have hcv := conv_own HO.out HNE.out
        have hsl : (⟨L.toArray⟩ : ByteArray).size = L.length := by show L.toArray.size = _; simp
        go_wp2
        go_ret
        exact ⟨⟨_, by show (⟨L.toArray⟩ : ByteArray).size ≤ m; rw [hsl]; omega, rfl⟩, hcr, hgr⟩
end Go.Proofs.Ytadoiehgobcjcaa

namespace Go.Proofs.Ytadoiehgobcjcaa
open Go.ChangeShapes Go.WideShapes Go.ChangeAt Go.RowKit Go.Sort QM
set_option linter.unusedVariables false
set_option linter.unusedSimpArgs false
def abcd : List ByteArray := [⟨#[97]⟩, ⟨#[98]⟩, ⟨#[99]⟩, ⟨#[100]⟩]
theorem abcd_size : ∀ u ∈ abcd, u.size = 1 := by decide
set_option maxRecDepth 20000 in
set_option maxHeartbeats 2000000 in
theorem l4Data_any {w : World} {g : Nat} (m : Nat) (hm : m ≤ 255) (hc : Cur w g) : Calls Try.prog 63 #[.pointer (some ⟨g, 0, none⟩), .int .i64 m] w (DrawT w g fun s => s.size ≤ m) := by
  go_enter Try.func63, Try.ntmps63
  go_wp2_with fail
  refine (l1Below_any (m + 1) (by omega) (by omega) hc).mono ?_
  rintro e w1 ⟨⟨x, ⟨hx0, hx1⟩, rfl⟩, hc1, hg1⟩
  obtain ⟨k0, rfl⟩ := Int.eq_ofNat_of_zero_le hx0
  go_wp2_with fail
  go_loopw [5, 6] (fun v i wr => ∃ (k : Nat) (s : ByteArray), i = .int .i64 k ∧ v = .string s ∧ s.size + k ≤ m ∧ Cur wr g ∧ w.grownBy wr (some g)) (fun v i _ => (intOf i).toNat)
  case atStart => exact ⟨k0, ⟨#[]⟩, rfl, rfl, by show 0 + k0 ≤ m; omega, hc1, hg1⟩
  case round =>
    obtain ⟨k, s, rfl, rfl, hsk, hcr, hgr⟩ := hrel
    clear hc1 hg1 hc
    by_cases h0 : 0 < k
    · have hd0 : decide ((0 : Int) < (k : Int)) = true := by simp; omega
      go_wp2_with fail
      have al := (Below.refl wr.heap.size wr).alloc (Nat.le_refl _) (.cells (strs abcd).toArray 9)
      have hr := lit_rd wr 9 (strs abcd)
      refine (l1Pick_any hr (fun b o e => by simp at e; have := hcr.lt; omega) rfl (by decide) (by decide) (hcr.below al hcr.lt)).mono ?_
      rintro e w3 ⟨⟨u, hu, rfl⟩, hc3, hg3⟩
      have ho := abcd_size u hu
      have hg4 := grown_trans (grown_below hgr al) hg3
      clear hcr hgr hg3 hr al hu
      go_wp2
      go_roundw
      case rel => exact ⟨k - 1, s ++ u, by go_num, rfl, by rw [ByteArray.size_append, ho]; omega, hc3, hg4⟩
      case measure => simp [intOf]; omega
    · have hd0 : decide ((0 : Int) < (k : Int)) = false := by simp; omega
      go_wp2
      go_ret
      exact ⟨⟨_, by omega, rfl⟩, hcr, hgr⟩
theorem conv_u8 (W : World) (z : Int) : (convert 22 9 (.slice (some ⟨W.heap.size, 0, none⟩) 1 1)).run Try.prog (W.alloc (.cells #[.int .u8 (IntKind.u8.wrap z)] 5)) = .ok (.string (one1 (IntKind.u8.wrap z).toNat)) (W.alloc (.cells #[.int .u8 (IntKind.u8.wrap z)] 5)) := by
  have h : 0 ≤ IntKind.u8.wrap z ∧ IntKind.u8.wrap z < 256 := by rw [IntKind.wrap_u8]; omega
  generalize IntKind.u8.wrap z = y at h
  exact conv1 W y y.toNat (by omega) (by omega)
set_option maxRecDepth 20000 in
set_option maxHeartbeats 4000000 in
theorem l1Spoil_any {w : World} {g : Nat} (s : ByteArray) (hs : s.size ≤ 250) (hc : Cur w g) : Calls Try.prog 62 #[.pointer (some ⟨g, 0, none⟩), .string s] w (DrawT w g fun t => t.size ≤ 260) := by
  by_cases hz : s.size = 0
  · have hd : ((s.size : Int) == 0) = true := by rw [hz]; rfl
    go_enter Try.func62, Try.ntmps62
    go_wp2_with fail
    refine (l1Text_any 3 (by decide) hc).mono ?_
    rintro e w1 ⟨⟨t, ht, rfl⟩, hc1, hg1⟩
    go_wp2
    go_ret
    exact ⟨⟨t, by show t.size ≤ 260; omega, rfl⟩, hc1, hg1⟩
  · have hd : ((s.size : Int) == 0) = false := beq_eq_false_iff_ne.2 (by omega)
    go_enter Try.func62, Try.ntmps62
    go_wp2_with fail
    refine (l1Below_any s.size (by omega) (by omega) hc).mono ?_
    rintro e w1 ⟨⟨k, ⟨hk0, hk1⟩, rfl⟩, hc1, hg1⟩
    obtain ⟨k, rfl⟩ := Int.eq_ofNat_of_zero_le hk0
    go_wp2_with fail
    refine (l1Below_any 4 (by decide) (by decide) hc1).mono ?_
    rintro e w2 ⟨⟨z, ⟨hz0, hz1⟩, rfl⟩, hc2, hg2⟩
    have hg := grown_trans hg1 hg2
    have hk : k < s.size := by omega
    have e1 : (s.extract 0 k).size = k := by rw [ByteArray.size_extract]; omega
    have e2 : (s.extract (k + 1) s.size).size = s.size - (k + 1) := by rw [ByteArray.size_extract]; omega
    have e3 : (s.extract k s.size).size = s.size - k := by rw [ByteArray.size_extract]; omega
    have f1 : (k : Int) ≤ (s.size : Int) := by omega
    have f2 : (k : Int) + 1 ≤ (s.size : Int) := by omega
    have f3 : k ≤ s.size := by omega
    have f4 : k + 1 ≤ s.size := by omega
    have f5 : (0 : Int) ≤ (k : Int) + 1 := by omega
    have f6 : ((k : Int) + 1).toNat = k + 1 := by omega
    have f7 : IntKind.i64.wrap ((k : Int) + 1) = (k : Int) + 1 := IntWalk.i64_in _ (by omega)
    have e4 : (s.extract 0 k).size ≤ 250 := by omega
    have e5 : (s.extract (k + 1) s.size).size ≤ 250 := by omega
    have e6 : (s.extract k s.size).size ≤ 250 := by omega
    have e7 : (s.extract 0 k ++ s.extract (k + 1) s.size).size ≤ 500 := by rw [ByteArray.size_append]; omega
    have hcv := conv_u8
    have ho := one1_size
    clear hc hc1 hg1 hg2
    rcases (show z = 0 ∨ z = 1 ∨ z = 2 ∨ z = 3 by omega) with rfl | rfl | rfl | rfl
    · go_wp2
      go_region
      go_wp2
      go_ret
      exact ⟨⟨_, by show (s.extract 0 k ++ s.extract (k + 1) s.size).size ≤ 260; rw [ByteArray.size_append, e1, e2]; omega, rfl⟩, hc2, grown_drew hg⟩
    · go_wp2
      go_region_with (first
        | (go_at_call 70; refine (l1Byte_any (g := g) (by exact hc2)).mono ?_; rintro e w3 ⟨⟨b, ⟨hb0, hb1⟩, rfl⟩, hc3, hg3⟩; obtain ⟨b, rfl⟩ := Int.eq_ofNat_of_zero_le hb0))
      all_goals go_wp2
      all_goals go_ret
      all_goals exact ⟨⟨_, by show ByteArray.size _ ≤ 260; simp only [ByteArray.size_append, e1, e2, e3, ho]; omega, rfl⟩, cur_step hc3 ((Below.refl _ _).alloc (Nat.le_refl _) _), grown_below (grown_trans (grown_drew hg) hg3) ((Below.refl _ _).alloc (Nat.le_refl _) _)⟩
    · go_wp2
      go_ret
      exact ⟨⟨_, by show (s.extract 0 k).size ≤ 260; rw [e1]; omega, rfl⟩, hc2, hg⟩
    · go_wp2
      go_region_with (first
        | (go_at_call 53; refine (l1Below_any (g := g) 255 (by decide) (by decide) (by exact hc2)).mono ?_; rintro e w3 ⟨⟨b, ⟨hb0, hb1⟩, rfl⟩, hc3, hg3⟩))
      all_goals go_wp2
      all_goals go_ret
      all_goals exact ⟨⟨_, by show ByteArray.size _ ≤ 260; simp only [ByteArray.size_append, e1, e2, e3, ho]; omega, rfl⟩, cur_step hc3 ((Below.refl _ _).alloc (Nat.le_refl _) _), grown_below (grown_trans (grown_drew hg) hg3) ((Below.refl _ _).alloc (Nat.le_refl _) _)⟩
end Go.Proofs.Ytadoiehgobcjcaa

namespace Go.Proofs.Ytadoiehgobcjcaa
open Go.ChangeShapes Go.WideShapes Go.ChangeAt Go.RowKit Go.Sort QM
set_option linter.unusedVariables false
set_option linter.unusedSimpArgs false
theorem bl_app (a b : ByteArray) : bl (a ++ b) = bl a ++ bl b := by simp [bl]
theorem bl_encB (n : Nat) : bl (encB n) = encQ n := by simp [bl, encB]
theorem encB_size (n : Nat) : (encB n).size = sizeQ n := by rw [← bl_len, bl_encB, encQ_len]
theorem dq_app (a t : ByteArray) (n : Nat) (hn : n ≤ 4611686018427387903) : dq (a ++ (encB n ++ t)) (a.size : Int) = some (n, sizeQ n) := by
  unfold dq
  rw [if_neg (by omega), Int.toNat_natCast, bl_app, bl_app, bl_encB, ← bl_len a, List.drop_left]
  exact deq_encQ n (by unfold maxQ; exact hn) _
theorem encI_in {x : Int} (h : qB x = true) : encI x = encB x.toNat := by unfold encI; rw [if_pos h]
theorem encI_out {x : Int} (h : qB x = false) : encI x = ⟨#[]⟩ := by unfold encI; rw [h]; rfl
theorem encI_sizeI (x : Int) : ((encI x).size : Int) = sizeI x := by
  cases h : qB x
  · rw [encI_out h]; unfold sizeI; rw [h]; rfl
  · obtain ⟨h0, h1⟩ := qB_true h
    rw [encI_in h, encB_size, ← sizeI_nat _ (by omega)]
    congr 1
    omega
theorem encI_pos {x : Int} (h : qB x = true) : 1 ≤ (encI x).size := by
  rw [encI_in h, encB_size]; exact (sizeQ_pos _).1
/-- A number behind a and ahead of t is read back. -/
theorem dq_encI (a t : ByteArray) {x : Int} (h : qB x = true) : dq (a ++ (encI x ++ t)) (a.size : Int) = some (x.toNat, (encI x).size) := by
  obtain ⟨h0, h1⟩ := qB_true h
  rw [encI_in h, encB_size]
  exact dq_app a t _ (by omega)
theorem app_nil (a : ByteArray) : a ++ (⟨#[]⟩ : ByteArray) = a := by apply ByteArray.ext; simp
theorem nil_app (a : ByteArray) : (⟨#[]⟩ : ByteArray) ++ a = a := by apply ByteArray.ext; simp
theorem dq_one {x : Int} (h : qB x = true) : dq (encI x) 0 = some (x.toNat, (encI x).size) := by
  have := dq_encI ⟨#[]⟩ ⟨#[]⟩ h
  rw [app_nil, nil_app] at this
  exact this
theorem dq_nil (p : Int) : dq ⟨#[]⟩ p = none := by
  by_cases h : p < 0
  · exact dq_lo h
  · exact dq_hi (by show ((0 : Nat) : Int) ≤ p; omega)
theorem app_assoc (x y z : ByteArray) : (x ++ y) ++ z = x ++ (y ++ z) := by apply ByteArray.ext; simp
/-- The form of a list, cut behind k numbers. -/
theorem jnF_cut (l : List Int) : ∀ d k : Nat, k + d ≤ l.length → ∃ t, jnF l (k + d) = jnF l k ++ t := by
  intro d
  induction d with
  | zero => intro k _; exact ⟨⟨#[]⟩, by rw [app_nil]; rfl⟩
  | succ d ih =>
    intro k hk
    obtain ⟨t, ht⟩ := ih k (by omega)
    refine ⟨t ++ encI (l.getD (k + d) 0), ?_⟩
    rw [show k + (d + 1) = (k + d) + 1 by omega, jnF_succ l (k + d) (by omega), ht, app_assoc]
theorem jnF_dq {l : List Int} (h : ∀ j, j < l.length → qB (l.getD j 0) = true) {k : Nat} (hk : k < l.length) : dq (jnF l l.length) ((jnF l k).size : Int) = some ((l.getD k 0).toNat, (encI (l.getD k 0)).size) ∧ (jnF l (k + 1)).size = (jnF l k).size + (encI (l.getD k 0)).size ∧ (jnF l (k + 1)).size ≤ (jnF l l.length).size := by
  obtain ⟨t, ht⟩ := jnF_cut l (l.length - (k + 1)) (k + 1) (by omega)
  rw [show k + 1 + (l.length - (k + 1)) = l.length by omega] at ht
  have hs := jnF_succ l k hk
  refine ⟨?_, by rw [hs, ByteArray.size_append], by rw [ht, ByteArray.size_append]; omega⟩
  rw [ht, hs, app_assoc]
  exact dq_encI _ _ (h k hk)
theorem jnF_at {l : List Int} (h : ∀ j, j < l.length → qB (l.getD j 0) = true) : ∀ k, k ≤ l.length → DecAt (jnF l l.length) (jnF l k).size (l.take k) := by
  intro k
  induction k with
  | zero => intro _; rw [jnF_zero]; exact DecAt.start _
  | succ k ih =>
    intro hk
    obtain ⟨h1, h2, h3⟩ := jnF_dq h (k := k) (by omega)
    have hp := encI_pos (h k (by omega))
    have := (ih (by omega)).next (by omega) h1 hp (by omega)
    rw [h2]
    have hx : ((l.getD k 0).toNat : Int) = l.getD k 0 := by have := (qB_true (h k (by omega))).1; omega
    rw [hx] at this
    rw [List.take_add_one, show l[k]? = some (l.getD k 0) by rw [List.getD_eq_getElem?_getD, List.getElem?_eq_getElem (by omega)]; rfl]
    exact this
theorem decL_encL (l : List Int) : decB (encL l) = true ∧ (encL l = ⟨#[]⟩ ∨ (decL (encL l) = l ∧ 1 ≤ (encL l).size)) := by
  unfold encL
  split
  · rename_i h
    have hq : ∀ j, j < l.length → qB (l.getD j 0) = true := fun j hj => by
      rw [List.getD_eq_getElem?_getD, List.getElem?_eq_getElem hj]
      exact List.all_eq_true.1 h _ (List.getElem_mem hj)
    have hd := (jnF_at hq l.length (Nat.le_refl _)).done (Nat.le_refl _)
    rw [List.take_length] at hd
    refine ⟨hd.2, ?_⟩
    by_cases h0 : l.length = 0
    · left; rw [h0, jnF_zero]
    · right
      obtain ⟨_, h2, h3⟩ := jnF_dq hq (k := 0) (by omega)
      have hp := encI_pos (hq 0 (by omega))
      exact ⟨hd.1, by omega⟩
  · exact ⟨by decide, .inl rfl⟩
/-- What a form that is read has: its number needs no more bytes. -/
theorem dq_size {s : ByteArray} {p : Int} {n k : Nat} (h : dq s p = some (n, k)) : n ≤ 4611686018427387903 ∧ sizeI (n : Int) ≤ k ∧ 0 ≤ p ∧ p + k ≤ s.size ∧ 1 ≤ k ∧ k ≤ 8 := by
  unfold dq at h
  split at h
  · cases h
  · have hd := deq_some h
    rw [List.length_drop, bl_len] at hd
    have hk := hd.1
    have h1 := hd.2.2.1
    unfold maxQ at h1
    rw [sizeI_nat n h1]
    omega
end Go.Proofs.Ytadoiehgobcjcaa
