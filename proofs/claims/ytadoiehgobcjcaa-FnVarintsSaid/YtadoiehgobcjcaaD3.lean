/- What FnVarints draws from its code. No conditions. -/
import Derived.Test.YtadoiehgobcjcaaD2
import Derived.Test.YtadoiehgobcjcaaQ6
namespace Go.Proofs.Ytadoiehgobcjcaa
open Go.ChangeShapes Go.WideShapes Go.ChangeAt Go.RowKit Go.Sort QM
set_option linter.unusedVariables false
set_option linter.unusedSimpArgs false
theorem drawEncodeQuic {A : Option Addr} {c n : Nat} {w : World} {l : List Int} (hr : Rd w w.heap.size A (bys l)) (hm : n ≤ 1048576) (HL : Hid (l.length = n)) :
    Calls Try.prog 7 #[.slice A n c] w (Drawn w fun v => ∃ x : Int, v = .int .i64 x ∧ NearQ x) := by
  go_enter Try.func7, Try.ntmps7
  go_wp2_with fail
  refine (l1New_any hr hm HL).mono ?_
  rintro e w1 ⟨g, rfl, hc1, hb1, hg⟩
  go_wp2_with fail
  refine (l2Number_any hc1).mono ?_
  rintro e w2 ⟨⟨x, hx, rfl⟩, hc2, hg2⟩
  replace hb1 := below_only hb1 hg2 hb1.size (fun k hk => by injection hk; omega)
  go_wp2
  go_ret
  exact ⟨_, rfl, ⟨x, rfl, hx⟩, hb1⟩
/-- A text and a place near its start. -/
def TextAt (v : Value) : Prop := ∃ (s : ByteArray) (x : Int), v = .tuple #[.string s, .int .i64 x] ∧ s.size ≤ 16 ∧ -1 ≤ x ∧ x ≤ 3
set_option maxRecDepth 20000 in
set_option maxHeartbeats 2000000 in
theorem drawDecodeQuic {A : Option Addr} {c n : Nat} {w : World} {l : List Int} (hr : Rd w w.heap.size A (bys l)) (hm : n ≤ 1048576) (HL : Hid (l.length = n)) :
    Calls Try.prog 13 #[.slice A n c] w (Drawn w TextAt) := by
  go_enter Try.func13, Try.ntmps13
  go_wp2_with fail
  refine (l1New_any hr hm HL).mono ?_
  rintro e w1 ⟨g, rfl, hc1, hb1, hg⟩
  go_wp2_with fail
  refine (l1Once_any 3 (by decide) (by decide) hc1).mono ?_
  rintro e w2 ⟨⟨b, rfl⟩, hc2, hg2⟩
  replace hb1 := below_only hb1 hg2 hb1.size (fun k hk => by injection hk; omega)
  clear hc1 hg2
  cases b
  · go_wp2_with fail
    refine (l2Number_any hc2).mono ?_
    rintro e w3 ⟨⟨x, hx, rfl⟩, hc3, hg3⟩
    replace hb1 := below_only hb1 hg3 hb1.size (fun k hk => by injection hk; omega)
    clear hc2 hg3
    go_wp2_with fail
    refine (sEncI _ _).mono ?_
    rintro e w4 ⟨rfl, hb4⟩
    have hc4 := cur_step hc3 hb4
    replace hb1 := below_next hb1 hb1.size hb4
    clear hc3 hb4
    go_wp2_with fail
    refine (l2Number_any hc4).mono ?_
    rintro e w5 ⟨⟨y, hy, rfl⟩, hc5, hg5⟩
    replace hb1 := below_only hb1 hg5 hb1.size (fun k hk => by injection hk; omega)
    clear hc4 hg5
    go_wp2_with fail
    refine (sEncI _ _).mono ?_
    rintro e w6 ⟨rfl, hb6⟩
    have hc6 := cur_step hc5 hb6
    replace hb1 := below_next hb1 hb1.size hb6
    clear hc5 hb6
    have z1 := encI_size x
    have z2 := encI_size y
    go_wp2_with fail
    refine (l1Below_any 3 (by decide) (by decide) hc6).mono ?_
    rintro e w7 ⟨⟨z, ⟨hz0, hz1⟩, rfl⟩, hc7, hg7⟩
    replace hb1 := below_only hb1 hg7 hb1.size (fun k hk => by injection hk; omega)
    clear hc6 hg7
    go_wp2
    go_ret2
    exact ⟨_, rfl, ⟨_, z, rfl, by rw [ByteArray.size_append]; omega, by omega, by omega⟩, hb1⟩
  · go_wp2_with fail
    refine (l2Bytes_any 9 (by decide) hc2).mono ?_
    rintro e w3 ⟨⟨s, hs, rfl⟩, hc3, hg3⟩
    replace hb1 := below_only hb1 hg3 hb1.size (fun k hk => by injection hk; omega)
    clear hc2 hg3
    go_wp2_with fail
    refine (l1Below_any 4 (by decide) (by decide) hc3).mono ?_
    rintro e w7 ⟨⟨z, ⟨hz0, hz1⟩, rfl⟩, hc7, hg7⟩
    replace hb1 := below_only hb1 hg7 hb1.size (fun k hk => by injection hk; omega)
    clear hc3 hg7
    go_wp2
    go_ret2
    exact ⟨_, rfl, ⟨s, _, rfl, by omega, by omega, by omega⟩, hb1⟩
def shL : List ByteArray := [⟨#[64, 5]⟩, ⟨#[64, 64]⟩, ⟨#[128, 0, 0, 5]⟩, ⟨#[5]⟩, ⟨#[]⟩, ⟨#[64]⟩]
set_option maxRecDepth 20000 in
set_option maxHeartbeats 2000000 in
theorem drawIsShortest {A : Option Addr} {c n : Nat} {w : World} {l : List Int} (hr : Rd w w.heap.size A (bys l)) (hm : n ≤ 1048576) (HL : Hid (l.length = n)) :
    Calls Try.prog 18 #[.slice A n c] w (Drawn w TextAt) := by
  go_enter Try.func18, Try.ntmps18
  go_wp2_with fail
  refine (l1New_any hr hm HL).mono ?_
  rintro e w1 ⟨g, rfl, hc1, hb1, hg⟩
  go_wp2_with fail
  refine (l1Once_any 3 (by decide) (by decide) hc1).mono ?_
  rintro e w2 ⟨⟨b, rfl⟩, hc2, hg2⟩
  replace hb1 := below_only hb1 hg2 hb1.size (fun k hk => by injection hk; omega)
  clear hc1 hg2
  cases b
  · have hr2 := (hr.below hb1 (Nat.le_refl _)).more hb1.size
    go_wp2_with fail
    refine (drawDecodeQuic hr2 hm HL).mono ?_
    rintro e w3 ⟨v, rfl, ⟨s, x, rfl, hs, hx0, hx1⟩, hb3⟩
    replace hb1 := below_next hb1 hb1.size hb3
    clear hr2 hb3
    go_wp2
    go_ret2
    exact ⟨_, rfl, ⟨s, x, rfl, hs, hx0, hx1⟩, hb1⟩
  · go_wp2_with fail
    have al := (Below.refl w2.heap.size w2).alloc (Nat.le_refl _) (.cells (strs shL).toArray 9)
    have hr := lit_rd w2 9 (strs shL)
    refine (l1Pick_any hr (fun b o e => by simp at e; have := hc2.lt; omega) rfl (by decide) (by decide) (hc2.below al hc2.lt)).mono ?_
    rintro e w4 ⟨⟨u, hu, rfl⟩, hc4, hg4⟩
    replace hb1 := below_only (below_next hb1 hb1.size al) hg4 (by have := hb1.size; have := al.size; omega) (fun k hk => by injection hk; omega)
    have hu16 : u.size ≤ 16 := by
      have : ∀ u ∈ shL, u.size ≤ 16 := by decide
      exact this u hu
    clear hu hr al hg4 hc2
    go_wp2
    go_ret2
    exact ⟨_, rfl, ⟨u, 0, rfl, hu16, by omega, by omega⟩, hb1⟩
theorem own_lower' {w : World} {base base' : Nat} {e : TypeId} {size n : Nat} {v : Value} {xs : List Value} (h : w.ownsRow base e size v n xs) (hb : base' ≤ base) : w.ownsRow base' e size v n xs :=
  ⟨h.1, h.2.imp id fun ⟨g, cap, cur, e1, hb', r⟩ => ⟨g, cap, cur, e1, Nat.le_trans hb hb', r⟩⟩
theorem encL_sz (l : List Int) : (encL l).size ≤ 8 * l.length := by
  unfold encL
  split
  · exact jnF_size l _ (Nat.le_refl _)
  · exact Nat.zero_le _
/-- A slice of few ints near the wire's range. -/
def FewInts (w : World) (e : Ending) (w' : World) : Prop := ∃ A c L, e = .returned (.slice A (L : List Int).length c) ∧ L.length ≤ 4 ∧ (∀ x ∈ L, NearQ x) ∧ w'.ownsRow w.heap.size 3 1 (.slice A L.length c) L.length (ints L) ∧ Below w.heap.size w w'
theorem own_keepG {w w' : World} {base n g size : Nat} {e : TypeId} {v : Value} {xs : List Value} (h : w.ownsRow base e size v n xs) (hg : w.grownBy w' (some g)) (hgb : g < base) : w'.ownsRow base e size v n xs :=
  own_far h hg (fun k hk => by injection hk; omega)
theorem FewInts.of_own {w w' : World} {v : Value} {n : Nat} {L : List Int} (hv : v ≠ .slice none 0 0 ∨ True) (h : w'.ownsRow w.heap.size 3 1 v n (ints L)) (hn : n = L.length) (h4 : L.length ≤ 4) (hq : ∀ x ∈ L, NearQ x) (hb : Below w.heap.size w w') : FewInts w (.returned v) w' := by
  subst hn
  obtain ⟨A, c, rfl, _, _⟩ := Rd.of_own h
  exact ⟨A, c, L, rfl, h4, hq, h, hb⟩
set_option maxRecDepth 20000 in
set_option maxHeartbeats 4000000 in
theorem drawEncodeQuics {A : Option Addr} {c n : Nat} {w : World} {l : List Int} (hr : Rd w w.heap.size A (bys l)) (hm : n ≤ 1048576) (HL : Hid (l.length = n)) :
    Calls Try.prog 15 #[.slice A n c] w (FewInts w) := by
  obtain ⟨i0, hi, hz0, hz1, hz2⟩ := info_parts info_int
  go_enter Try.func15, Try.ntmps15
  go_wp2_with fail
  refine (l1New_any hr hm HL).mono ?_
  rintro e w1 ⟨g, rfl, hc1, hb1, hg⟩
  have hown := own_empty w1 w1.heap.size 3 1 (Nat.le_refl _)
  have al := (Below.refl w1.heap.size w1).alloc (Nat.le_refl _) (.cells #[] 3)
  have hgl := hc1.lt
  have hs1 := hb1.size
  have hc2 := cur_step hc1 al
  have hb2 := below_next hb1 hb1.size al
  have h12 := al.size
  clear hc1 hb1
  go_wp2_with fail
  generalize w1.alloc (.cells #[] 3) = w2 at hown hc2 hb2 h12 ⊢
  clear al
  refine (l1Below_any 5 (by decide) (by decide) hc2).mono ?_
  rintro e w3 ⟨⟨x, ⟨hx0, hx1⟩, rfl⟩, hc3, hg3⟩
  obtain ⟨k0, rfl⟩ := Int.eq_ofNat_of_zero_le hx0
  have HO0 := Lib.hid (own_keepG hown hg3 hgl)
  have HB0 := Lib.hid (below_only hb2 hg3 hb2.size (fun k hk => by injection hk; omega))
  have HC0 := Lib.hid hc3
  have h13 : w1.heap.size ≤ w3.heap.size := Nat.le_trans h12 hg3.size
  clear hown hc2 hg3 hb2 hc3
  go_wp2_with fail
  go_loopw [4, 5] (fun v i wr => ∃ (k : Nat) (L : List Int), i = .int .i64 k ∧ k + L.length ≤ 4 ∧ (∀ x ∈ L, NearQ x) ∧ wr.ownsRow w1.heap.size 3 1 v L.length (ints L) ∧ Cur wr g ∧ Below w.heap.size w wr ∧ w1.heap.size ≤ wr.heap.size) (fun v i _ => (intOf i).toNat)
  case atStart => exact ⟨k0, [], rfl, by simp; omega, by simp, HO0.out, HC0.out, HB0.out, h13⟩
  case round =>
    obtain ⟨k, L, rfl, hkl, hq, ho, hcr, hbr, h1r⟩ := hrel
    have HO := Lib.hid ho; clear ho HO0 HB0 HC0
    have HQ := Lib.hid hq; clear hq
    by_cases h0 : 0 < k
    · have hd0 : decide ((0 : Int) < (k : Int)) = true := by simp; omega
      go_wp2_with fail
      refine (l2Number_any hcr).mono ?_
      rintro e w4 ⟨⟨x, hx, rfl⟩, hc4, hg4⟩
      have HO4 := Lib.hid (own_keepG HO.out hg4 hgl)
      have hb4 := below_only hbr hg4 hbr.size (fun k hk => by injection hk; omega)
      have hsz := hb4.size
      have hgs := hg4.size
      have hb1s : w1.heap.size ≤ w4.heap.size := Nat.le_trans h1r hgs
      clear hcr hbr hg4 HO
      go_wp2_with (first | (at_builtin; refine wpList_append_own _ rfl _ _ 32 rfl w1.heap.size 3 i0 (.int .i64 0) 1 8 Try.underlying32 hi hz0 hz1 hz2 rfl (by decide) _ _ _ rfl (HO4.out.alloc _) ⟨w4.heap.size, 0, none⟩ 1 1 [.int .i64 x] rfl rfl (news1 _ (by simp)) (one_1 _) (by unfold maxLen; omega) (by omega) (by simp; omega) ?_))
      intro v' w5 hown1 hgrow _
      have al := (Below.refl w4.heap.size w4).alloc (Nat.le_refl _) (.cells #[.int .i64 x] 3)
      have hob := fun k hk => (HO4.out.lt k hk).1
      have hc5 : Cur w5 g := by
        have h1 := hc4.below al hc4.lt
        exact h1.below (B := g + 1) (below_only (Below.refl _ _) hgrow (by have := h1.lt; omega) (fun k hk => by have := hob k hk; omega)) (Nat.lt_succ_self g)
      have hb5 : Below w.heap.size w w5 := below_only (below_next hb4 hb4.size al) hgrow (by have := al.size; omega) (fun k hk => by have := hob k hk; omega)
      have HO5 := Lib.hid (show w5.ownsRow w1.heap.size 3 1 v' (L ++ [x]).length (ints (L ++ [x])) by rw [ints_snoc]; simpa using hown1)
      have HQ5 := Lib.hid (show ∀ y ∈ L ++ [x], NearQ y from fun y hy => by rcases List.mem_append.1 hy with h | h; exact HQ.out y h; simp at h; rw [h]; exact hx)
      have h15 : w1.heap.size ≤ w5.heap.size := by have := hgrow.size; have := al.size; omega
      clear hown1 hgrow HO4
      go_wp2
      go_roundw
      case rel => exact ⟨k - 1, L ++ [x], by go_num, by simp; omega, HQ5.out, HO5.out, hc5, hb5, h15⟩
      case measure => simp [intOf]; omega
    · have hd0 : decide ((0 : Int) < (k : Int)) = false := by simp; omega
      go_wp2
      go_ret
      exact FewInts.of_own (.inr trivial) (own_lower' HO.out hs1) rfl (by omega) HQ.out hbr
set_option maxRecDepth 20000 in
set_option maxHeartbeats 2000000 in
theorem drawDecodeQuics {A : Option Addr} {c n : Nat} {w : World} {l : List Int} (hr : Rd w w.heap.size A (bys l)) (hm : n ≤ 1048576) (HL : Hid (l.length = n)) :
    Calls Try.prog 19 #[.slice A n c] w (Drawn w fun v => ∃ s : ByteArray, v = .string s ∧ s.size ≤ 32) := by
  go_enter Try.func19, Try.ntmps19
  go_wp2_with fail
  refine (l1New_any hr hm HL).mono ?_
  rintro e w1 ⟨g, rfl, hc1, hb1, hg⟩
  go_wp2_with fail
  refine (l1Once_any 3 (by decide) (by decide) hc1).mono ?_
  rintro e w2 ⟨⟨b, rfl⟩, hc2, hg2⟩
  replace hb1 := below_only hb1 hg2 hb1.size (fun k hk => by injection hk; omega)
  clear hc1 hg2
  cases b
  · have hr2 := (hr.below hb1 (Nat.le_refl _)).more hb1.size
    go_wp2_with fail
    refine (drawEncodeQuics hr2 hm HL).mono ?_
    rintro e w3 ⟨A3, c3, L, rfl, h4, hq, ho, hb3⟩
    replace hb1 := below_next hb1 hb1.size hb3
    clear hr2 hb3
    go_wp2_with fail
    refine (sEncs (Nat.le_refl _) (own_rd ho) (by omega) (Lib.hid rfl)).mono ?_
    rintro e w4 ⟨rfl, hb4⟩
    replace hb1 := below_next hb1 hb1.size hb4
    have hz := encL_sz L
    go_wp2
    go_ret
    exact ⟨_, rfl, ⟨_, rfl, by omega⟩, hb1⟩
  · go_wp2_with fail
    refine (l2Bytes_any 12 (by decide) hc2).mono ?_
    rintro e w3 ⟨⟨s, hs, rfl⟩, hc3, hg3⟩
    replace hb1 := below_only hb1 hg3 hb1.size (fun k hk => by injection hk; omega)
    clear hc2 hg3
    go_wp2
    go_ret
    exact ⟨_, rfl, ⟨s, rfl, by omega⟩, hb1⟩
end Go.Proofs.Ytadoiehgobcjcaa
