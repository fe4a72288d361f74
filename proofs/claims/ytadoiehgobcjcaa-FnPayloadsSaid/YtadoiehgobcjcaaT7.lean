/- What FnPayloads draws from its code. No conditions. -/
import Derived.Test.YtadoiehgobcjcaaS1
import Derived.Test.YtadoiehgobcjcaaA6
namespace Go.Proofs.Ytadoiehgobcjcaa
open Go.ChangeShapes Go.WideShapes Go.ChangeAt Go.RowKit Go.Sort QM
set_option linter.unusedVariables false
set_option linter.unusedSimpArgs false
/-- Few frames of short data are drawn. -/
def DrawFs (w : World) (g m : Nat) (e : Ending) (w' : World) : Prop := ∃ A c L, e = .returned (.slice A (L : List Fr).length c) ∧ L.length ≤ m ∧ (∀ f ∈ L, f.d.size ≤ 6) ∧ w'.ownsRow w.heap.size 40 9 (.slice A L.length c) L.length (encF9 L) ∧ Cur w' g ∧ w.grownBy w' (some g)
theorem DrawFs.of_own {w w' : World} {g m n : Nat} {v : Value} {L : List Fr} (h : w'.ownsRow w.heap.size 40 9 v n (encF9 L)) (hn : n = L.length) (hm : L.length ≤ m) (hq : ∀ f ∈ L, f.d.size ≤ 6) (hc : Cur w' g) (hg : w.grownBy w' (some g)) : DrawFs w g m (.returned v) w' := by
  subst hn
  obtain ⟨A, c, rfl, _, _⟩ := Rd.of_own h
  exact ⟨A, c, L, rfl, hm, hq, h, hc, hg⟩
theorem grown_own {a w w' : World} {base n size : Nat} {e : TypeId} {v : Value} {xs : List Value} {row : Option Nat} (h : a.grownBy w row) (ho : w.ownsRow base e size v n xs) (hb : a.heap.size ≤ base) (hg : w.grownBy w' v.ownBlock) : a.grownBy w' row :=
  ⟨hg.os.trans h.os, hg.tape.trans h.tape, hg.output.trans h.output, Nat.le_trans h.size hg.size, fun k hk hne => (hg.block k (Nat.lt_of_lt_of_le hk h.size) (fun e => by have := (ho.lt k e.symm).1; omega)).trans (h.block k hk hne)⟩
theorem cur_own {w w' : World} {g base n size : Nat} {e : TypeId} {v : Value} {xs : List Value} (h : Cur w g) (ho : w.ownsRow base e size v n xs) (hb : g < base) (hg : w.grownBy w' v.ownBlock) : Cur w' g :=
  h.below (B := g + 1) ⟨hg.os, hg.tape, hg.output, hg.size, fun k hk => hg.block k (by have := h.lt; omega) (fun e => by have := (ho.lt k e.symm).1; omega)⟩ (Nat.lt_succ_self g)
set_option maxRecDepth 20000 in
set_option maxHeartbeats 4000000 in
theorem l4Frames_any {w : World} {g : Nat} (hc : Cur w g) : Calls Try.prog 66 #[.pointer (some ⟨g, 0, none⟩)] w (DrawFs w g 4) := by
  obtain ⟨i0, hi, hz0, hz1, hz2⟩ := info_parts info_frm
  have hgl := hc.lt
  have hown := own_empty w w.heap.size 40 9 (Nat.le_refl _)
  have al := (Below.refl w.heap.size w).alloc (Nat.le_refl _) (.cells #[] 40)
  have hg0 := gb_of_below al (some g)
  have hc0 := hc.below al hc.lt
  go_enter Try.func66, Try.ntmps66
  go_wp2_with fail
  generalize w.alloc (.cells #[] 40) = w0 at hown hg0 hc0 ⊢
  clear al hc
  refine (l1Below_any 5 (by decide) (by decide) hc0).mono ?_
  rintro e w1 ⟨⟨x, ⟨hx0, hx1⟩, rfl⟩, hc1, hg1⟩
  obtain ⟨k0, rfl⟩ := Int.eq_ofNat_of_zero_le hx0
  have HO0 := Lib.hid (own_keepG hown hg1 hgl)
  have HG0 := Lib.hid (grown_trans hg0 hg1)
  have HC0 := Lib.hid hc1
  clear hown hc0 hc1 hg1 hg0
  go_wp2_with fail
  go_loopw [3, 4] (fun v i wr => ∃ (k : Nat) (L : List Fr), i = .int .i64 k ∧ k + L.length ≤ 4 ∧ (∀ f ∈ L, f.d.size ≤ 6) ∧ wr.ownsRow w.heap.size 40 9 v L.length (encF9 L) ∧ Cur wr g ∧ w.grownBy wr (some g)) (fun v i _ => (intOf i).toNat)
  case atStart => exact ⟨k0, [], rfl, by simp; omega, by simp, HO0.out, HC0.out, HG0.out⟩
  case round =>
    obtain ⟨k, L, rfl, hkl, hq, ho, hcr, hgr⟩ := hrel
    have HO := Lib.hid ho; clear ho HO0 HG0 HC0
    have HQ := Lib.hid hq; clear hq
    by_cases h0 : 0 < k
    · have hd0 : decide ((0 : Int) < (k : Int)) = true := by simp; omega
      go_wp2_with fail
      refine (l4Frame_any hcr).mono ?_
      rintro e w3 ⟨⟨⟨xa, xb, xc, xd, xe, xg, xl, xm, xu⟩, hxd, rfl⟩, hc3, hg3⟩
      simp only at hxd
      have HXD := Lib.hid hxd
      have HO3 := Lib.hid (own_keepG HO.out hg3 hgl)
      have hg4 := grown_trans hgr hg3
      have hsz := hg4.size
      clear hcr hgr hg3 HO hxd
      go_wp2_with (first | (at_builtin; refine wpList_append_own _ rfl _ _ 47 rfl w.heap.size 40 i0 (.agg #[.int .i64 0, .int .i64 0, .int .i64 0, .string ⟨#[]⟩, .bool false, .int .i64 0, .int .i64 0, .int .i64 0, .bool false]) 9 80 Try.underlying47 hi hz0 hz1 hz2 rfl (by decide) _ _ _ rfl (HO3.out.alloc _) ⟨w3.heap.size, 0, none⟩ 1 1 [.int .i64 xa, .int .i64 xb, .int .i64 xc, .string xd, .bool xe, .int .i64 xg, .int .i64 xl, .int .i64 xm, .bool xu] rfl rfl (news9 _ _ _ _ _ _ _ _ _ (by simp)) (one_9 (⟨xa, xb, xc, xd, xe, xg, xl, xm, xu⟩ : Fr)) (by unfold maxLen; omega) (by omega) (by simp; omega) ?_))
      intro v' w4 hown1 hgrow _
      have al := (Below.refl w3.heap.size w3).alloc (Nat.le_refl _) (.cells #[.int .i64 xa, .int .i64 xb, .int .i64 xc, .string xd, .bool xe, .int .i64 xg, .int .i64 xl, .int .i64 xm, .bool xu] 40)
      have ho4 := HO3.out.alloc (.cells #[.int .i64 xa, .int .i64 xb, .int .i64 xc, .string xd, .bool xe, .int .i64 xg, .int .i64 xl, .int .i64 xm, .bool xu] 40)
      have hc4 : Cur w4 g := cur_own (hc3.below al hc3.lt) ho4 hgl hgrow
      have hg5 : w.grownBy w4 (some g) := grown_own (grown_below hg4 al) ho4 (Nat.le_refl _) hgrow
      have HO4 := Lib.hid (show w4.ownsRow w.heap.size 40 9 v' (L ++ [(⟨xa, xb, xc, xd, xe, xg, xl, xm, xu⟩ : Fr)]).length (encF9 (L ++ [(⟨xa, xb, xc, xd, xe, xg, xl, xm, xu⟩ : Fr)])) by rw [encF9_snoc]; simpa [frC] using hown1)
      have HQ4 := Lib.hid (show ∀ f ∈ L ++ [(⟨xa, xb, xc, xd, xe, xg, xl, xm, xu⟩ : Fr)], f.d.size ≤ 6 from fun f hf => by
        rcases List.mem_append.1 hf with h | h
        · exact HQ.out f h
        · simp at h; rw [h]; exact HXD.out)
      clear hown1 hgrow HO3 ho4
      go_wp2
      go_roundw
      case rel => exact ⟨k - 1, L ++ [(⟨xa, xb, xc, xd, xe, xg, xl, xm, xu⟩ : Fr)], by go_num, by simp; omega, HQ4.out, HO4.out, hc4, hg5⟩
      case measure => simp [intOf]; omega
    · have hd0 : decide ((0 : Int) < (k : Int)) = false := by simp; omega
      go_wp2
      go_ret
      exact DrawFs.of_own HO.out rfl (by omega) HQ.out hcr hgr
/-- A slice of few frames of short data. -/
def FewFrs (w : World) (e : Ending) (w' : World) : Prop := ∃ A c L, e = .returned (.slice A (L : List Fr).length c) ∧ L.length ≤ 5 ∧ (∀ f ∈ L, f.d.size ≤ 6) ∧ w'.ownsRow w.heap.size 40 9 (.slice A L.length c) L.length (encF9 L) ∧ Below w.heap.size w w'
theorem FewFrs.of_own {w w' : World} {base n : Nat} {v : Value} {L : List Fr} (h : w'.ownsRow base 40 9 v n (encF9 L)) (hbase : w.heap.size ≤ base) (hn : n = L.length) (hm : L.length ≤ 5) (hq : ∀ f ∈ L, f.d.size ≤ 6) (hb : Below w.heap.size w w') : FewFrs w (.returned v) w' := by
  subst hn
  obtain ⟨A, c, rfl, _, _⟩ := Rd.of_own h
  exact ⟨A, c, L, rfl, hm, hq, own_lower' h hbase, hb⟩
set_option maxRecDepth 20000 in
set_option maxHeartbeats 4000000 in
theorem drawEncodePayload {A : Option Addr} {c n : Nat} {w : World} {l : List Int} (hr : Rd w w.heap.size A (bys l)) (hm : n ≤ 1048576) (HL : Hid (l.length = n)) :
    Calls Try.prog 38 #[.slice A n c] w (FewFrs w) := by
  obtain ⟨i0, hi, hz0, hz1, hz2⟩ := info_parts info_frm
  go_enter Try.func38, Try.ntmps38
  go_wp2_with fail
  refine (l1New_any hr hm HL).mono ?_
  rintro e w1 ⟨g, rfl, hc1, hb, hg⟩
  have hgl := hc1.lt
  have hw1 := hb.size
  go_wp2_with fail
  refine (l4Frames_any hc1).mono ?_
  rintro e w2 ⟨A2, c2, L, rfl, hl4, hq, ho, hc2, hg2⟩
  replace hb := below_only hb hg2 hb.size (fun k hk => by injection hk; omega)
  have hw12 := hg2.size
  clear hc1 hg2
  go_wp2_with fail
  refine (l1Once_any 8 (by decide) (by decide) hc2).mono ?_
  rintro e w3 ⟨⟨b, rfl⟩, hc3, hg3⟩
  replace hb := below_only hb hg3 hb.size (fun k hk => by injection hk; omega)
  replace ho := own_keepG ho hg3 hgl
  have hw13 := hg3.size
  clear hc2 hg3
  cases b
  · go_wp2
    go_ret
    exact FewFrs.of_own ho hw1 rfl (by omega) hq hb
  · have HO := Lib.hid ho
    have HQ := Lib.hid hq
    clear ho hq
    go_wp2_with fail
    refine (l4Any_any hc3).mono ?_
    rintro e w4 ⟨⟨⟨xa, xb, xc, xd, xe, xg, xl, xm, xu⟩, hxd, rfl⟩, hc4, hg4⟩
    simp only at hxd
    have HXD := Lib.hid hxd
    replace hb := below_only hb hg4 hb.size (fun k hk => by injection hk; omega)
    have HO3 := Lib.hid (own_keepG HO.out hg4 hgl)
    have hw14 := hg4.size
    clear hc3 hg4 HO hxd
    have hsz : w1.heap.size ≤ w4.heap.size := by omega
    go_wp2_with (first | (at_builtin; refine wpList_append_own _ rfl _ _ 47 rfl w1.heap.size 40 i0 (.agg #[.int .i64 0, .int .i64 0, .int .i64 0, .string ⟨#[]⟩, .bool false, .int .i64 0, .int .i64 0, .int .i64 0, .bool false]) 9 80 Try.underlying47 hi hz0 hz1 hz2 rfl (by decide) _ _ _ rfl (HO3.out.alloc _) ⟨w4.heap.size, 0, none⟩ 1 1 [.int .i64 xa, .int .i64 xb, .int .i64 xc, .string xd, .bool xe, .int .i64 xg, .int .i64 xl, .int .i64 xm, .bool xu] rfl rfl (news9 _ _ _ _ _ _ _ _ _ (by simp)) (one_9 (⟨xa, xb, xc, xd, xe, xg, xl, xm, xu⟩ : Fr)) (by unfold maxLen; omega) (by omega) (by simp; omega) ?_))
    intro v' w5 hown1 hgrow _
    have al := (Below.refl w4.heap.size w4).alloc (Nat.le_refl _) (.cells #[.int .i64 xa, .int .i64 xb, .int .i64 xc, .string xd, .bool xe, .int .i64 xg, .int .i64 xl, .int .i64 xm, .bool xu] 40)
    have hob := fun k hk => (HO3.out.lt k hk).1
    have hb5 : Below w.heap.size w w5 := below_only (below_next hb hb.size al) hgrow (by have := al.size; omega) (fun k hk => by have := hob k hk; omega)
    have HO4 := Lib.hid (show w5.ownsRow w1.heap.size 40 9 v' (L ++ [(⟨xa, xb, xc, xd, xe, xg, xl, xm, xu⟩ : Fr)]).length (encF9 (L ++ [(⟨xa, xb, xc, xd, xe, xg, xl, xm, xu⟩ : Fr)])) by rw [encF9_snoc]; simpa [frC] using hown1)
    have HQ4 := Lib.hid (show ∀ f ∈ L ++ [(⟨xa, xb, xc, xd, xe, xg, xl, xm, xu⟩ : Fr)], f.d.size ≤ 6 from fun f hf => by
      rcases List.mem_append.1 hf with h | h
      · exact HQ.out f h
      · simp at h; rw [h]; exact HXD.out)
    clear hown1 hgrow HO3 hob
    go_wp2
    go_ret
    exact FewFrs.of_own HO4.out hw1 rfl (by simp; omega) HQ4.out hb5
theorem jF_short (l : List Fr) (hq : ∀ f ∈ l, f.d.size ≤ 6) : ∀ k, k ≤ l.length → (jF l k).size ≤ 38 * k := by
  intro k
  induction k with
  | zero => intro _; rw [jF_zero]; exact Nat.zero_le _
  | succ k ih =>
    intro hk
    rw [jF_succ l k (by omega), ByteArray.size_append]
    have h1 := ih (by omega)
    have h2 := encOf_size (l.getD k fr0)
    have h3 : (l.getD k fr0).d.size ≤ 6 := by
      rw [List.getD_eq_getElem?_getD, List.getElem?_eq_getElem (by omega)]
      exact hq _ (List.getElem_mem _)
    omega
theorem epB_short (l : List Fr) (hq : ∀ f ∈ l, f.d.size ≤ 6) : (epB l).size ≤ 38 * l.length := by
  have h := jF_short l hq l.length (Nat.le_refl _)
  unfold epB
  split
  · split
    · exact h
    · exact Nat.zero_le _
  · exact Nat.zero_le _
theorem getD_short {l : List Fr} (hq : ∀ f ∈ l, f.d.size ≤ 6) : ∀ j, j < l.length → (l.getD j fr0).d.size ≤ 1048576 := fun j hj => by
  rw [List.getD_eq_getElem?_getD, List.getElem?_eq_getElem hj]
  have := hq _ (List.getElem_mem hj)
  show l[j].d.size ≤ 1048576
  omega
set_option maxRecDepth 20000 in
set_option maxHeartbeats 4000000 in
theorem drawDecodePayload {A : Option Addr} {c n : Nat} {w : World} {l : List Int} (hr : Rd w w.heap.size A (bys l)) (hm : n ≤ 1048576) (HL : Hid (l.length = n)) :
    Calls Try.prog 43 #[.slice A n c] w (Drawn w fun v => ∃ s : ByteArray, v = .string s ∧ s.size ≤ 300) := by
  go_enter Try.func43, Try.ntmps43
  go_wp2_with fail
  refine (l1New_any hr hm HL).mono ?_
  rintro e w1 ⟨g, rfl, hc1, hb, hg⟩
  clear hr
  go_wp2_with fail
  refine (l4Frames_any hc1).mono ?_
  rintro e w2 ⟨A2, c2, L, rfl, hl4, hq, ho, hc2, hg2⟩
  replace hb := below_only hb hg2 hb.size (fun k hk => by injection hk; omega)
  clear hc1 hg2
  go_wp2_with fail
  refine (sEP (Nat.le_refl _) (own_rd ho) (by omega) (Lib.hid rfl) (Lib.hid (getD_short hq))).mono ?_
  rintro e w3 ⟨rfl, hb3⟩
  have hc3 := cur_step hc2 hb3
  replace hb := below_next hb hb.size hb3
  have hz : (epB L).size ≤ 152 := Nat.le_trans (epB_short L hq) (by omega)
  generalize epB L = s at hz ⊢
  clear ho hc2 hb3 hq
  go_wp2_with fail
  refine (l1Below_any 4 (by decide) (by decide) hc3).mono ?_
  rintro e w4 ⟨⟨z, ⟨hz0, hz1⟩, rfl⟩, hc4, hg4⟩
  replace hb := below_only hb hg4 hb.size (fun k hk => by injection hk; omega)
  clear hc3 hg4
  rcases (show z = 0 ∨ z = 1 ∨ z = 2 ∨ z = 3 by omega) with rfl | rfl | rfl | rfl
  · go_wp2_with fail
    refine (l1Spoil_any s (by omega) hc4).mono ?_
    rintro e w5 ⟨⟨t, ht, rfl⟩, hc5, hg5⟩
    replace hb := below_only hb hg5 hb.size (fun k hk => by injection hk; omega)
    go_wp2
    go_ret
    exact ⟨_, rfl, ⟨t, rfl, by omega⟩, hb⟩
  · have z0 : ((⟨#[0, 0]⟩ : ByteArray)).size = 2 := rfl
    have z1 : ((⟨#[0]⟩ : ByteArray)).size = 1 := rfl
    go_wp2
    go_ret
    exact ⟨_, rfl, ⟨_, rfl, by simp only [ByteArray.size_append, z0, z1]; omega⟩, hb⟩
  · go_wp2_with fail
    refine (l4Data_any 4 (by decide) hc4).mono ?_
    rintro e w5 ⟨⟨t, ht, rfl⟩, hc5, hg5⟩
    replace hb := below_only hb hg5 hb.size (fun k hk => by injection hk; omega)
    have z0 : ((⟨#[8, 3]⟩ : ByteArray)).size = 2 := rfl
    go_wp2
    go_ret
    exact ⟨_, rfl, ⟨_, rfl, by simp only [ByteArray.size_append, z0]; omega⟩, hb⟩
  · go_wp2
    go_ret
    exact ⟨_, rfl, ⟨s, rfl, by omega⟩, hb⟩
end Go.Proofs.Ytadoiehgobcjcaa
