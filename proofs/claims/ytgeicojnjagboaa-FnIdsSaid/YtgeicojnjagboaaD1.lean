/- What the laws draw from a code: numbers out of a list, stream identities. No conditions. -/
import Derived.Test.YtgeicojnjagboaaD0
namespace Go.Proofs.Ytgeicojnjagboaa
open Go.ChangeShapes Go.WideShapes Go.ChangeAt Go.RowKit Go.Sort
set_option linter.unusedVariables false
set_option linter.unusedSimpArgs false
theorem DrawI.weak {w : World} {g : Nat} {P Q : Int → Prop} {e : Ending} {w' : World} (h : DrawI w g P e w') (hpq : ∀ x, P x → Q x) : DrawI w g Q e w' := by
  obtain ⟨⟨x, hx, he⟩, r⟩ := h
  exact ⟨⟨x, hpq x hx, he⟩, r⟩
theorem Rd.grown {w w' : World} {B : Nat} {A : Option Addr} {xs : List Value} {g : Nat} (h : Rd w B A xs) (hg : w.grownBy w' (some g)) (hne : ∀ b o, A = some ⟨b, o, none⟩ → b ≠ g) : Rd w' B A xs := fun j u hu => by
  obtain ⟨b, off, e, hlt, hc⟩ := h j u hu
  exact ⟨b, off, e, hlt, hg.cell hc (fun e' => by injection e' with e'; exact hne b off e e')⟩
theorem lit_rd (w : World) (T : TypeId) (xs : List Value) : Rd (w.alloc (.cells xs.toArray T)) (w.heap.size + 1) (some ⟨w.heap.size, 0, none⟩) xs := fun j u hu =>
  ⟨w.heap.size, 0, rfl, Nat.lt_succ_self _, by rw [Nat.zero_add]; have hk : Bk (w.alloc (.cells xs.toArray T)) w.heap.size T xs.toArray := heap_alloc_new w _; exact (hk.cell j).trans (by simpa using hu)⟩
theorem l1PickInt_any {w : World} {g B : Nat} {A : Option Addr} {c n : Nat} {L : List Int} (hr : Rd w B A (ints L)) (hne : ∀ b o, A = some ⟨b, o, none⟩ → b ≠ g) (hl : L.length = n) (h0 : 0 < n) (h1 : n ≤ 256) (hc : Cur w g) :
    Calls Try.prog 78 #[.pointer (some ⟨g, 0, none⟩), .slice A n c] w (DrawI w g fun x => x ∈ L) := by
  go_enter Try.func78, Try.ntmps78
  go_wp2_with fail
  refine (l1Below_any n h0 h1 hc).mono ?_
  rintro e w1 ⟨⟨x, ⟨hx0, hx1⟩, rfl⟩, hc1, hg1⟩
  obtain ⟨k, rfl⟩ := Int.eq_ofNat_of_zero_le hx0
  have hk : k < n := by omega
  have hr1 := hr.grown hg1 hne
  obtain ⟨b, off, x, rfl, hb, HX, c0⟩ := hr1.int (k := k) (by rw [hl]; exact hk)
  have hmem : x ∈ L := by
    have := HX.out
    rw [List.getD_eq_getElem?_getD, List.getElem?_eq_getElem (by rw [hl]; exact hk), Option.getD_some] at this
    rw [← this]; exact List.getElem_mem _
  clear hr hr1 HX
  go_wp2
  go_ret
  exact ⟨⟨x, hmem, rfl⟩, hc1, hg1⟩
theorem l5Id_any {w : World} {g : Nat} (hc : Cur w g) : Calls Try.prog 100 #[.pointer (some ⟨g, 0, none⟩)] w (DrawI w g fun x => -1 ≤ x ∧ x ≤ 4611686018427387904) := by
  go_enter Try.func100, Try.ntmps100
  go_wp2_with fail
  refine (l1Once_any 8 (by decide) (by decide) hc).mono ?_
  rintro e w1 ⟨⟨b, rfl⟩, hc1, hg1⟩
  cases b
  · go_wp2_with fail
    refine (l1Below_any 20 (by decide) (by decide) hc1).mono ?_
    rintro e w2 ⟨⟨x, ⟨hx0, hx1⟩, rfl⟩, hc2, hg2⟩
    go_wp2
    go_ret
    exact ⟨⟨x, ⟨by omega, by omega⟩, rfl⟩, hc2, grown_trans hg1 hg2⟩
  · go_wp2_with fail
    have al : Below w1.heap.size w1 (w1.alloc (.cells #[.int .i64 (-1), .int .i64 4611686018427387903, .int .i64 4611686018427387904] 3)) := (Below.refl _ _).alloc (Nat.le_refl _) _
    have hr := lit_rd w1 3 (ints [-1, 4611686018427387903, 4611686018427387904])
    refine (l1PickInt_any hr (fun b o e => by simp at e; have := hc1.lt; omega) rfl (by decide) (by decide) (hc1.below al hc1.lt)).mono ?_
    rintro e w2 ⟨⟨x, hx, rfl⟩, hc2, hg2⟩
    go_wp2
    go_ret
    refine ⟨⟨x, ?_, rfl⟩, hc2, grown_trans hg1 (grown_trans (gb_of_below al _) hg2)⟩
    simp at hx
    omega
/-- Whatever is drawn from a code: a value with the property P; memory grows. -/
def Drawn (w : World) (P : Value → Prop) (e : Ending) (w' : World) : Prop := ∃ v, e = .returned v ∧ P v ∧ Below w.heap.size w w'
set_option maxHeartbeats 1000000 in
theorem drawMakeId {A : Option Addr} {c n : Nat} {w : World} {l : List Int} (hr : Rd w w.heap.size A (bys l)) (hm : n ≤ 1048576) (HL : Hid (l.length = n)) :
    Calls Try.prog 18 #[.slice A n c] w (Drawn w fun v => ∃ (i : Int) (s u : Bool), v = .tuple #[.int .i64 i, .bool s, .bool u] ∧ -1 ≤ i ∧ i ≤ 1152921504606846976) := by
  go_enter Try.func18, Try.ntmps18
  go_wp2_with fail
  refine (l1New_any hr hm HL).mono ?_
  rintro e w1 ⟨g, rfl, hc1, hb1, hg⟩
  go_wp2_with fail
  refine (l1Below_any 9 (by decide) (by decide) hc1).mono ?_
  rintro e w2 ⟨⟨x, ⟨hx0, hx1⟩, rfl⟩, hc2, hg2⟩
  replace hb1 := below_only hb1 hg2 hb1.size (fun k hk => by injection hk; omega)
  go_wp2_with fail
  refine (l1Once_any 8 (by decide) (by decide) hc2).mono ?_
  rintro e w3 ⟨⟨b, rfl⟩, hc3, hg3⟩
  replace hb1 := below_only hb1 hg3 hb1.size (fun k hk => by injection hk; omega)
  have fin : ∀ (y : Int) (w4 : World), -1 ≤ y → y ≤ 1152921504606846976 → Cur w4 g → Below w.heap.size w w4 → True := fun _ _ _ _ _ _ => trivial
  cases b
  · go_wp2_with fail
    refine (l1Once_any 2 (by decide) (by decide) hc3).mono ?_
    rintro e w4 ⟨⟨s, rfl⟩, hc4, hg4⟩
    replace hb1 := below_only hb1 hg4 hb1.size (fun k hk => by injection hk; omega)
    go_wp2_with fail
    refine (l1Once_any 2 (by decide) (by decide) hc4).mono ?_
    rintro e w5 ⟨⟨u, rfl⟩, hc5, hg5⟩
    replace hb1 := below_only hb1 hg5 hb1.size (fun k hk => by injection hk; omega)
    go_wp2
    go_ret3
    exact ⟨_, rfl, ⟨x, s, u, rfl, by omega, by omega⟩, hb1⟩
  · go_wp2_with fail
    have al : Below w3.heap.size w3 (w3.alloc (.cells #[.int .i64 (-1), .int .i64 1152921504606846975, .int .i64 1152921504606846976] 3)) := (Below.refl _ _).alloc (Nat.le_refl _) _
    have hr := lit_rd w3 3 (ints [-1, 1152921504606846975, 1152921504606846976])
    refine (l1PickInt_any hr (fun b o e => by simp at e; have := hc3.lt; omega) rfl (by decide) (by decide) (hc3.below al hc3.lt)).mono ?_
    rintro e w4 ⟨⟨y, hy, rfl⟩, hc4, hg4⟩
    replace hb1 := below_only (hb1.alloc hb1.size _) hg4 (by have := hb1.size; simp; omega) (fun k hk => by injection hk; omega)
    go_wp2_with fail
    refine (l1Once_any 2 (by decide) (by decide) hc4).mono ?_
    rintro e w5 ⟨⟨s, rfl⟩, hc5, hg5⟩
    replace hb1 := below_only hb1 hg5 hb1.size (fun k hk => by injection hk; omega)
    go_wp2_with fail
    refine (l1Once_any 2 (by decide) (by decide) hc5).mono ?_
    rintro e w6 ⟨⟨u, rfl⟩, hc6, hg6⟩
    replace hb1 := below_only hb1 hg6 hb1.size (fun k hk => by injection hk; omega)
    go_wp2
    go_ret3
    simp at hy
    exact ⟨_, rfl, ⟨y, s, u, rfl, by omega, by omega⟩, hb1⟩
theorem l5Both_any {A : Option Addr} {c n : Nat} {w : World} {l : List Int} (hr : Rd w w.heap.size A (bys l)) (hm : n ≤ 1048576) (HL : Hid (l.length = n)) :
    Calls Try.prog 80 #[.slice A n c] w (Drawn w fun v => ∃ (s : Bool) (x : Int), v = .tuple #[.bool s, .int .i64 x] ∧ -1 ≤ x ∧ x ≤ 4611686018427387904) := by
  go_enter Try.func80, Try.ntmps80
  go_wp2_with fail
  refine (l1New_any hr hm HL).mono ?_
  rintro e w1 ⟨g, rfl, hc1, hb1, hg⟩
  go_wp2_with fail
  refine (l1Once_any 2 (by decide) (by decide) hc1).mono ?_
  rintro e w2 ⟨⟨s, rfl⟩, hc2, hg2⟩
  replace hb1 := below_only hb1 hg2 hb1.size (fun k hk => by injection hk; omega)
  go_wp2_with fail
  refine (l5Id_any hc2).mono ?_
  rintro e w3 ⟨⟨x, hx, rfl⟩, hc3, hg3⟩
  replace hb1 := below_only hb1 hg3 hb1.size (fun k hk => by injection hk; omega)
  go_wp2
  go_ret2
  exact ⟨_, rfl, ⟨s, x, rfl, hx.1, hx.2⟩, hb1⟩
theorem drawCanSendOn {A : Option Addr} {c n : Nat} {w : World} {l : List Int} (hr : Rd w w.heap.size A (bys l)) (hm : n ≤ 1048576) (HL : Hid (l.length = n)) :
    Calls Try.prog 25 #[.slice A n c] w (Drawn w fun v => ∃ (s : Bool) (x : Int), v = .tuple #[.bool s, .int .i64 x] ∧ -1 ≤ x ∧ x ≤ 4611686018427387904) := by
  go_enter Try.func25, Try.ntmps25
  go_wp2_with fail
  refine (l5Both_any hr hm HL).mono ?_
  rintro e w1 ⟨v, rfl, ⟨s, x, rfl, hx0, hx1⟩, hb1⟩
  go_wp2
  go_ret2
  exact ⟨_, rfl, ⟨s, x, rfl, hx0, hx1⟩, hb1⟩
end Go.Proofs.Ytgeicojnjagboaa
