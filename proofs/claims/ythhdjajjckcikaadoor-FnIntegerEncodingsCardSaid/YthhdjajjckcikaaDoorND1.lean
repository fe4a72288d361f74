/- What FnIntegerEncodings draws from its code. No conditions. -/
import Derived.Test.YthhdjajjckcikaaDoorD0n
import Derived.Test.YthhdjajjckcikaaDoorB1
namespace Go.Proofs.YthhdjajjckcikaaDoor
open Go.ChangeShapes Go.WideShapes Go.ChangeAt Go.RowKit Go.Sort
set_option linter.unusedVariables false
set_option linter.unusedSimpArgs false
def ints (l : List Int) : List Value := l.map (fun x => .int .i64 x)
theorem ints_get (l : List Int) (k : Nat) (h : k < l.length) : (ints l)[k]? = some (.int .i64 (l.getD k 0)) := by
  simp [ints, List.getElem?_eq_getElem h, List.getD_eq_getElem?_getD]
theorem Rd.int {w : World} {B : Nat} {A : Option Addr} {l : List Int} (h : Rd w B A (ints l)) {k : Nat} (hk : k < l.length) : ∃ b off x, A = some ⟨b, off, none⟩ ∧ b < B ∧ Hid (l.getD k 0 = x) ∧ w.cell? ⟨b, off + k, none⟩ = some (.int .i64 x) := by
  obtain ⟨b, off, e, hb, hc⟩ := h k _ (ints_get l k hk)
  exact ⟨b, off, _, e, hb, Lib.hid rfl, hc⟩
theorem DrawI.weak {w : World} {g : Nat} {P Q : Int → Prop} {e : Ending} {w' : World} (h : DrawI w g P e w') (hpq : ∀ x, P x → Q x) : DrawI w g Q e w' := by
  obtain ⟨⟨x, hx, he⟩, r⟩ := h
  exact ⟨⟨x, hpq x hx, he⟩, r⟩
theorem Rd.grown {w w' : World} {B : Nat} {A : Option Addr} {xs : List Value} {g : Nat} (h : Rd w B A xs) (hg : w.grownBy w' (some g)) (hne : ∀ b o, A = some ⟨b, o, none⟩ → b ≠ g) : Rd w' B A xs := fun j u hu => by
  obtain ⟨b, off, e, hlt, hc⟩ := h j u hu
  exact ⟨b, off, e, hlt, hg.cell hc (fun e' => by injection e' with e'; exact hne b off e e')⟩
theorem lit_rd (w : World) (T : TypeId) (xs : List Value) : Rd (w.alloc (.cells xs.toArray T)) (w.heap.size + 1) (some ⟨w.heap.size, 0, none⟩) xs := fun j u hu =>
  ⟨w.heap.size, 0, rfl, Nat.lt_succ_self _, by rw [Nat.zero_add]; have hk : Bk (w.alloc (.cells xs.toArray T)) w.heap.size T xs.toArray := heap_alloc_new w _; exact (hk.cell j).trans (by simpa using hu)⟩
theorem l1PickInt_any {w : World} {g B : Nat} {A : Option Addr} {c n : Nat} {L : List Int} (hr : Rd w B A (ints L)) (hne : ∀ b o, A = some ⟨b, o, none⟩ → b ≠ g) (hl : L.length = n) (h0 : 0 < n) (h1 : n ≤ 256) (hc : Cur w g) :
    Calls Tryd.prog 27 #[.pointer (some ⟨g, 0, none⟩), .slice A n c] w (DrawI w g fun x => x ∈ L) := by
  go_enter Tryd.func27, Tryd.ntmps27
  go_wp2_with fail
  refine (l1Below_any n h0 h1 hc).mono ?_
  rintro e w1 ⟨⟨x, ⟨hx0, hx1⟩, rfl⟩, hc1, hg1⟩
  obtain ⟨k, rfl⟩ := Int.eq_ofNat_of_zero_le hx0
  have hk : k < n := by omega
  have hr1 := hr.grown hg1 hne
  obtain ⟨b, off, x, rfl, hb, HX, c0⟩ := hr1.int (k := k) (by rw [hl]; exact hk)
  have hmem : x ∈ L := by
    have := HX.out
    rw [List.getD_eq_getElem?_getD, List.getElem?_eq_getElem (by rw [hl]; exact hk), Option.getD_some] at this
    rw [← this]; exact List.getElem_mem _
  clear hr hr1 HX
  go_wp2
  go_ret
  exact ⟨⟨x, hmem, rfl⟩, hc1, hg1⟩
theorem gb_of_below' {w w' : World} (h : Below w.heap.size w w') (row : Option Nat) : w.grownBy w' row := ⟨h.os, h.tape, h.output, h.size, fun k hk _ => h.block k hk⟩
theorem grown_below' {a w w' : World} {row : Option Nat} (h : a.grownBy w row) (hb : Below w.heap.size w w') : a.grownBy w' row :=
  ⟨hb.os.trans h.os, hb.tape.trans h.tape, hb.output.trans h.output, Nat.le_trans h.size hb.size, fun k hk hne => (hb.block k (Nat.lt_of_lt_of_le hk h.size)).trans (h.block k hk hne)⟩
def In64 (x : Int) : Prop := -9223372036854775808 ≤ x ∧ x ≤ 9223372036854775807
theorem mul_bd {x y : Int} (h0 : 0 ≤ x) (h1 : x < 1000000000) (h2 : 0 ≤ y) (h3 : y < 1000000000) : 0 ≤ x * y ∧ x * y ≤ 1000000000000000000 := by
  refine ⟨Int.mul_nonneg h0 h2, ?_⟩
  have := Int.mul_le_mul (show x ≤ 1000000000 by omega) (show y ≤ 1000000000 by omega) h2 (by decide)
  omega
set_option maxRecDepth 20000 in
set_option maxHeartbeats 2000000 in
theorem l1Num_any {w : World} {g : Nat} (hc : Cur w g) : Calls Tryd.prog 19 #[.pointer (some ⟨g, 0, none⟩)] w (DrawI w g In64) := by
  go_enter Tryd.func19, Tryd.ntmps19
  go_wp2_with fail
  refine (l1Below_any 8 (by decide) (by decide) hc).mono ?_
  rintro e w1 ⟨⟨z, ⟨hz0, hz1⟩, rfl⟩, hc1, hg1⟩
  by_cases z0 : z = 0
  · have hz : (z == 0) = true := by simp; omega
    go_wp2_with fail
    have al := (Below.refl w1.heap.size w1).alloc (Nat.le_refl _) (.cells (ints [-1, 0, 127, 128, 255, 256, 16383, 16384, 65535, 65536, 562949953421311, 562949953421312, 999999999, 1000000000, -999999999, 9223372036854775807, -9223372036854775808]).toArray 3)
    have hr := lit_rd w1 3 (ints [-1, 0, 127, 128, 255, 256, 16383, 16384, 65535, 65536, 562949953421311, 562949953421312, 999999999, 1000000000, -999999999, 9223372036854775807, -9223372036854775808])
    refine (l1PickInt_any (n := 17) hr (fun b o e => by simp at e; have := hc1.lt; omega) rfl (by decide) (by decide) (hc1.below al hc1.lt)).mono ?_
    rintro e w4 ⟨⟨u, hu, rfl⟩, hc4, hg4⟩
    have hsu : In64 u := by simp at hu; exact ⟨by omega, by omega⟩
    have hg := grown_trans (grown_below' hg1 al) hg4
    clear hu hr al
    go_wp2
    go_ret
    exact ⟨⟨u, hsu, rfl⟩, hc4, hg⟩
  · have hz : (z == 0) = false := by simp; omega
    by_cases z1 : z = 1
    · have hz' : (z == 1) = true := by simp; omega
      go_wp2_with fail
      refine (l1Below_big 1000000000 (by decide) (by decide) hc1).mono ?_
      rintro e w2 ⟨⟨x, ⟨hx0, hx1⟩, rfl⟩, hc2, hg2⟩
      go_wp2_with fail
      refine (l1Below_big 1000000000 (by decide) (by decide) hc2).mono ?_
      rintro e w3 ⟨⟨y, ⟨hy0, hy1⟩, rfl⟩, hc3, hg3⟩
      obtain ⟨hm0, hm1⟩ := mul_bd hx0 (by simpa using hx1) hy0 (by simpa using hy1)
      have hm : IntKind.i64.wrap (x * y) = x * y := IntWalk.i64_in _ (by omega)
      go_wp2
      go_ret
      exact ⟨⟨x * y, ⟨by omega, by omega⟩, rfl⟩, hc3, grown_trans hg1 (grown_trans hg2 hg3)⟩
    · have hz' : (z == 1) = false := by simp; omega
      by_cases z2 : z = 2
      · have hz'' : (z == 2) = true := by simp; omega
        go_wp2_with fail
        refine (l1Below_big 100000 (by decide) (by decide) hc1).mono ?_
        rintro e w2 ⟨⟨x, ⟨hx0, hx1⟩, rfl⟩, hc2, hg2⟩
        go_wp2
        go_ret
        exact ⟨⟨_, ⟨by omega, by omega⟩, rfl⟩, hc2, grown_trans hg1 hg2⟩
      · have hz'' : (z == 2) = false := by simp; omega
        go_wp2_with fail
        refine (l1Below_big 70000 (by decide) (by decide) hc1).mono ?_
        rintro e w2 ⟨⟨x, ⟨hx0, hx1⟩, rfl⟩, hc2, hg2⟩
        go_wp2
        go_ret
        exact ⟨⟨_, ⟨by omega, by omega⟩, rfl⟩, hc2, grown_trans hg1 hg2⟩
end Go.Proofs.YthhdjajjckcikaaDoor
