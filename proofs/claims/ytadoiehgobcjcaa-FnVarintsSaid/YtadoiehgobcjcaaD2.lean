/- What the laws draw from a code: texts out of a list, numbers of the wire, bytes. No conditions. -/
import Derived.Test.YtadoiehgobcjcaaD1
import Derived.Test.YtadoiehgobcjcaaQ7
import Derived.Test.YtadoiehgobcjcaaQL2
namespace Go.Proofs.Ytadoiehgobcjcaa
open Go.ChangeShapes Go.WideShapes Go.ChangeAt Go.RowKit Go.Sort QM
set_option linter.unusedVariables false
set_option linter.unusedSimpArgs false
def strs (L : List ByteArray) : List Value := L.map Value.string
theorem strs_get (l : List ByteArray) (k : Nat) (h : k < l.length) : (strs l)[k]? = some (.string (l.getD k ⟨#[]⟩)) := by
  simp [strs, List.getElem?_eq_getElem h, List.getD_eq_getElem?_getD]
theorem Rd.str {w : World} {B : Nat} {A : Option Addr} {l : List ByteArray} (h : Rd w B A (strs l)) {k : Nat} (hk : k < l.length) : ∃ b off x, A = some ⟨b, off, none⟩ ∧ b < B ∧ Hid (l.getD k ⟨#[]⟩ = x) ∧ w.cell? ⟨b, off + k, none⟩ = some (.string x) := by
  obtain ⟨b, off, e, hb, hc⟩ := h k _ (strs_get l k hk)
  exact ⟨b, off, _, e, hb, Lib.hid rfl, hc⟩
/-- A text is drawn; block g alone was written. -/
def DrawT (w : World) (g : Nat) (P : ByteArray → Prop) (e : Ending) (w' : World) : Prop := (∃ s : ByteArray, P s ∧ e = .returned (.string s)) ∧ Cur w' g ∧ w.grownBy w' (some g)
theorem l1Pick_any {w : World} {g B : Nat} {A : Option Addr} {c n : Nat} {L : List ByteArray} (hr : Rd w B A (strs L)) (hne : ∀ b o, A = some ⟨b, o, none⟩ → b ≠ g) (hl : L.length = n) (h0 : 0 < n) (h1 : n ≤ 256) (hc : Cur w g) :
    Calls Try.prog 54 #[.pointer (some ⟨g, 0, none⟩), .slice A n c] w (DrawT w g fun x => x ∈ L) := by
  go_enter Try.func54, Try.ntmps54
  go_wp2_with fail
  refine (l1Below_any n h0 h1 hc).mono ?_
  rintro e w1 ⟨⟨x, ⟨hx0, hx1⟩, rfl⟩, hc1, hg1⟩
  obtain ⟨k, rfl⟩ := Int.eq_ofNat_of_zero_le hx0
  have hk : k < n := by omega
  have hr1 := hr.grown hg1 hne
  obtain ⟨b, off, x, rfl, hb, HX, c0⟩ := hr1.str (k := k) (by rw [hl]; exact hk)
  have hmem : x ∈ L := by
    have := HX.out
    rw [List.getD_eq_getElem?_getD, List.getElem?_eq_getElem (by rw [hl]; exact hk), Option.getD_some] at this
    rw [← this]; exact List.getElem_mem _
  clear hr hr1 HX
  go_wp2
  go_ret
  exact ⟨⟨x, hmem, rfl⟩, hc1, hg1⟩
/-- A number that fits the wire or nearly. -/
def NearQ (x : Int) : Prop := -1 ≤ x ∧ x ≤ 4611686018427387904
set_option maxRecDepth 20000 in
set_option maxHeartbeats 2000000 in
theorem l2Number_any {w : World} {g : Nat} (hc : Cur w g) : Calls Try.prog 45 #[.pointer (some ⟨g, 0, none⟩)] w (DrawI w g NearQ) := by
  go_enter Try.func45, Try.ntmps45
  go_wp2_with fail
  refine (l1Below_any 6 (by decide) (by decide) hc).mono ?_
  rintro e w1 ⟨⟨z, ⟨hz0, hz1⟩, rfl⟩, hc1, hg1⟩
  by_cases z0 : z = 0
  · have hz : (z == 0) = true := by simp; omega
    go_wp2_with fail
    have al := (Below.refl w1.heap.size w1).alloc (Nat.le_refl _) (.cells (ints [-1, 0, 63, 64, 16383, 16384, 1073741823, 1073741824, 4611686018427387903, 4611686018427387904]).toArray 3)
    have hr := lit_rd w1 3 (ints [-1, 0, 63, 64, 16383, 16384, 1073741823, 1073741824, 4611686018427387903, 4611686018427387904])
    refine (l1PickInt_any (n := 10) hr (fun b o e => by simp at e; have := hc1.lt; omega) rfl (by decide) (by decide) (hc1.below al hc1.lt)).mono ?_
    rintro e w4 ⟨⟨u, hu, rfl⟩, hc4, hg4⟩
    have hsu : NearQ u := by simp at hu; exact ⟨by omega, by omega⟩
    have hg := grown_trans hg1 (grown_trans (gb_of_below al _) hg4)
    clear hu hr al
    go_wp2
    go_ret
    exact ⟨⟨u, hsu, rfl⟩, hc4, hg⟩
  · have hz : (z == 0) = false := by simp; omega
    by_cases z1 : z = 1
    · have hz' : (z == 1) = true := by simp; omega
      go_wp2_with fail
      refine (l1Below_any 256 (by decide) (by decide) hc1).mono ?_
      rintro e w2 ⟨⟨x, ⟨hx0, hx1⟩, rfl⟩, hc2, hg2⟩
      go_wp2_with fail
      refine (l1Below_any 256 (by decide) (by decide) hc2).mono ?_
      rintro e w3 ⟨⟨y, ⟨hy0, hy1⟩, rfl⟩, hc3, hg3⟩
      obtain ⟨x, rfl⟩ := Int.eq_ofNat_of_zero_le hx0
      obtain ⟨y, rfl⟩ := Int.eq_ofNat_of_zero_le hy0
      have hb : x * 256 * y ≤ 16777216 := by
        have := Nat.mul_le_mul (show x * 256 ≤ 65536 by omega) (show y ≤ 256 by omega)
        omega
      have he : (x : Int) * 256 * (y : Int) = ((x * 256 * y : Nat) : Int) := by push_cast; rfl
      generalize x * 256 * y = q at hb he
      have hm : IntKind.i64.wrap ((x : Int) * 256 * (y : Int)) = (q : Int) := by rw [he]; exact IntWalk.i64_in _ (by omega)
      go_wp2
      go_ret
      exact ⟨⟨(q : Int), ⟨by omega, by omega⟩, rfl⟩, hc3, grown_trans hg1 (grown_trans hg2 hg3)⟩
    · have hz' : (z == 1) = false := by simp; omega
      go_wp2_with fail
      refine (l1Below_any 100 (by decide) (by decide) hc1).mono ?_
      rintro e w2 ⟨⟨x, ⟨hx0, hx1⟩, rfl⟩, hc2, hg2⟩
      go_wp2
      go_ret
      exact ⟨⟨_, ⟨by omega, by omega⟩, rfl⟩, hc2, grown_trans hg1 hg2⟩
theorem grown_below {a w w' : World} {row : Option Nat} (h : a.grownBy w row) (hb : Below w.heap.size w w') : a.grownBy w' row := grown_trans h (gb_of_below hb row)
theorem cur_step {w w' : World} {g : Nat} (h : Cur w g) (hb : Below w.heap.size w w') : Cur w' g := h.below hb h.lt
set_option maxRecDepth 20000 in
set_option maxHeartbeats 2000000 in
theorem l2Bytes_any {w : World} {g : Nat} (m : Nat) (hm : m ≤ 255) (hc : Cur w g) : Calls Try.prog 52 #[.pointer (some ⟨g, 0, none⟩), .int .i64 m] w (DrawT w g fun s => s.size ≤ m) := by
  go_enter Try.func52, Try.ntmps52
  go_wp2_with fail
  refine (l1Below_any (m + 1) (by omega) (by omega) hc).mono ?_
  rintro e w1 ⟨⟨x, ⟨hx0, hx1⟩, rfl⟩, hc1, hg1⟩
  obtain ⟨k0, rfl⟩ := Int.eq_ofNat_of_zero_le hx0
  go_wp2_with fail
  go_loopw [5, 6] (fun v i wr => ∃ (k : Nat) (s : ByteArray), i = .int .i64 k ∧ v = .string s ∧ s.size + k ≤ m ∧ Cur wr g ∧ w.grownBy wr (some g)) (fun v i _ => (intOf i).toNat)
  case atStart => exact ⟨k0, ⟨#[]⟩, rfl, rfl, by show 0 + k0 ≤ m; omega, hc1, hg1⟩
  case round =>
    obtain ⟨k, s, rfl, rfl, hsk, hcr, hgr⟩ := hrel
    clear hc1 hg1 hc
    by_cases h0 : 0 < k
    · have hd0 : decide ((0 : Int) < (k : Int)) = true := by simp; omega
      go_wp2_with fail
      refine (l1Below_any 256 (by decide) (by decide) hcr).mono ?_
      rintro e w3 ⟨⟨b, ⟨hb0, hb1⟩, rfl⟩, hc3, hg3⟩
      obtain ⟨b, rfl⟩ := Int.eq_ofNat_of_zero_le hb0
      have ho := one1_size b
      go_wp2_with fail
      refine (l2B _ b rfl (by omega) _).mono ?_
      rintro e w4 ⟨rfl, hb4⟩
      have hc4 := cur_step hc3 hb4
      have hg4 := grown_below (grown_trans hgr hg3) hb4
      clear hcr hgr hg3 hc3 hb4
      go_wp2
      go_roundw
      case rel => exact ⟨k - 1, s ++ one1 b, by go_num, rfl, by rw [ByteArray.size_append, ho]; omega, hc4, hg4⟩
      case measure => simp [intOf]; omega
    · have hd0 : decide ((0 : Int) < (k : Int)) = false := by simp; omega
      go_wp2
      go_ret
      exact ⟨⟨_, by omega, rfl⟩, hcr, hgr⟩
end Go.Proofs.Ytadoiehgobcjcaa
