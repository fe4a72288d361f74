/- Slices of frames: cells; eqFrameS, szFrameS, toFrameS. No conditions. What the laws draw from a code: a frame. No conditions. What the laws draw from a code: any frame. No conditions. Slices of frames: toFrameS. No conditions. What EncodePayload says. No conditions. What FnFrames draws from its code. No conditions. EncodePayload of both packages. No conditions. -/
import Derived.Test.YtadoiehgobcjcaaF6
import Derived.Test.YtadoiehgobcjcaaA4
import Derived.Test.YtadoiehgobcjcaaF2
import Derived.Laws.MakeOwn
namespace Go.Proofs.Ytadoiehgobcjcaa
open Go.ChangeShapes Go.WideShapes Go.ChangeAt Go.RowKit Go.Sort QM
set_option linter.unusedVariables false
set_option linter.unusedSimpArgs false
/-- A frame, as its fields. -/
structure Fr where
  a : Int
  b : Int
  c : Int
  d : ByteArray
  e : Bool
  g : Int
  l : Int
  m : Int
  u : Bool
def fr0 : Fr := ⟨0, 0, 0, ⟨#[]⟩, false, 0, 0, 0, false⟩
def frC (f : Fr) : List Value := [.int .i64 f.a, .int .i64 f.b, .int .i64 f.c, .string f.d, .bool f.e, .int .i64 f.g, .int .i64 f.l, .int .i64 f.m, .bool f.u]
def encF9 (l : List Fr) : List Value := l.flatMap frC
theorem encF9_len (l : List Fr) : (encF9 l).length = 9 * l.length := by
  induction l with
  | nil => rfl
  | cons r l ih => show (frC r ++ encF9 l).length = _; rw [List.length_append, ih]; simp [frC]; omega
theorem encF9_at (l : List Fr) : ∀ k i, k < l.length → i < 9 → (encF9 l)[9 * k + i]? = (frC (l.getD k fr0))[i]? := by
  induction l with
  | nil => intro k i h; simp at h
  | cons r l ih =>
    intro k i h hi
    have hl : (frC r).length = 9 := rfl
    cases k with
    | zero => show (frC r ++ encF9 l)[9 * 0 + i]? = _; rw [List.getElem?_append_left (by omega)]; simp
    | succ k =>
      show (frC r ++ encF9 l)[9 * (k + 1) + i]? = _
      rw [List.getElem?_append_right (by omega), hl]
      have := ih k i (by simpa using h) hi
      rw [show 9 * (k + 1) + i - 9 = 9 * k + i by omega]
      simpa using this
theorem Rd.frm {w : World} {B : Nat} {A : Option Addr} {l : List Fr} (h : Rd w B A (encF9 l)) {k : Nat} (hk : k < l.length) :
    ∃ b off f, A = some ⟨b, off, none⟩ ∧ b < B ∧ Hid (l.getD k fr0 = f) ∧ w.cell? ⟨b, off + k * 9, none⟩ = some (.int .i64 f.a) ∧ w.cell? ⟨b, off + k * 9 + 1, none⟩ = some (.int .i64 f.b) ∧ w.cell? ⟨b, off + k * 9 + 2, none⟩ = some (.int .i64 f.c) ∧ w.cell? ⟨b, off + k * 9 + 3, none⟩ = some (.string f.d) ∧ w.cell? ⟨b, off + k * 9 + 4, none⟩ = some (.bool f.e) ∧ w.cell? ⟨b, off + k * 9 + 5, none⟩ = some (.int .i64 f.g) ∧ w.cell? ⟨b, off + k * 9 + 6, none⟩ = some (.int .i64 f.l) ∧ w.cell? ⟨b, off + k * 9 + 7, none⟩ = some (.int .i64 f.m) ∧ w.cell? ⟨b, off + k * 9 + 8, none⟩ = some (.bool f.u) := by
  obtain ⟨b, off, e, hb, hc⟩ := h _ _ ((encF9_at l k 0 hk (by decide)).trans rfl)
  have key : ∀ i u, i < 9 → (frC (l.getD k fr0))[i]? = some u → w.cell? ⟨b, off + k * 9 + i, none⟩ = some u := by
    intro i u hi hu
    have := h.cell e ((encF9_at l k i hk hi).trans hu)
    rw [show off + k * 9 + i = off + (9 * k + i) by omega]; exact this
  refine ⟨b, off, l.getD k fr0, e, hb, Lib.hid rfl, key 0 _ (by decide) rfl, key 1 _ (by decide) rfl, key 2 _ (by decide) rfl, key 3 _ (by decide) rfl, key 4 _ (by decide) rfl, key 5 _ (by decide) rfl, key 6 _ (by decide) rfl, key 7 _ (by decide) rfl, key 8 _ (by decide) rfl⟩
def totF (l : List Fr) (k : Nat) : Nat := ((l.take k).map fun f => f.d.size).sum
theorem totF_zero (l : List Fr) : totF l 0 = 0 := by simp [totF]
theorem totF_succ (l : List Fr) (k : Nat) (h : k < l.length) : totF l (k + 1) = totF l k + (l.getD k fr0).d.size := by
  unfold totF
  rw [List.take_succ_eq_append_getElem h]
  simp only [List.map_append, List.map_cons, List.map_nil, List.sum_append, List.sum_cons, List.sum_nil, Nat.add_zero]
  rw [List.getD_eq_getElem?_getD, List.getElem?_eq_getElem h, Option.getD_some]
theorem totF_mono (l : List Fr) {i j : Nat} (h : i ≤ j) (hj : j ≤ l.length) : totF l i ≤ totF l j := by
  obtain ⟨d, rfl⟩ := Nat.le.dest h
  clear h
  induction d with
  | zero => exact Nat.le_refl _
  | succ d ih =>
    have := ih (by omega)
    rw [← Nat.add_assoc, totF_succ l (i + d) (by omega)]
    omega
def SmallF (l : List Fr) (r : Int) : Prop := 0 ≤ r ∧ r + l.length + totF l l.length = 1048576
theorem SmallF.data {l : List Fr} {r : Int} (h : SmallF l r) (k : Nat) (hk : k < l.length) : (l.getD k fr0).d.size ≤ 1048576 := by
  obtain ⟨h1, h2⟩ := h
  have a := totF_succ l k hk
  have b := totF_mono l (i := k + 1) (j := l.length) hk (Nat.le_refl _)
  omega
end Go.Proofs.Ytadoiehgobcjcaa

namespace Go.Proofs.Ytadoiehgobcjcaa
open Go.ChangeShapes Go.WideShapes Go.ChangeAt Go.RowKit Go.Sort QM
set_option linter.unusedVariables false
set_option linter.unusedSimpArgs false
theorem grown_set {a w : World} {row : Option Nat} {g i : Nat} (h : a.grownBy w row) (hg : a.heap.size ≤ g) (u : Value) : a.grownBy (w.setCell ⟨g, i, none⟩ u) row :=
  ⟨h.os, h.tape, h.output, by simpa [World.setCell] using h.size, fun k hk hne => (Below.heap_setCell w ⟨g, i, none⟩ u k (by show k ≠ g; omega)).trans (h.block k hk hne)⟩
theorem Cur.setOther {w : World} {g g' i : Nat} (h : Cur w g) (hg : g < g') (u : Value) : Cur (w.setCell ⟨g', i, none⟩ u) g :=
  h.below (B := g + 1) ((Below.refl _ _).setCell (p := ⟨g', i, none⟩) hg u) (Nat.lt_succ_self g)
/-- A frame of short data is drawn. -/
def DrawF (w : World) (g : Nat) (e : Ending) (w' : World) : Prop := (∃ f : Fr, f.d.size ≤ 6 ∧ e = .returned (.agg #[.int .i64 f.a, .int .i64 f.b, .int .i64 f.c, .string f.d, .bool f.e, .int .i64 f.g, .int .i64 f.l, .int .i64 f.m, .bool f.u])) ∧ Cur w' g ∧ w.grownBy w' (some g)
theorem own9 {w : World} {g : Nat} {T : TypeId} {x0 x1 x2 x3 x4 x5 x6 x7 x8 : Value} (h : Bk w g T #[x0, x1, x2, x3, x4, x5, x6, x7, x8]) : (∀ i, w.frozen? ⟨g, i, none⟩ = false) ∧ w.cell? ⟨g, 0, none⟩ = some x0 ∧ w.cell? ⟨g, 1, none⟩ = some x1 ∧ w.cell? ⟨g, 2, none⟩ = some x2 ∧ w.cell? ⟨g, 3, none⟩ = some x3 ∧ w.cell? ⟨g, 4, none⟩ = some x4 ∧ w.cell? ⟨g, 5, none⟩ = some x5 ∧ w.cell? ⟨g, 6, none⟩ = some x6 ∧ w.cell? ⟨g, 7, none⟩ = some x7 ∧ w.cell? ⟨g, 8, none⟩ = some x8 :=
  ⟨fun i => h.frozen i, h.nine⟩
def kinds9 : List Int := [4, 5, 8, 8, 8, 8, 16, 17, 18, 20, 21, 22]
theorem kinds9_in {x : Int} (h : x ∈ kinds9) : x = 4 ∨ x = 5 ∨ x = 8 ∨ x = 16 ∨ x = 17 ∨ x = 18 ∨ x = 20 ∨ x = 21 ∨ x = 22 := by
  simp [kinds9] at h; omega
theorem results_frame1 {fn : Func} {p : Tmp} (h : fn.results = #[.cell p 40]) (tmps : Array Value) (w : World) (g : Nat) (cs : Array Value)
    (hp : tmps.getD p undef = .pointer (some ⟨g, 0, none⟩)) (hg : Bk w g 40 cs) (hs : cs.size = 9) :
    (results fn tmps).run Try.prog w = .ok (.agg cs) w := by
  have hp' : tmps[p]?.getD undef = .pointer (some ⟨g, 0, none⟩) := by simpa using hp
  have hl := run_loadVar_row (P := Try.prog) w g 40 40 cs (0, 0) _ hg Try.underlying40 rfl (by rw [hs]; kernel_rfl)
  simp [results, h, hp', asAddr, hl]
/-- The fields that a drawn kind uses. -/
theorem used_any (a b c : Int) (d : ByteArray) (e : Bool) (g l m : Int) (u : Bool) (hd : d.size ≤ 6) (ha : a = 4 ∨ a = 5 ∨ a = 8 ∨ a = 16 ∨ a = 17 ∨ a = 18 ∨ a = 20 ∨ a = 21 ∨ a = 22) (w : World) :
    Calls Try.prog 60 #[.agg #[.int .i64 a, .int .i64 b, .int .i64 c, .string d, .bool e, .int .i64 g, .int .i64 l, .int .i64 m, .bool u]] w fun x w' => (∃ f : Fr, f.d.size ≤ 6 ∧ x = .returned (.agg #[.int .i64 f.a, .int .i64 f.b, .int .i64 f.c, .string f.d, .bool f.e, .int .i64 f.g, .int .i64 f.l, .int .i64 f.m, .bool f.u])) ∧ Below w.heap.size w w' := by
  have h0 : (⟨#[]⟩ : ByteArray).size ≤ 6 := Nat.zero_le _
  rcases ha with rfl | rfl | rfl | rfl | rfl | rfl | rfl | rfl | rfl
  · exact (sUsed_4 b c d e g l m u w).mono fun x w' ⟨h1, h2⟩ => ⟨⟨⟨_, _, _, _, _, _, _, _, _⟩, by first | exact h0 | exact hd, h1⟩, h2⟩
  · exact (sUsed_5 b c d e g l m u w).mono fun x w' ⟨h1, h2⟩ => ⟨⟨⟨_, _, _, _, _, _, _, _, _⟩, by first | exact h0 | exact hd, h1⟩, h2⟩
  · exact (sUsed_8 b c d e g l m u w).mono fun x w' ⟨h1, h2⟩ => ⟨⟨⟨_, _, _, _, _, _, _, _, _⟩, by first | exact h0 | exact hd, h1⟩, h2⟩
  · exact (sUsed_16 b c d e g l m u w).mono fun x w' ⟨h1, h2⟩ => ⟨⟨⟨_, _, _, _, _, _, _, _, _⟩, by first | exact h0 | exact hd, h1⟩, h2⟩
  · exact (sUsed_17 b c d e g l m u w).mono fun x w' ⟨h1, h2⟩ => ⟨⟨⟨_, _, _, _, _, _, _, _, _⟩, by first | exact h0 | exact hd, h1⟩, h2⟩
  · exact (sUsed_18 b c d e g l m u w).mono fun x w' ⟨h1, h2⟩ => ⟨⟨⟨_, _, _, _, _, _, _, _, _⟩, by first | exact h0 | exact hd, h1⟩, h2⟩
  · exact (sUsed_20 b c d e g l m u w).mono fun x w' ⟨h1, h2⟩ => ⟨⟨⟨_, _, _, _, _, _, _, _, _⟩, by first | exact h0 | exact hd, h1⟩, h2⟩
  · exact (sUsed_21 b c d e g l m u w).mono fun x w' ⟨h1, h2⟩ => ⟨⟨⟨_, _, _, _, _, _, _, _, _⟩, by first | exact h0 | exact hd, h1⟩, h2⟩
  · exact (sUsed_22 b c d e g l m u w).mono fun x w' ⟨h1, h2⟩ => ⟨⟨⟨_, _, _, _, _, _, _, _, _⟩, by first | exact h0 | exact hd, h1⟩, h2⟩
theorem Bk.setOther {w : World} {g g' i : Nat} {T : TypeId} {cs : Array Value} (h : Bk w g T cs) (hne : g ≠ g') (u : Value) : Bk (w.setCell ⟨g', i, none⟩ u) g T cs :=
  (Below.heap_setCell w ⟨g', i, none⟩ u g hne).trans h
theorem Bk.set9 {w : World} {g : Nat} {T : TypeId} {x0 x1 x2 x3 x4 x5 x6 x7 x8 : Value} (h : Bk w g T #[x0, x1, x2, x3, x4, x5, x6, x7, x8]) (y0 y1 y2 y3 y4 y5 y6 y7 y8 : Value) :
    Bk (((((((((w.setCell ⟨g, 0, none⟩ y0).setCell ⟨g, 1, none⟩ y1).setCell ⟨g, 2, none⟩ y2).setCell ⟨g, 3, none⟩ y3).setCell ⟨g, 4, none⟩ y4).setCell ⟨g, 5, none⟩ y5).setCell ⟨g, 6, none⟩ y6).setCell ⟨g, 7, none⟩ y7).setCell ⟨g, 8, none⟩ y8) g T #[y0, y1, y2, y3, y4, y5, y6, y7, y8] := by
  have h0 : Bk (w.setCell ⟨g, 0, none⟩ y0) g T #[y0, x1, x2, x3, x4, x5, x6, x7, x8] := h.set_ 0 y0
  have h1 : Bk ((w.setCell ⟨g, 0, none⟩ y0).setCell ⟨g, 1, none⟩ y1) g T #[y0, y1, x2, x3, x4, x5, x6, x7, x8] := h0.set_ 1 y1
  have h2 : Bk (((w.setCell ⟨g, 0, none⟩ y0).setCell ⟨g, 1, none⟩ y1).setCell ⟨g, 2, none⟩ y2) g T #[y0, y1, y2, x3, x4, x5, x6, x7, x8] := h1.set_ 2 y2
  have h3 : Bk ((((w.setCell ⟨g, 0, none⟩ y0).setCell ⟨g, 1, none⟩ y1).setCell ⟨g, 2, none⟩ y2).setCell ⟨g, 3, none⟩ y3) g T #[y0, y1, y2, y3, x4, x5, x6, x7, x8] := h2.set_ 3 y3
  have h4 : Bk (((((w.setCell ⟨g, 0, none⟩ y0).setCell ⟨g, 1, none⟩ y1).setCell ⟨g, 2, none⟩ y2).setCell ⟨g, 3, none⟩ y3).setCell ⟨g, 4, none⟩ y4) g T #[y0, y1, y2, y3, y4, x5, x6, x7, x8] := h3.set_ 4 y4
  have h5 : Bk ((((((w.setCell ⟨g, 0, none⟩ y0).setCell ⟨g, 1, none⟩ y1).setCell ⟨g, 2, none⟩ y2).setCell ⟨g, 3, none⟩ y3).setCell ⟨g, 4, none⟩ y4).setCell ⟨g, 5, none⟩ y5) g T #[y0, y1, y2, y3, y4, y5, x6, x7, x8] := h4.set_ 5 y5
  have h6 : Bk (((((((w.setCell ⟨g, 0, none⟩ y0).setCell ⟨g, 1, none⟩ y1).setCell ⟨g, 2, none⟩ y2).setCell ⟨g, 3, none⟩ y3).setCell ⟨g, 4, none⟩ y4).setCell ⟨g, 5, none⟩ y5).setCell ⟨g, 6, none⟩ y6) g T #[y0, y1, y2, y3, y4, y5, y6, x7, x8] := h5.set_ 6 y6
  have h7 : Bk ((((((((w.setCell ⟨g, 0, none⟩ y0).setCell ⟨g, 1, none⟩ y1).setCell ⟨g, 2, none⟩ y2).setCell ⟨g, 3, none⟩ y3).setCell ⟨g, 4, none⟩ y4).setCell ⟨g, 5, none⟩ y5).setCell ⟨g, 6, none⟩ y6).setCell ⟨g, 7, none⟩ y7) g T #[y0, y1, y2, y3, y4, y5, y6, y7, x8] := h6.set_ 7 y7
  have h8 : Bk (((((((((w.setCell ⟨g, 0, none⟩ y0).setCell ⟨g, 1, none⟩ y1).setCell ⟨g, 2, none⟩ y2).setCell ⟨g, 3, none⟩ y3).setCell ⟨g, 4, none⟩ y4).setCell ⟨g, 5, none⟩ y5).setCell ⟨g, 6, none⟩ y6).setCell ⟨g, 7, none⟩ y7).setCell ⟨g, 8, none⟩ y8) g T #[y0, y1, y2, y3, y4, y5, y6, y7, y8] := h7.set_ 8 y8
  exact h8
theorem Cur.set9 {w : World} {g g' : Nat} (h : Cur w g) (hg : g < g') (y0 y1 y2 y3 y4 y5 y6 y7 y8 : Value) : Cur (((((((((w.setCell ⟨g', 0, none⟩ y0).setCell ⟨g', 1, none⟩ y1).setCell ⟨g', 2, none⟩ y2).setCell ⟨g', 3, none⟩ y3).setCell ⟨g', 4, none⟩ y4).setCell ⟨g', 5, none⟩ y5).setCell ⟨g', 6, none⟩ y6).setCell ⟨g', 7, none⟩ y7).setCell ⟨g', 8, none⟩ y8) g := (((((((((h.setOther (i := 0) hg y0).setOther (i := 1) hg y1).setOther (i := 2) hg y2).setOther (i := 3) hg y3).setOther (i := 4) hg y4).setOther (i := 5) hg y5).setOther (i := 6) hg y6).setOther (i := 7) hg y7).setOther (i := 8) hg y8)
theorem grown_set9 {a w : World} {row : Option Nat} {g' : Nat} (h : a.grownBy w row) (hg : a.heap.size ≤ g') (y0 y1 y2 y3 y4 y5 y6 y7 y8 : Value) : a.grownBy (((((((((w.setCell ⟨g', 0, none⟩ y0).setCell ⟨g', 1, none⟩ y1).setCell ⟨g', 2, none⟩ y2).setCell ⟨g', 3, none⟩ y3).setCell ⟨g', 4, none⟩ y4).setCell ⟨g', 5, none⟩ y5).setCell ⟨g', 6, none⟩ y6).setCell ⟨g', 7, none⟩ y7).setCell ⟨g', 8, none⟩ y8) row := (grown_set (i := 8) (grown_set (i := 7) (grown_set (i := 6) (grown_set (i := 5) (grown_set (i := 4) (grown_set (i := 3) (grown_set (i := 2) (grown_set (i := 1) (grown_set (i := 0) h hg y0) hg y1) hg y2) hg y3) hg y4) hg y5) hg y6) hg y7) hg y8)
theorem below_set9 {a w : World} {B g' : Nat} (h : Below B a w) (hg : B ≤ g') (y0 y1 y2 y3 y4 y5 y6 y7 y8 : Value) : Below B a (((((((((w.setCell ⟨g', 0, none⟩ y0).setCell ⟨g', 1, none⟩ y1).setCell ⟨g', 2, none⟩ y2).setCell ⟨g', 3, none⟩ y3).setCell ⟨g', 4, none⟩ y4).setCell ⟨g', 5, none⟩ y5).setCell ⟨g', 6, none⟩ y6).setCell ⟨g', 7, none⟩ y7).setCell ⟨g', 8, none⟩ y8) := (((((((((h.setCell (p := ⟨g', 0, none⟩) hg y0).setCell (p := ⟨g', 1, none⟩) hg y1).setCell (p := ⟨g', 2, none⟩) hg y2).setCell (p := ⟨g', 3, none⟩) hg y3).setCell (p := ⟨g', 4, none⟩) hg y4).setCell (p := ⟨g', 5, none⟩) hg y5).setCell (p := ⟨g', 6, none⟩) hg y6).setCell (p := ⟨g', 7, none⟩) hg y7).setCell (p := ⟨g', 8, none⟩) hg y8)
set_option maxRecDepth 20000 in
set_option maxHeartbeats 8000000 in
theorem l4Frame_any {w : World} {g : Nat} (hc : Cur w g) : Calls Try.prog 71 #[.pointer (some ⟨g, 0, none⟩)] w (DrawF w g) := by
  have al := (Below.refl w.heap.size w).alloc (Nat.le_refl _) (.cells #[.int .i64 0, .int .i64 0, .int .i64 0, .string ⟨#[]⟩, .bool false, .int .i64 0, .int .i64 0, .int .i64 0, .bool false] 40)
  have k0 : Bk (w.alloc (.cells #[.int .i64 0, .int .i64 0, .int .i64 0, .string ⟨#[]⟩, .bool false, .int .i64 0, .int .i64 0, .int .i64 0, .bool false] 40)) w.heap.size 40 #[.int .i64 0, .int .i64 0, .int .i64 0, .string ⟨#[]⟩, .bool false, .int .i64 0, .int .i64 0, .int .i64 0, .bool false] := heap_alloc_new w _
  have hg0 := gb_of_below al (some g)
  have hc0 := hc.below al hc.lt
  have hgl := hc.lt
  clear hc
  go_enter Try.func71, Try.ntmps71
  go_wp2_with fail
  have hs0 : (w.alloc (.cells #[.int .i64 0, .int .i64 0, .int .i64 0, .string ⟨#[]⟩, .bool false, .int .i64 0, .int .i64 0, .int .i64 0, .bool false] 40)).heap.size = w.heap.size + 1 := by simp
  generalize w.alloc (.cells #[.int .i64 0, .int .i64 0, .int .i64 0, .string ⟨#[]⟩, .bool false, .int .i64 0, .int .i64 0, .int .i64 0, .bool false] 40) = w0 at k0 hg0 hc0 hs0 ⊢
  clear al
  have al := (Below.refl w0.heap.size w0).alloc (Nat.le_refl _) (.cells (ints kinds9).toArray 3)
  have hr : Rd (w0.alloc (.cells (ints kinds9).toArray 3)) (w0.heap.size + 1) (some ⟨w.heap.size + 1, 0, none⟩) (ints kinds9) := by rw [← hs0]; exact lit_rd w0 3 (ints kinds9)
  refine (l1PickInt_any (n := 12) hr (fun b o e => by simp at e; omega) rfl (by decide) (by decide) (hc0.below al hc0.lt)).mono ?_
  rintro e w1 ⟨⟨a, ha, rfl⟩, hc, hg1⟩
  have HA := Lib.hid (kinds9_in ha)
  replace k0 := (k0.below al k0.lt).grown hg1 (fun e => by injection e; omega)
  replace hg0 := grown_trans (grown_below hg0 al) hg1
  clear al hr ha hc0 hg1 hs0
  go_wp2_with fail
  have al := (Below.refl w1.heap.size w1).alloc (Nat.le_refl _) (.cells #[.int .i64 a, .int .i64 0, .int .i64 0, .string ⟨#[]⟩, .bool false, .int .i64 0, .int .i64 0, .int .i64 0, .bool false] 40)
  have kF : Bk (w1.alloc (.cells #[.int .i64 a, .int .i64 0, .int .i64 0, .string ⟨#[]⟩, .bool false, .int .i64 0, .int .i64 0, .int .i64 0, .bool false] 40)) w1.heap.size 40 #[.int .i64 a, .int .i64 0, .int .i64 0, .string ⟨#[]⟩, .bool false, .int .i64 0, .int .i64 0, .int .i64 0, .bool false] := heap_alloc_new w1 _
  have hlt := k0.lt
  replace k0 := k0.below al k0.lt
  replace hg0 := grown_below hg0 al
  replace hc := cur_step hc al
  generalize w1.alloc (.cells #[.int .i64 a, .int .i64 0, .int .i64 0, .string ⟨#[]⟩, .bool false, .int .i64 0, .int .i64 0, .int .i64 0, .bool false] 40) = W at k0 kF hg0 hc ⊢
  clear al
  generalize w1.heap.size = gF at kF hlt ⊢
  refine (l1Below_any 8 (by decide) (by decide) hc).mono ?_
  rintro e W' ⟨⟨b, hb, rfl⟩, hc', hg'⟩
  clear hb
  replace k0 := k0.grown hg' (fun e => by injection e; omega)
  replace kF := kF.grown hg' (fun e => by injection e; omega)
  replace hg0 := grown_trans hg0 hg'
  clear hc hg' W
  have hc := hc'
  clear hc'
  have ⟨cf, c0, c1, c2, c3, c4, c5, c6, c7, c8⟩ := own9 kF
  go_wp2_with fail
  replace kF : Bk (W'.setCell ⟨gF, 1, none⟩ (.int .i64 b)) gF 40 #[.int .i64 a, .int .i64 b, .int .i64 0, .string ⟨#[]⟩, .bool false, .int .i64 0, .int .i64 0, .int .i64 0, .bool false] := kF.set_ 1 (.int .i64 b)
  replace k0 := k0.setOther (i := 1) (show w.heap.size ≠ gF by omega) (.int .i64 b)
  replace hg0 := grown_set (i := 1) hg0 (show w.heap.size ≤ gF by omega) (.int .i64 b)
  replace hc := hc.setOther (i := 1) (show g < gF by omega) (.int .i64 b)
  clear cf c0 c1 c2 c3 c4 c5 c6 c7 c8
  generalize W'.setCell ⟨gF, 1, none⟩ (.int .i64 b) = W at k0 kF hg0 hc ⊢
  clear W'
  refine (l1Below_any 12 (by decide) (by decide) hc).mono ?_
  rintro e W' ⟨⟨c, hb, rfl⟩, hc', hg'⟩
  clear hb
  replace k0 := k0.grown hg' (fun e => by injection e; omega)
  replace kF := kF.grown hg' (fun e => by injection e; omega)
  replace hg0 := grown_trans hg0 hg'
  clear hc hg' W
  have hc := hc'
  clear hc'
  have ⟨cf, c0, c1, c2, c3, c4, c5, c6, c7, c8⟩ := own9 kF
  go_wp2_with fail
  replace kF : Bk (W'.setCell ⟨gF, 2, none⟩ (.int .i64 c)) gF 40 #[.int .i64 a, .int .i64 b, .int .i64 c, .string ⟨#[]⟩, .bool false, .int .i64 0, .int .i64 0, .int .i64 0, .bool false] := kF.set_ 2 (.int .i64 c)
  replace k0 := k0.setOther (i := 2) (show w.heap.size ≠ gF by omega) (.int .i64 c)
  replace hg0 := grown_set (i := 2) hg0 (show w.heap.size ≤ gF by omega) (.int .i64 c)
  replace hc := hc.setOther (i := 2) (show g < gF by omega) (.int .i64 c)
  clear cf c0 c1 c2 c3 c4 c5 c6 c7 c8
  generalize W'.setCell ⟨gF, 2, none⟩ (.int .i64 c) = W at k0 kF hg0 hc ⊢
  clear W'
  refine (l4Data_any 6 (by decide) hc).mono ?_
  rintro e W' ⟨⟨d, hd, rfl⟩, hc', hg'⟩
  have HD := Lib.hid hd
  clear hd
  replace k0 := k0.grown hg' (fun e => by injection e; omega)
  replace kF := kF.grown hg' (fun e => by injection e; omega)
  replace hg0 := grown_trans hg0 hg'
  clear hc hg' W
  have hc := hc'
  clear hc'
  have ⟨cf, c0, c1, c2, c3, c4, c5, c6, c7, c8⟩ := own9 kF
  go_wp2_with fail
  replace kF : Bk (W'.setCell ⟨gF, 3, none⟩ (.string d)) gF 40 #[.int .i64 a, .int .i64 b, .int .i64 c, .string d, .bool false, .int .i64 0, .int .i64 0, .int .i64 0, .bool false] := kF.set_ 3 (.string d)
  replace k0 := k0.setOther (i := 3) (show w.heap.size ≠ gF by omega) (.string d)
  replace hg0 := grown_set (i := 3) hg0 (show w.heap.size ≤ gF by omega) (.string d)
  replace hc := hc.setOther (i := 3) (show g < gF by omega) (.string d)
  clear cf c0 c1 c2 c3 c4 c5 c6 c7 c8
  generalize W'.setCell ⟨gF, 3, none⟩ (.string d) = W at k0 kF hg0 hc ⊢
  clear W'
  refine (l1Once_any 4 (by decide) (by decide) hc).mono ?_
  rintro e W' ⟨⟨e1, rfl⟩, hc', hg'⟩
  replace k0 := k0.grown hg' (fun e => by injection e; omega)
  replace kF := kF.grown hg' (fun e => by injection e; omega)
  replace hg0 := grown_trans hg0 hg'
  clear hc hg' W
  have hc := hc'
  clear hc'
  have ⟨cf, c0, c1, c2, c3, c4, c5, c6, c7, c8⟩ := own9 kF
  go_wp2_with fail
  replace kF : Bk (W'.setCell ⟨gF, 4, none⟩ (.bool e1)) gF 40 #[.int .i64 a, .int .i64 b, .int .i64 c, .string d, .bool e1, .int .i64 0, .int .i64 0, .int .i64 0, .bool false] := kF.set_ 4 (.bool e1)
  replace k0 := k0.setOther (i := 4) (show w.heap.size ≠ gF by omega) (.bool e1)
  replace hg0 := grown_set (i := 4) hg0 (show w.heap.size ≤ gF by omega) (.bool e1)
  replace hc := hc.setOther (i := 4) (show g < gF by omega) (.bool e1)
  clear cf c0 c1 c2 c3 c4 c5 c6 c7 c8
  generalize W'.setCell ⟨gF, 4, none⟩ (.bool e1) = W at k0 kF hg0 hc ⊢
  clear W'
  refine (l1Below_any 5 (by decide) (by decide) hc).mono ?_
  rintro e W' ⟨⟨g1, hb, rfl⟩, hc', hg'⟩
  clear hb
  replace k0 := k0.grown hg' (fun e => by injection e; omega)
  replace kF := kF.grown hg' (fun e => by injection e; omega)
  replace hg0 := grown_trans hg0 hg'
  clear hc hg' W
  have hc := hc'
  clear hc'
  have ⟨cf, c0, c1, c2, c3, c4, c5, c6, c7, c8⟩ := own9 kF
  go_wp2_with fail
  replace kF : Bk (W'.setCell ⟨gF, 5, none⟩ (.int .i64 g1)) gF 40 #[.int .i64 a, .int .i64 b, .int .i64 c, .string d, .bool e1, .int .i64 g1, .int .i64 0, .int .i64 0, .bool false] := kF.set_ 5 (.int .i64 g1)
  replace k0 := k0.setOther (i := 5) (show w.heap.size ≠ gF by omega) (.int .i64 g1)
  replace hg0 := grown_set (i := 5) hg0 (show w.heap.size ≤ gF by omega) (.int .i64 g1)
  replace hc := hc.setOther (i := 5) (show g < gF by omega) (.int .i64 g1)
  clear cf c0 c1 c2 c3 c4 c5 c6 c7 c8
  generalize W'.setCell ⟨gF, 5, none⟩ (.int .i64 g1) = W at k0 kF hg0 hc ⊢
  clear W'
  refine (l1Below_any 40 (by decide) (by decide) hc).mono ?_
  rintro e W' ⟨⟨l1, hb, rfl⟩, hc', hg'⟩
  clear hb
  replace k0 := k0.grown hg' (fun e => by injection e; omega)
  replace kF := kF.grown hg' (fun e => by injection e; omega)
  replace hg0 := grown_trans hg0 hg'
  clear hc hg' W
  have hc := hc'
  clear hc'
  have ⟨cf, c0, c1, c2, c3, c4, c5, c6, c7, c8⟩ := own9 kF
  go_wp2_with fail
  replace kF : Bk (W'.setCell ⟨gF, 6, none⟩ (.int .i64 l1)) gF 40 #[.int .i64 a, .int .i64 b, .int .i64 c, .string d, .bool e1, .int .i64 g1, .int .i64 l1, .int .i64 0, .bool false] := kF.set_ 6 (.int .i64 l1)
  replace k0 := k0.setOther (i := 6) (show w.heap.size ≠ gF by omega) (.int .i64 l1)
  replace hg0 := grown_set (i := 6) hg0 (show w.heap.size ≤ gF by omega) (.int .i64 l1)
  replace hc := hc.setOther (i := 6) (show g < gF by omega) (.int .i64 l1)
  clear cf c0 c1 c2 c3 c4 c5 c6 c7 c8
  generalize W'.setCell ⟨gF, 6, none⟩ (.int .i64 l1) = W at k0 kF hg0 hc ⊢
  clear W'
  refine (l1Below_any 14 (by decide) (by decide) hc).mono ?_
  rintro e W' ⟨⟨m1, hb, rfl⟩, hc', hg'⟩
  clear hb
  replace k0 := k0.grown hg' (fun e => by injection e; omega)
  replace kF := kF.grown hg' (fun e => by injection e; omega)
  replace hg0 := grown_trans hg0 hg'
  clear hc hg' W
  have hc := hc'
  clear hc'
  have ⟨cf, c0, c1, c2, c3, c4, c5, c6, c7, c8⟩ := own9 kF
  go_wp2_with fail
  replace kF : Bk (W'.setCell ⟨gF, 7, none⟩ (.int .i64 m1)) gF 40 #[.int .i64 a, .int .i64 b, .int .i64 c, .string d, .bool e1, .int .i64 g1, .int .i64 l1, .int .i64 m1, .bool false] := kF.set_ 7 (.int .i64 m1)
  replace k0 := k0.setOther (i := 7) (show w.heap.size ≠ gF by omega) (.int .i64 m1)
  replace hg0 := grown_set (i := 7) hg0 (show w.heap.size ≤ gF by omega) (.int .i64 m1)
  replace hc := hc.setOther (i := 7) (show g < gF by omega) (.int .i64 m1)
  clear cf c0 c1 c2 c3 c4 c5 c6 c7 c8
  generalize W'.setCell ⟨gF, 7, none⟩ (.int .i64 m1) = W at k0 kF hg0 hc ⊢
  clear W'
  refine (l1Once_any 2 (by decide) (by decide) hc).mono ?_
  rintro e W' ⟨⟨u1, rfl⟩, hc', hg'⟩
  replace k0 := k0.grown hg' (fun e => by injection e; omega)
  replace kF := kF.grown hg' (fun e => by injection e; omega)
  replace hg0 := grown_trans hg0 hg'
  clear hc hg' W
  have hc := hc'
  clear hc'
  have ⟨cf, c0, c1, c2, c3, c4, c5, c6, c7, c8⟩ := own9 kF
  go_wp2_with fail
  replace kF : Bk (W'.setCell ⟨gF, 8, none⟩ (.bool u1)) gF 40 #[.int .i64 a, .int .i64 b, .int .i64 c, .string d, .bool e1, .int .i64 g1, .int .i64 l1, .int .i64 m1, .bool u1] := kF.set_ 8 (.bool u1)
  replace k0 := k0.setOther (i := 8) (show w.heap.size ≠ gF by omega) (.bool u1)
  replace hg0 := grown_set (i := 8) hg0 (show w.heap.size ≤ gF by omega) (.bool u1)
  replace hc := hc.setOther (i := 8) (show g < gF by omega) (.bool u1)
  clear cf c0 c1 c2 c3 c4 c5 c6 c7 c8
  generalize W'.setCell ⟨gF, 8, none⟩ (.bool u1) = W at k0 kF hg0 hc ⊢
  clear W'
  refine (used_any a b c d e1 g1 l1 m1 u1 HD.out HA.out W).mono ?_
  rintro e W2 ⟨⟨f, hf, rfl⟩, hb2⟩
  replace k0 := k0.below hb2 k0.lt
  replace hg0 := grown_below hg0 hb2
  replace hc := cur_step hc hb2
  clear hb2 kF HA HD hlt
  have ⟨cf, c0, c1, c2, c3, c4, c5, c6, c7, c8⟩ := own9 k0
  go_wp2
  exact bodyPost_ret (results_frame1 rfl _ _ w.heap.size #[.int .i64 f.a, .int .i64 f.b, .int .i64 f.c, .string f.d, .bool f.e, .int .i64 f.g, .int .i64 f.l, .int .i64 f.m, .bool f.u] rfl (k0.set9 (.int .i64 f.a) (.int .i64 f.b) (.int .i64 f.c) (.string f.d) (.bool f.e) (.int .i64 f.g) (.int .i64 f.l) (.int .i64 f.m) (.bool f.u)) rfl) rfl ⟨⟨f, hf, rfl⟩, hc.set9 hgl (.int .i64 f.a) (.int .i64 f.b) (.int .i64 f.c) (.string f.d) (.bool f.e) (.int .i64 f.g) (.int .i64 f.l) (.int .i64 f.m) (.bool f.u), grown_set9 hg0 (Nat.le_refl _) (.int .i64 f.a) (.int .i64 f.b) (.int .i64 f.c) (.string f.d) (.bool f.e) (.int .i64 f.g) (.int .i64 f.l) (.int .i64 f.m) (.bool f.u)⟩
end Go.Proofs.Ytadoiehgobcjcaa

namespace Go.Proofs.Ytadoiehgobcjcaa
open Go.ChangeShapes Go.WideShapes Go.ChangeAt Go.RowKit Go.Sort QM
set_option linter.unusedVariables false
set_option linter.unusedSimpArgs false
set_option maxRecDepth 20000 in
set_option maxHeartbeats 8000000 in
theorem l4Any_any {w : World} {g : Nat} (hc : Cur w g) : Calls Try.prog 55 #[.pointer (some ⟨g, 0, none⟩)] w (DrawF w g) := by
  have al := (Below.refl w.heap.size w).alloc (Nat.le_refl _) (.cells #[.int .i64 0, .int .i64 0, .int .i64 0, .string ⟨#[]⟩, .bool false, .int .i64 0, .int .i64 0, .int .i64 0, .bool false] 40)
  have k0 : Bk (w.alloc (.cells #[.int .i64 0, .int .i64 0, .int .i64 0, .string ⟨#[]⟩, .bool false, .int .i64 0, .int .i64 0, .int .i64 0, .bool false] 40)) w.heap.size 40 #[.int .i64 0, .int .i64 0, .int .i64 0, .string ⟨#[]⟩, .bool false, .int .i64 0, .int .i64 0, .int .i64 0, .bool false] := heap_alloc_new w _
  have hg0 := gb_of_below al (some g)
  have hc0 := hc.below al hc.lt
  have hgl := hc.lt
  clear hc
  go_enter Try.func55, Try.ntmps55
  go_wp2_with fail
  generalize w.alloc (.cells #[.int .i64 0, .int .i64 0, .int .i64 0, .string ⟨#[]⟩, .bool false, .int .i64 0, .int .i64 0, .int .i64 0, .bool false] 40) = w0 at k0 hg0 hc0 ⊢
  clear al
  refine (l4Frame_any hc0).mono ?_
  rintro e w1 ⟨⟨f, hf, rfl⟩, hc, hg1⟩
  have HF := Lib.hid hf
  replace k0 := k0.grown hg1 (fun e => by injection e; omega)
  replace hg0 := grown_trans hg0 hg1
  clear hc0 hg1 hf
  go_wp2_with fail
  have al := (Below.refl w1.heap.size w1).alloc (Nat.le_refl _) (.cells #[.int .i64 f.a, .int .i64 f.b, .int .i64 f.c, .string f.d, .bool f.e, .int .i64 f.g, .int .i64 f.l, .int .i64 f.m, .bool f.u] 40)
  have kF : Bk (w1.alloc (.cells #[.int .i64 f.a, .int .i64 f.b, .int .i64 f.c, .string f.d, .bool f.e, .int .i64 f.g, .int .i64 f.l, .int .i64 f.m, .bool f.u] 40)) w1.heap.size 40 #[.int .i64 f.a, .int .i64 f.b, .int .i64 f.c, .string f.d, .bool f.e, .int .i64 f.g, .int .i64 f.l, .int .i64 f.m, .bool f.u] := heap_alloc_new w1 _
  have hlt := k0.lt
  replace k0 := k0.below al k0.lt
  replace hg0 := grown_below hg0 al
  replace hc := cur_step hc al
  generalize w1.alloc (.cells #[.int .i64 f.a, .int .i64 f.b, .int .i64 f.c, .string f.d, .bool f.e, .int .i64 f.g, .int .i64 f.l, .int .i64 f.m, .bool f.u] 40) = W at k0 kF hg0 hc ⊢
  clear al
  generalize w1.heap.size = gF at kF hlt ⊢
  refine (l1Below_any 14 (by decide) (by decide) hc).mono ?_
  rintro e W' ⟨⟨z, ⟨hz0, hz1⟩, rfl⟩, hc', hg'⟩
  replace k0 := k0.grown hg' (fun e => by injection e; omega)
  replace kF := kF.grown hg' (fun e => by injection e; omega)
  replace hg0 := grown_trans hg0 hg'
  clear hc hg' W
  have m1 : (w.heap.size = gF) = False := by simp; omega
  have m2 : (gF = w.heap.size) = False := by simp; omega
  rcases (show z = 0 ∨ z = 1 ∨ z = 2 ∨ z = 3 ∨ (z ≠ 0 ∧ z ≠ 1 ∧ z ≠ 2 ∧ z ≠ 3) by omega) with rfl | rfl | rfl | rfl | ⟨z0, z1, z2, z3⟩
  · go_wp2_with fail
    have al := (Below.refl W'.heap.size W').alloc (Nat.le_refl _) (.cells (ints [-1, 0, 6, 9, 19, 24]).toArray 3)
    have hr := lit_rd W' 3 (ints [-1, 0, 6, 9, 19, 24])
    refine (l1PickInt_any (n := 6) hr (fun b o e => by simp at e; have := hc'.lt; omega) rfl (by decide) (by decide) (hc'.below al hc'.lt)).mono ?_
    rintro e W2 ⟨⟨x, hx, rfl⟩, hc2, hg2⟩
    replace k0 := (k0.below al k0.lt).grown hg2 (fun e => by injection e; omega)
    replace kF := (kF.below al kF.lt).grown hg2 (fun e => by injection e; omega)
    replace hg0 := grown_trans (grown_below hg0 al) hg2
    clear al hr hg2 hx hc'
    have ⟨cf, c0, c1, c2, c3, c4, c5, c6, c7, c8⟩ := own9 kF
    have ⟨df, d0, d1, d2, d3, d4, d5, d6, d7, d8⟩ := own9 k0
    go_wp2
    exact bodyPost_ret (results_frame1 rfl _ _ w.heap.size #[.int .i64 x, .int .i64 f.b, .int .i64 f.c, .string f.d, .bool f.e, .int .i64 f.g, .int .i64 f.l, .int .i64 f.m, .bool f.u] rfl ((k0.setOther (i := 0) (show w.heap.size ≠ gF by omega) (.int .i64 x)).set9 (.int .i64 x) (.int .i64 f.b) (.int .i64 f.c) (.string f.d) (.bool f.e) (.int .i64 f.g) (.int .i64 f.l) (.int .i64 f.m) (.bool f.u)) rfl) rfl ⟨⟨⟨x, f.b, f.c, f.d, f.e, f.g, f.l, f.m, f.u⟩, HF.out, rfl⟩, (hc2.setOther (i := 0) (show g < gF by omega) (.int .i64 x)).set9 hgl (.int .i64 x) (.int .i64 f.b) (.int .i64 f.c) (.string f.d) (.bool f.e) (.int .i64 f.g) (.int .i64 f.l) (.int .i64 f.m) (.bool f.u), grown_set9 (grown_set (i := 0) hg0 (show w.heap.size ≤ gF by omega) (.int .i64 x)) (Nat.le_refl _) (.int .i64 x) (.int .i64 f.b) (.int .i64 f.c) (.string f.d) (.bool f.e) (.int .i64 f.g) (.int .i64 f.l) (.int .i64 f.m) (.bool f.u)⟩
  · go_wp2_with fail
    have al := (Below.refl W'.heap.size W').alloc (Nat.le_refl _) (.cells (ints [-1, 1, 1152921504606846976, 1152921504606846977, 4611686018427387903, 4611686018427387904]).toArray 3)
    have hr := lit_rd W' 3 (ints [-1, 1, 1152921504606846976, 1152921504606846977, 4611686018427387903, 4611686018427387904])
    refine (l1PickInt_any (n := 6) hr (fun b o e => by simp at e; have := hc'.lt; omega) rfl (by decide) (by decide) (hc'.below al hc'.lt)).mono ?_
    rintro e W2 ⟨⟨x, hx, rfl⟩, hc2, hg2⟩
    replace k0 := (k0.below al k0.lt).grown hg2 (fun e => by injection e; omega)
    replace kF := (kF.below al kF.lt).grown hg2 (fun e => by injection e; omega)
    replace hg0 := grown_trans (grown_below hg0 al) hg2
    clear al hr hg2 hx hc'
    have ⟨cf, c0, c1, c2, c3, c4, c5, c6, c7, c8⟩ := own9 kF
    have ⟨df, d0, d1, d2, d3, d4, d5, d6, d7, d8⟩ := own9 k0
    go_wp2
    exact bodyPost_ret (results_frame1 rfl _ _ w.heap.size #[.int .i64 f.a, .int .i64 f.b, .int .i64 f.c, .string f.d, .bool f.e, .int .i64 f.g, .int .i64 x, .int .i64 f.m, .bool f.u] rfl ((k0.setOther (i := 6) (show w.heap.size ≠ gF by omega) (.int .i64 x)).set9 (.int .i64 f.a) (.int .i64 f.b) (.int .i64 f.c) (.string f.d) (.bool f.e) (.int .i64 f.g) (.int .i64 x) (.int .i64 f.m) (.bool f.u)) rfl) rfl ⟨⟨⟨f.a, f.b, f.c, f.d, f.e, f.g, x, f.m, f.u⟩, HF.out, rfl⟩, (hc2.setOther (i := 6) (show g < gF by omega) (.int .i64 x)).set9 hgl (.int .i64 f.a) (.int .i64 f.b) (.int .i64 f.c) (.string f.d) (.bool f.e) (.int .i64 f.g) (.int .i64 x) (.int .i64 f.m) (.bool f.u), grown_set9 (grown_set (i := 6) hg0 (show w.heap.size ≤ gF by omega) (.int .i64 x)) (Nat.le_refl _) (.int .i64 f.a) (.int .i64 f.b) (.int .i64 f.c) (.string f.d) (.bool f.e) (.int .i64 f.g) (.int .i64 x) (.int .i64 f.m) (.bool f.u)⟩
  · go_wp2_with fail
    have al := (Below.refl W'.heap.size W').alloc (Nat.le_refl _) (.cells (ints [-1, 70, 4611686018427387900, 4611686018427387903]).toArray 3)
    have hr := lit_rd W' 3 (ints [-1, 70, 4611686018427387900, 4611686018427387903])
    refine (l1PickInt_any (n := 4) hr (fun b o e => by simp at e; have := hc'.lt; omega) rfl (by decide) (by decide) (hc'.below al hc'.lt)).mono ?_
    rintro e W2 ⟨⟨x, hx, rfl⟩, hc2, hg2⟩
    replace k0 := (k0.below al k0.lt).grown hg2 (fun e => by injection e; omega)
    replace kF := (kF.below al kF.lt).grown hg2 (fun e => by injection e; omega)
    replace hg0 := grown_trans (grown_below hg0 al) hg2
    clear al hr hg2 hx hc'
    have ⟨cf, c0, c1, c2, c3, c4, c5, c6, c7, c8⟩ := own9 kF
    have ⟨df, d0, d1, d2, d3, d4, d5, d6, d7, d8⟩ := own9 k0
    go_wp2
    exact bodyPost_ret (results_frame1 rfl _ _ w.heap.size #[.int .i64 f.a, .int .i64 f.b, .int .i64 x, .string f.d, .bool f.e, .int .i64 f.g, .int .i64 f.l, .int .i64 f.m, .bool f.u] rfl ((k0.setOther (i := 2) (show w.heap.size ≠ gF by omega) (.int .i64 x)).set9 (.int .i64 f.a) (.int .i64 f.b) (.int .i64 x) (.string f.d) (.bool f.e) (.int .i64 f.g) (.int .i64 f.l) (.int .i64 f.m) (.bool f.u)) rfl) rfl ⟨⟨⟨f.a, f.b, x, f.d, f.e, f.g, f.l, f.m, f.u⟩, HF.out, rfl⟩, (hc2.setOther (i := 2) (show g < gF by omega) (.int .i64 x)).set9 hgl (.int .i64 f.a) (.int .i64 f.b) (.int .i64 x) (.string f.d) (.bool f.e) (.int .i64 f.g) (.int .i64 f.l) (.int .i64 f.m) (.bool f.u), grown_set9 (grown_set (i := 2) hg0 (show w.heap.size ≤ gF by omega) (.int .i64 x)) (Nat.le_refl _) (.int .i64 f.a) (.int .i64 f.b) (.int .i64 x) (.string f.d) (.bool f.e) (.int .i64 f.g) (.int .i64 f.l) (.int .i64 f.m) (.bool f.u)⟩
  · go_wp2_with fail
    have al := (Below.refl W'.heap.size W').alloc (Nat.le_refl _) (.cells (ints [-1, 64, 4611686018427387903, 4611686018427387904]).toArray 3)
    have hr := lit_rd W' 3 (ints [-1, 64, 4611686018427387903, 4611686018427387904])
    refine (l1PickInt_any (n := 4) hr (fun b o e => by simp at e; have := hc'.lt; omega) rfl (by decide) (by decide) (hc'.below al hc'.lt)).mono ?_
    rintro e W2 ⟨⟨x, hx, rfl⟩, hc2, hg2⟩
    replace k0 := (k0.below al k0.lt).grown hg2 (fun e => by injection e; omega)
    replace kF := (kF.below al kF.lt).grown hg2 (fun e => by injection e; omega)
    replace hg0 := grown_trans (grown_below hg0 al) hg2
    clear al hr hg2 hx hc'
    have ⟨cf, c0, c1, c2, c3, c4, c5, c6, c7, c8⟩ := own9 kF
    have ⟨df, d0, d1, d2, d3, d4, d5, d6, d7, d8⟩ := own9 k0
    go_wp2
    exact bodyPost_ret (results_frame1 rfl _ _ w.heap.size #[.int .i64 f.a, .int .i64 x, .int .i64 f.c, .string f.d, .bool f.e, .int .i64 f.g, .int .i64 f.l, .int .i64 f.m, .bool f.u] rfl ((k0.setOther (i := 1) (show w.heap.size ≠ gF by omega) (.int .i64 x)).set9 (.int .i64 f.a) (.int .i64 x) (.int .i64 f.c) (.string f.d) (.bool f.e) (.int .i64 f.g) (.int .i64 f.l) (.int .i64 f.m) (.bool f.u)) rfl) rfl ⟨⟨⟨f.a, x, f.c, f.d, f.e, f.g, f.l, f.m, f.u⟩, HF.out, rfl⟩, (hc2.setOther (i := 1) (show g < gF by omega) (.int .i64 x)).set9 hgl (.int .i64 f.a) (.int .i64 x) (.int .i64 f.c) (.string f.d) (.bool f.e) (.int .i64 f.g) (.int .i64 f.l) (.int .i64 f.m) (.bool f.u), grown_set9 (grown_set (i := 1) hg0 (show w.heap.size ≤ gF by omega) (.int .i64 x)) (Nat.le_refl _) (.int .i64 f.a) (.int .i64 x) (.int .i64 f.c) (.string f.d) (.bool f.e) (.int .i64 f.g) (.int .i64 f.l) (.int .i64 f.m) (.bool f.u)⟩
  · have e0 : (z == 0) = false := by simp; omega
    have e1 : (z == 1) = false := by simp; omega
    have e2 : (z == 2) = false := by simp; omega
    have e3 : (z == 3) = false := by simp; omega
    have ⟨cf, c0, c1, c2, c3, c4, c5, c6, c7, c8⟩ := own9 kF
    have ⟨df, d0, d1, d2, d3, d4, d5, d6, d7, d8⟩ := own9 k0
    go_wp2
    exact bodyPost_ret (results_frame1 rfl _ _ w.heap.size #[.int .i64 f.a, .int .i64 f.b, .int .i64 f.c, .string f.d, .bool f.e, .int .i64 f.g, .int .i64 f.l, .int .i64 f.m, .bool f.u] rfl (k0.set9 (.int .i64 f.a) (.int .i64 f.b) (.int .i64 f.c) (.string f.d) (.bool f.e) (.int .i64 f.g) (.int .i64 f.l) (.int .i64 f.m) (.bool f.u)) rfl) rfl ⟨⟨f, HF.out, rfl⟩, hc'.set9 hgl (.int .i64 f.a) (.int .i64 f.b) (.int .i64 f.c) (.string f.d) (.bool f.e) (.int .i64 f.g) (.int .i64 f.l) (.int .i64 f.m) (.bool f.u), grown_set9 hg0 (Nat.le_refl _) (.int .i64 f.a) (.int .i64 f.b) (.int .i64 f.c) (.string f.d) (.bool f.e) (.int .i64 f.g) (.int .i64 f.l) (.int .i64 f.m) (.bool f.u)⟩
end Go.Proofs.Ytadoiehgobcjcaa

namespace Go.Proofs.Ytadoiehgobcjcaa
open Go.ChangeShapes Go.WideShapes Go.ChangeAt Go.RowKit Go.Sort QM
set_option linter.unusedVariables false
set_option linter.unusedSimpArgs false
theorem info_frm : (Try.prog.info? 40).map (fun i => (i.zero, i.size, i.bytes)) = some (some (.agg #[.int .i64 0, .int .i64 0, .int .i64 0, .string ⟨#[]⟩, .bool false, .int .i64 0, .int .i64 0, .int .i64 0, .bool false]), 9, 80) := by kernel_rfl
end Go.Proofs.Ytadoiehgobcjcaa

namespace Go.Proofs.Ytadoiehgobcjcaa
open Go.ChangeShapes Go.WideShapes Go.ChangeAt Go.RowKit Go.Sort QM
set_option linter.unusedVariables false
set_option linter.unusedSimpArgs false
theorem isEmpty_size {d : ByteArray} : d.toList.isEmpty = decide (d.size = 0) := by
  rw [ByteArray.toList_eq]
  obtain ⟨⟨l⟩⟩ := d
  cases l <;> simp [ByteArray.size]
theorem encFB_pos (a : Int) (b c : Int) (d : ByteArray) (e : Bool) (g l m : Int) (u : Bool) (hf : isFB a b c d e g l m u = true) : 1 ≤ (encFB a b c d e g l m u).size := by
  rcases kind_cases a with rfl | rfl | rfl | rfl | rfl | rfl | rfl | rfl | rfl | h
  · rw [encFB_4 b c d e g l m u hf, ← iform_4 b c d e g l m u hf]; simp only [ByteArray.size_append, one1_size]; omega
  · rw [encFB_5 b c d e g l m u hf, ← iform_5 b c d e g l m u hf]; simp only [ByteArray.size_append, one1_size]; omega
  · cases hc : (c == 0)
    · cases e
      · rw [encFB_8e0c0 b c d g l m u hf hc, ← iform_8e0c0 b c d g l m u hf]; simp only [ByteArray.size_append, one1_size]; omega
      · rw [encFB_8e1c0 b c d g l m u hf hc, ← iform_8e1c0 b c d g l m u hf]; simp only [ByteArray.size_append, one1_size]; omega
    · obtain rfl : c = 0 := by simpa using hc
      cases e
      · rw [encFB_8e0c1 b d g l m u hf, ← iform_8e0c1 b d g l m u hf]; simp only [ByteArray.size_append, one1_size]; omega
      · rw [encFB_8e1c1 b d g l m u hf, ← iform_8e1c1 b d g l m u hf]; simp only [ByteArray.size_append, one1_size]; omega
  · rw [encFB_16 b c d e g l m u hf, ← iform_16 b c d e g l m u hf]; simp only [ByteArray.size_append, one1_size]; omega
  · rw [encFB_17 b c d e g l m u hf, ← iform_17 b c d e g l m u hf]; simp only [ByteArray.size_append, one1_size]; omega
  · cases u
    · rw [encFB_18u0 b c d e g l m hf, ← iform_18u0 b c d e g l m hf]; simp only [ByteArray.size_append, one1_size]; omega
    · rw [encFB_18u1 b c d e g l m hf, ← iform_18u1 b c d e g l m hf]; simp only [ByteArray.size_append, one1_size]; omega
  · rw [encFB_20 b c d e g l m u hf, ← iform_20 b c d e g l m u hf]; simp only [ByteArray.size_append, one1_size]; omega
  · rw [encFB_21 b c d e g l m u hf, ← iform_21 b c d e g l m u hf]; simp only [ByteArray.size_append, one1_size]; omega
  · cases u
    · rw [encFB_22u0 b c d e g l m hf, ← iform_22u0 b c d e g l m hf]; simp only [ByteArray.size_append, one1_size]; omega
    · rw [encFB_22u1 b c d e g l m hf, ← iform_22u1 b c d e g l m hf]; simp only [ByteArray.size_append, one1_size]; omega
  · rw [isFB_no h] at hf; cases hf
theorem encFB_size (a : Int) (b c : Int) (d : ByteArray) (e : Bool) (g l m : Int) (u : Bool) : (encFB a b c d e g l m u).size ≤ 32 + d.size := by
  have hL := encL_size
  unfold encFB
  repeat' split
  all_goals (try rw [ByteArray.size_append])
  all_goals first | (refine Nat.le_trans (Nat.add_le_add_right (hL _) _) ?_; simp) | (refine Nat.le_trans (hL _) ?_; simp; omega) | exact Nat.zero_le _ | (refine Nat.le_trans (hL _) ?_; simp)
def encOf (f : Fr) : ByteArray := encFB f.a f.b f.c f.d f.e f.g f.l f.m f.u
def okF (f : Fr) : Bool := isFB f.a f.b f.c f.d f.e f.g f.l f.m f.u
theorem encOf_pos {f : Fr} (h : okF f = true) : 1 ≤ (encOf f).size := encFB_pos _ _ _ _ _ _ _ _ _ h
theorem encOf_size (f : Fr) : (encOf f).size ≤ 32 + f.d.size := encFB_size _ _ _ _ _ _ _ _ _
theorem encOf_out {f : Fr} (h : okF f = false) : encOf f = ⟨#[]⟩ := by
  show encFB f.a f.b f.c f.d f.e f.g f.l f.m f.u = _
  unfold encFB
  rw [show isFB f.a f.b f.c f.d f.e f.g f.l f.m f.u = false from h]; rfl
def jF (l : List Fr) (k : Nat) : ByteArray := (l.take k).foldl (fun s x => s ++ encOf x) ⟨#[]⟩
theorem jF_zero (l : List Fr) : jF l 0 = ⟨#[]⟩ := by simp [jF]
theorem jF_succ (l : List Fr) (k : Nat) (h : k < l.length) : jF l (k + 1) = jF l k ++ encOf (l.getD k fr0) := by
  unfold jF
  rw [List.take_succ_eq_append_getElem h, List.foldl_append]
  simp [List.getD_eq_getElem?_getD, List.getElem?_eq_getElem h]
theorem jF_mono (l : List Fr) {i j : Nat} (h : i ≤ j) (hj : j ≤ l.length) : (jF l i).size ≤ (jF l j).size := by
  obtain ⟨d, rfl⟩ := Nat.le.dest h
  clear h
  induction d with
  | zero => exact Nat.le_refl _
  | succ d ih =>
    have := ih (by omega)
    rw [← Nat.add_assoc, jF_succ l (i + d) (by omega), ByteArray.size_append]
    omega
/-- What EncodePayload says of a row of frames. -/
def epB (l : List Fr) : ByteArray := if l.all okF then (if (jF l l.length).size ≤ 400 then jF l l.length else ⟨#[]⟩) else ⟨#[]⟩
theorem epB_out {l : List Fr} {k : Nat} {f : Fr} (hk : k < l.length) (hx : l.getD k fr0 = f) (hq : okF f = false) : epB l = ⟨#[]⟩ := by
  have : l.all okF = false := by
    rw [Bool.eq_false_iff]
    intro h
    rw [List.all_eq_true] at h
    have := h (l.getD k fr0) (by rw [List.getD_eq_getElem?_getD, List.getElem?_eq_getElem hk]; exact List.getElem_mem hk)
    rw [hx, hq] at this
    cases this
  simp [epB, this]
theorem epB_long {l : List Fr} {k : Nat} (hk : k ≤ l.length) (h : 400 < (jF l k).size) : epB l = ⟨#[]⟩ := by
  unfold epB
  split
  · rw [if_neg]
    have := jF_mono l hk (Nat.le_refl _)
    omega
  · rfl
theorem epB_in {l : List Fr} {n : Nat} (hl : l.length = n) (h : ∀ j, j < n → okF (l.getD j fr0) = true) (hs : (jF l n).size ≤ 400) : epB l = jF l n := by
  have : l.all okF = true := by
    rw [List.all_eq_true]
    intro x hx
    obtain ⟨i, hi, rfl⟩ := List.getElem_of_mem hx
    have := h i (by omega)
    rwa [List.getD_eq_getElem?_getD, List.getElem?_eq_getElem hi] at this
  subst hl
  simp [epB, this, hs]
theorem jF_size (l : List Fr) (k : Nat) (h : k ≤ l.length) (hd : ∀ j, j < l.length → (l.getD j fr0).d.size ≤ 1048576) : (jF l k).size ≤ 1048608 * k := by
  induction k with
  | zero => rw [jF_zero]; exact Nat.le_refl _
  | succ k ih =>
    rw [jF_succ l k (by omega), ByteArray.size_append]
    have := ih (by omega)
    have := encOf_size (l.getD k fr0)
    have := hd k (by omega)
    omega
end Go.Proofs.Ytadoiehgobcjcaa

namespace Go.Proofs.Ytadoiehgobcjcaa
open Go.ChangeShapes Go.WideShapes Go.ChangeAt Go.RowKit Go.Sort QM
set_option linter.unusedVariables false
set_option linter.unusedSimpArgs false
/-- A frame of short data. -/
def FrOut (v : Value) : Prop := ∃ f : Fr, f.d.size ≤ 6 ∧ v = .agg #[.int .i64 f.a, .int .i64 f.b, .int .i64 f.c, .string f.d, .bool f.e, .int .i64 f.g, .int .i64 f.l, .int .i64 f.m, .bool f.u]
set_option maxRecDepth 20000 in
set_option maxHeartbeats 2000000 in
theorem drawEncodeFrame {A : Option Addr} {c n : Nat} {w : World} {l : List Int} (hr : Rd w w.heap.size A (bys l)) (hm : n ≤ 1048576) (HL : Hid (l.length = n)) :
    Calls Try.prog 24 #[.slice A n c] w (Drawn w FrOut) := by
  have al := (Below.refl w.heap.size w).alloc (Nat.le_refl _) (.cells #[.int .i64 0, .int .i64 0, .int .i64 0, .string ⟨#[]⟩, .bool false, .int .i64 0, .int .i64 0, .int .i64 0, .bool false] 40)
  have k0 : Bk (w.alloc (.cells #[.int .i64 0, .int .i64 0, .int .i64 0, .string ⟨#[]⟩, .bool false, .int .i64 0, .int .i64 0, .int .i64 0, .bool false] 40)) w.heap.size 40 #[.int .i64 0, .int .i64 0, .int .i64 0, .string ⟨#[]⟩, .bool false, .int .i64 0, .int .i64 0, .int .i64 0, .bool false] := heap_alloc_new w _
  have hr0 := (hr.below al (Nat.le_refl _)).more al.size
  go_enter Try.func24, Try.ntmps24
  go_wp2_with fail
  generalize w.alloc (.cells #[.int .i64 0, .int .i64 0, .int .i64 0, .string ⟨#[]⟩, .bool false, .int .i64 0, .int .i64 0, .int .i64 0, .bool false] 40) = w0 at k0 al hr0 ⊢
  refine (l1New_any hr0 hm HL).mono ?_
  rintro e w1 ⟨g, rfl, hc1, hb1, hg⟩
  have h0l := k0.lt
  replace k0 := k0.below hb1 k0.lt
  replace al := below_next al al.size hb1
  go_wp2_with fail
  refine (l4Any_any hc1).mono ?_
  rintro e w2 ⟨⟨f, hf, rfl⟩, hc2, hg2⟩
  replace k0 := k0.grown hg2 (fun e => by injection e; omega)
  replace al := below_only al hg2 al.size (fun k hk => by injection hk; omega)
  clear hb1 hg2 hc1 hc2 hr0
  have ⟨cf, c0, c1, c2, c3, c4, c5, c6, c7, c8⟩ := own9 k0
  go_wp2
  exact bodyPost_ret (results_frame1 rfl _ _ w.heap.size #[.int .i64 f.a, .int .i64 f.b, .int .i64 f.c, .string f.d, .bool f.e, .int .i64 f.g, .int .i64 f.l, .int .i64 f.m, .bool f.u] rfl (k0.set9 (.int .i64 f.a) (.int .i64 f.b) (.int .i64 f.c) (.string f.d) (.bool f.e) (.int .i64 f.g) (.int .i64 f.l) (.int .i64 f.m) (.bool f.u)) rfl) rfl ⟨_, rfl, ⟨f, hf, rfl⟩, below_set9 al (Nat.le_refl _) (.int .i64 f.a) (.int .i64 f.b) (.int .i64 f.c) (.string f.d) (.bool f.e) (.int .i64 f.g) (.int .i64 f.l) (.int .i64 f.m) (.bool f.u)⟩
theorem drawKindName {A : Option Addr} {c n : Nat} {w : World} {l : List Int} (hr : Rd w w.heap.size A (bys l)) (hm : n ≤ 1048576) (HL : Hid (l.length = n)) :
    Calls Try.prog 33 #[.slice A n c] w (Drawn w fun v => ∃ x : Int, v = .int .i64 x) := by
  go_enter Try.func33, Try.ntmps33
  go_wp2_with fail
  refine (l1New_any hr hm HL).mono ?_
  rintro e w1 ⟨g, rfl, hc1, hb1, hg⟩
  go_wp2_with fail
  refine (l1Below_any 26 (by decide) (by decide) hc1).mono ?_
  rintro e w2 ⟨⟨x, ⟨hx0, hx1⟩, rfl⟩, hc2, hg2⟩
  replace hb1 := below_only hb1 hg2 hb1.size (fun k hk => by injection hk; omega)
  go_wp2
  go_ret
  exact ⟨_, rfl, ⟨_, rfl⟩, hb1⟩
/-- A text and a place. -/
def TextPl (v : Value) : Prop := ∃ (s : ByteArray) (x : Int), v = .tuple #[.string s, .int .i64 x] ∧ s.size ≤ 300 ∧ -1 ≤ x ∧ x ≤ 3
def heads : List ByteArray := [⟨#[8]⟩, ⟨#[9]⟩, ⟨#[12]⟩, ⟨#[13]⟩, ⟨#[14]⟩]
theorem heads_size : ∀ u ∈ heads, u.size = 1 := by decide
set_option maxRecDepth 20000 in
set_option maxHeartbeats 4000000 in
theorem drawDecodeFrame {A : Option Addr} {c n : Nat} {w : World} {l : List Int} (hr : Rd w w.heap.size A (bys l)) (hm : n ≤ 1048576) (HL : Hid (l.length = n)) :
    Calls Try.prog 31 #[.slice A n c] w (Drawn w TextPl) := by
  go_enter Try.func31, Try.ntmps31
  go_wp2_with fail
  refine (l1New_any hr hm HL).mono ?_
  rintro e w1 ⟨g, rfl, hc, hb, hg⟩
  clear hr
  go_wp2_with fail
  refine (l1Below_any 4 (by decide) (by decide) hc).mono ?_
  rintro e w2 ⟨⟨z, ⟨hz0, hz1⟩, rfl⟩, hc2, hg2⟩
  replace hb := below_only hb hg2 hb.size (fun k hk => by injection hk; omega)
  clear hc hg2
  rcases (show z = 0 ∨ z = 1 ∨ z = 2 ∨ z = 3 by omega) with rfl | rfl | rfl | rfl
  · go_wp2_with fail
    refine (l2Bytes_any 9 (by decide) hc2).mono ?_
    rintro e w3 ⟨⟨s, hs, rfl⟩, hc3, hg3⟩
    replace hb := below_only hb hg3 hb.size (fun k hk => by injection hk; omega)
    clear hc2 hg3
    go_wp2_with fail
    refine (l1Below_any 3 (by decide) (by decide) hc3).mono ?_
    rintro e w4 ⟨⟨x, ⟨hx0, hx1⟩, rfl⟩, hc4, hg4⟩
    replace hb := below_only hb hg4 hb.size (fun k hk => by injection hk; omega)
    go_wp2
    go_ret2
    exact ⟨_, rfl, ⟨s, _, rfl, by omega, by omega, by omega⟩, hb⟩
  · go_wp2_with fail
    refine (l4Any_any hc2).mono ?_
    rintro e w3 ⟨⟨f, hf, rfl⟩, hc3, hg3⟩
    replace hb := below_only hb hg3 hb.size (fun k hk => by injection hk; omega)
    clear hc2 hg3
    go_wp2_with fail
    refine (sEncF f.a f.b f.c f.d f.e f.g f.l f.m f.u (by omega) _).mono ?_
    rintro e w4 ⟨rfl, hb4⟩
    have hc4 := cur_step hc3 hb4
    replace hb := below_next hb hb.size hb4
    have hz := encFB_size f.a f.b f.c f.d f.e f.g f.l f.m f.u
    generalize encFB f.a f.b f.c f.d f.e f.g f.l f.m f.u = s at hz ⊢
    clear hc3 hb4
    go_wp2_with fail
    refine (l1Spoil_any s (by omega) hc4).mono ?_
    rintro e w5 ⟨⟨t, ht, rfl⟩, hc5, hg5⟩
    replace hb := below_only hb hg5 hb.size (fun k hk => by injection hk; omega)
    go_wp2
    go_ret2
    exact ⟨_, rfl, ⟨t, _, rfl, by omega, by omega, by omega⟩, hb⟩
  · go_wp2_with fail
    have al := (Below.refl w2.heap.size w2).alloc (Nat.le_refl _) (.cells (strs heads).toArray 9)
    have hr := lit_rd w2 9 (strs heads)
    refine (l1Pick_any hr (fun b o e => by simp at e; have := hc2.lt; omega) rfl (by decide) (by decide) (hc2.below al hc2.lt)).mono ?_
    rintro e w3 ⟨⟨u, hu, rfl⟩, hc3, hg3⟩
    have hu1 := heads_size u hu
    replace hb := below_only (below_next hb hb.size al) hg3 (by have := hb.size; have := al.size; omega) (fun k hk => by injection hk; omega)
    clear al hr hu hg3 hc2
    go_wp2_with fail
    refine (l1Below_any 8 (by decide) (by decide) hc3).mono ?_
    rintro e w4 ⟨⟨x, hx, rfl⟩, hc4, hg4⟩
    replace hb := below_only hb hg4 hb.size (fun k hk => by injection hk; omega)
    clear hx hg4 hc3
    go_wp2_with fail
    refine (l1Below_any 9 (by decide) (by decide) hc4).mono ?_
    rintro e w5 ⟨⟨y, hy, rfl⟩, hc5, hg5⟩
    replace hb := below_only hb hg5 hb.size (fun k hk => by injection hk; omega)
    clear hy hg5 hc4
    go_wp2_with fail
    have al := (Below.refl w5.heap.size w5).alloc (Nat.le_refl _) (.cells (ints [x, y]).toArray 3)
    refine (sEncs (Nat.le_refl _) (rd_new w5 [x, y]) (by show 2 ≤ 1048576; decide) (Lib.hid rfl)).mono ?_
    rintro e w6 ⟨rfl, hb6⟩
    have hc6 := cur_step (cur_step hc5 al) hb6
    replace hb := below_next (below_next hb hb.size al) (below_next hb hb.size al).size hb6
    clear al hb6 hc5
    have hz : (encL [x, y]).size ≤ 16 := encL_sz [x, y]
    generalize encL [x, y] = s at hz ⊢
    go_wp2_with fail
    refine (l4Data_any 5 (by decide) hc6).mono ?_
    rintro e w7 ⟨⟨d, hd, rfl⟩, hc7, hg7⟩
    replace hb := below_only hb hg7 hb.size (fun k hk => by injection hk; omega)
    go_wp2
    go_ret2
    exact ⟨_, rfl, ⟨_, _, rfl, by simp only [ByteArray.size_append]; omega, by omega, by omega⟩, hb⟩
  · go_wp2_with fail
    refine (l4Any_any hc2).mono ?_
    rintro e w3 ⟨⟨f, hf, rfl⟩, hc3, hg3⟩
    replace hb := below_only hb hg3 hb.size (fun k hk => by injection hk; omega)
    clear hc2 hg3
    go_wp2_with fail
    refine (sEncF f.a f.b f.c f.d f.e f.g f.l f.m f.u (by omega) _).mono ?_
    rintro e w4 ⟨rfl, hb4⟩
    replace hb := below_next hb hb.size hb4
    have hz := encFB_size f.a f.b f.c f.d f.e f.g f.l f.m f.u
    generalize encFB f.a f.b f.c f.d f.e f.g f.l f.m f.u = s at hz ⊢
    clear hc3 hb4
    go_wp2
    go_ret2
    exact ⟨_, rfl, ⟨s, _, rfl, by omega, by omega, by omega⟩, hb⟩
end Go.Proofs.Ytadoiehgobcjcaa

namespace Go.Proofs.Ytadoiehgobcjcaa
open Go.ChangeShapes Go.WideShapes Go.ChangeAt Go.RowKit Go.Sort QM
set_option linter.unusedVariables false
set_option linter.unusedSimpArgs false
set_option maxHeartbeats 2000000 in
theorem sEP {A : Option Addr} {c n : Nat} {w : World} {B : Nat} {l : List Fr} (hB : B ≤ w.heap.size) (hr : Rd w B A (encF9 l)) (hm : n ≤ 1048576) (HL : Hid (l.length = n)) (HD : Hid (∀ j, j < n → (l.getD j fr0).d.size ≤ 1048576)) :
    Calls Try.prog 41 #[.slice A n c] w fun e w' => e = .returned (.string (epB l)) ∧ Below w.heap.size w w' := by
  go_enter Try.func41, Try.ntmps41
  go_wp2
  go_loopw [3, 4] (fun s i wr => ∃ k : Nat, k ≤ n ∧ i = .int .i64 k ∧ s = .string (jF l k) ∧ (∀ j, j < k → okF (l.getD j fr0) = true) ∧ Below w.heap.size w wr) (fun s i _ => n - (intOf i).toNat)
  case atStart => exact ⟨0, Nat.zero_le _, rfl, by rw [jF_zero], fun j hj => by omega, Below.refl _ _⟩
  case round =>
    obtain ⟨k, hk, rfl, rfl, he, hbw⟩ := hrel
    have HE := Lib.hid he; clear he
    have hz := jF_size l k (by rw [HL.out]; omega) (by rw [HL.out]; exact HD.out)
    by_cases hlt : k < n
    · obtain ⟨b, off, f, rfl, hb, HX, c0, c1, c2, c3, c4, c5, c6, c7, c8⟩ := (hr.below hbw hB).frm (k := k) (by rw [HL.out]; exact hlt)
      have hd := HD.out k hlt
      rw [HX.out] at hd
      have hz1 := encOf_size f
      have hsu := jF_succ l k (by rw [HL.out]; exact hlt)
      rw [HX.out] at hsu
      have HSU := Lib.hid hsu; clear hsu
      have hc := sEncF f.a f.b f.c f.d f.e f.g f.l f.m f.u hd wr
      rw [show encFB f.a f.b f.c f.d f.e f.g f.l f.m f.u = encOf f from rfl] at hc
      cases hq : okF f
      · have hs0 : (encOf f).toList.isEmpty = true := by rw [encOf_out hq]; decide +kernel
        go_wp2_with fail
        refine hc.mono ?_
        rintro e w1 ⟨rfl, hb1⟩
        replace hb1 := below_next hbw hbw.size hb1
        clear c0 c1 c2 c3 c4 c5 c6 c7 c8
        go_wp2
        go_ret
        exact ⟨ret_str (epB_out (by rw [HL.out]; exact hlt) HX.out hq).symm, hb1⟩
      · have hs0 : (encOf f).toList.isEmpty = false := by rw [isEmpty_size, decide_eq_false_iff_not]; have := encOf_pos hq; omega
        have HE2 := Lib.hid (show ∀ j, j < k + 1 → okF (l.getD j fr0) = true from fun j hj => by
          by_cases hj' : j < k
          · exact HE.out j hj'
          · obtain rfl : j = k := by omega
            rw [HX.out]; exact hq)
        go_wp2_with fail
        refine hc.mono ?_
        rintro e w1 ⟨rfl, hb1⟩
        replace hb1 := below_next hbw hbw.size hb1
        clear c0 c1 c2 c3 c4 c5 c6 c7 c8 hc
        generalize encOf f = Y at hz1 hs0 HSU ⊢
        go_wp2
        go_roundw
        case rel => exact ⟨k + 1, by omega, by go_num, by rw [HSU.out], HE2.out, hb1⟩
        case measure => simp [intOf]; omega
    · obtain rfl : k = n := by omega
      have hin := fun h => epB_in HL.out HE.out h
      have hout := fun h => epB_long (l := l) (k := k) (by rw [HL.out]; omega) h
      have HI := Lib.hid hin; have HO := Lib.hid hout; clear hin hout
      generalize jF l k = X at HI HO hz ⊢
      by_cases hs : 400 < X.size
      · have hs1 : decide ((400 : Int) < (X.size : Int)) = true := by simp; omega
        go_wp2
        go_ret
        exact ⟨ret_str (HO.out hs).symm, hbw⟩
      · have hs1 : decide ((400 : Int) < (X.size : Int)) = false := by simp; omega
        go_wp2
        go_ret
        exact ⟨ret_str (HI.out (by omega)).symm, hbw⟩
set_option maxHeartbeats 2000000 in
theorem iEP {A : Option Addr} {c n : Nat} {w : World} {B : Nat} {l : List Fr} (hB : B ≤ w.heap.size) (hr : Rd w B A (encF9 l)) (hm : n ≤ 1048576) (HL : Hid (l.length = n)) (HD : Hid (∀ j, j < n → (l.getD j fr0).d.size ≤ 1048576)) :
    Calls Try.prog 39 #[.slice A n c] w fun e w' => e = .returned (.string (epB l)) ∧ Below w.heap.size w w' := by
  go_enter Try.func39, Try.ntmps39
  go_wp2
  go_loopw [3, 8] (fun s i wr => ∃ k : Nat, k ≤ n ∧ i = .int .i64 k ∧ s = .string (jF l k) ∧ (∀ j, j < k → okF (l.getD j fr0) = true) ∧ (jF l k).size ≤ 400 ∧ Below w.heap.size w wr) (fun s i _ => n - (intOf i).toNat)
  case atStart => exact ⟨0, Nat.zero_le _, rfl, by rw [jF_zero], fun j hj => by omega, by rw [jF_zero]; exact Nat.zero_le _, Below.refl _ _⟩
  case round =>
    obtain ⟨k, hk, rfl, rfl, he, hz, hbw⟩ := hrel
    have HE := Lib.hid he; clear he
    by_cases hlt : k < n
    · obtain ⟨b, off, f, rfl, hb, HX, c0, c1, c2, c3, c4, c5, c6, c7, c8⟩ := (hr.below hbw hB).frm (k := k) (by rw [HL.out]; exact hlt)
      have hd := HD.out k hlt
      rw [HX.out] at hd
      have hz1 := encOf_size f
      have hsu := jF_succ l k (by rw [HL.out]; exact hlt)
      rw [HX.out] at hsu
      have HSU := Lib.hid hsu; clear hsu
      have hc := fun W => iEncF f.a f.b f.c f.d f.e f.g f.l f.m f.u hd W
      rw [show encFB f.a f.b f.c f.d f.e f.g f.l f.m f.u = encOf f from rfl] at hc
      have hci := fun W => iIs f.a f.b f.c f.d f.e f.g f.l f.m f.u hd W
      rw [show isFB f.a f.b f.c f.d f.e f.g f.l f.m f.u = okF f from rfl] at hci
      have hbw0 := hbw.alloc hbw.size (.cells #[.int .i64 f.a, .int .i64 f.b, .int .i64 f.c, .string f.d, .bool f.e, .int .i64 f.g, .int .i64 f.l, .int .i64 f.m, .bool f.u] 40)
      have hk0 : Bk (wr.alloc (.cells #[.int .i64 f.a, .int .i64 f.b, .int .i64 f.c, .string f.d, .bool f.e, .int .i64 f.g, .int .i64 f.l, .int .i64 f.m, .bool f.u] 40)) wr.heap.size 40 #[.int .i64 f.a, .int .i64 f.b, .int .i64 f.c, .string f.d, .bool f.e, .int .i64 f.g, .int .i64 f.l, .int .i64 f.m, .bool f.u] := heap_alloc_new wr _
      cases hq : okF f
      · rw [hq] at hci
        go_wp2_with fail
        refine (hci _).mono ?_
        rintro e w1 ⟨rfl, hb1⟩
        replace hb1 := below_next hbw0 hbw0.size hb1
        clear c0 c1 c2 c3 c4 c5 c6 c7 c8 hk0 hbw0
        go_wp2
        go_ret
        exact ⟨ret_str (epB_out (by rw [HL.out]; exact hlt) HX.out hq).symm, hb1⟩
      · rw [hq] at hci
        have HE2 := Lib.hid (show ∀ j, j < k + 1 → okF (l.getD j fr0) = true from fun j hj => by
          by_cases hj' : j < k
          · exact HE.out j hj'
          · obtain rfl : j = k := by omega
            rw [HX.out]; exact hq)
        have HO := Lib.hid (fun h => epB_long (l := l) (k := k + 1) (by rw [HL.out]; omega) h)
        rw [HSU.out] at HO
        go_wp2_with fail
        refine (hci _).mono ?_
        rintro e w1 ⟨rfl, hb1⟩
        obtain ⟨k0, k1, k2, k3, k4, k5, k6, k7, k8⟩ := (hk0.below hb1 hk0.lt).nine
        replace hb1 := below_next hbw0 hbw0.size hb1
        clear c0 c1 c2 c3 c4 c5 c6 c7 c8 hk0 hbw0 hci
        go_wp2_with fail
        refine (hc _).mono ?_
        rintro e w2 ⟨rfl, hb2⟩
        replace hb2 := below_next hb1 hb1.size hb2
        clear k0 k1 k2 k3 k4 k5 k6 k7 k8 hc hb1 hbw
        generalize encOf f = Y at hz1 HSU HO ⊢
        generalize hX : jF l k = X at hz HSU HO ⊢
        have hsz : (X ++ Y).size = X.size + Y.size := ByteArray.size_append
        obtain ⟨Z, hZ⟩ : ∃ Z, X ++ Y = Z := ⟨_, rfl⟩
        by_cases hs : 400 < Z.size
        · have hs1 : decide ((400 : Int) < (Z.size : Int)) = true := by simp; omega
          have hs2 : decide ((400 : Int) < ((X ++ Y).size : Int)) = true := by rw [hZ]; exact hs1
          go_wp2
          go_ret
          exact ⟨ret_str (HO.out (by rw [hZ]; exact hs)).symm, hb2⟩
        · have hs1 : decide ((400 : Int) < (Z.size : Int)) = false := by simp; omega
          have hs2 : decide ((400 : Int) < ((X ++ Y).size : Int)) = false := by rw [hZ]; exact hs1
          go_wp2
          go_roundw
          case rel => exact ⟨k + 1, by omega, by go_num, by rw [HSU.out]; first | done | rfl | (rw [hZ]), HE2.out, by rw [HSU.out, hZ]; omega, hb2⟩
          case measure => simp [intOf]; omega
    · go_wp2
      go_ret
      obtain rfl : k = n := by omega
      exact ⟨ret_str (epB_in HL.out HE.out hz).symm, hbw⟩
end Go.Proofs.Ytadoiehgobcjcaa
