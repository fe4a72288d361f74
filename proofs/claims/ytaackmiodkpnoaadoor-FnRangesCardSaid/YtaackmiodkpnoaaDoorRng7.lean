/- Contracts of the functions that make and write a slice of ranges: toRangeS, markRangeS, heldRangeS. No conditions. -/
import Derived.Test.YtaackmiodkpnoaaDoorRng4
import Derived.Laws.MakeOwn
namespace Go.Proofs.YtaackmiodkpnoaaDoor
open Go.ChangeShapes Go.WideShapes Go.ChangeAt Go.RowKit Go.Sort RM
set_option linter.unusedVariables false
theorem info_rng : (Tryd.prog.info? 32).map (fun i => (i.zero, i.size, i.bytes)) = some (some (.agg #[.int .i64 0, .int .i64 0]), 2, 16) := by kernel_rfl
/-- One block, known whole, not frozen. -/
def Bk (w : World) (g : Nat) (T : TypeId) (cs : Array Value) : Prop := w.heap[g]? = some (.cells cs T (0, 0))
theorem Bk.cell {w : World} {g : Nat} {T : TypeId} {cs : Array Value} (h : Bk w g T cs) (i : Nat) : w.cell? ⟨g, i, none⟩ = cs[i]? := cell_of_row w g i cs T (0, 0) h
theorem Bk.frozen {w : World} {g : Nat} {T : TypeId} {cs : Array Value} (h : Bk w g T cs) (i : Nat) : w.frozen? ⟨g, i, none⟩ = false := by
  unfold Bk at h; simp [World.frozen?, h]
theorem Bk.lt {w : World} {g : Nat} {T : TypeId} {cs : Array Value} (h : Bk w g T cs) : g < w.heap.size := (Array.getElem?_eq_some_iff.1 h).1
theorem Bk.set_ {w : World} {g : Nat} {T : TypeId} {cs : Array Value} (h : Bk w g T cs) (i : Nat) (u : Value) : Bk (w.setCell ⟨g, i, none⟩ u) g T (cs.setIfInBounds i u) := by
  unfold Bk at h ⊢; simp [World.setCell, Array.getElem?_modify, h]
theorem Bk.below {w w' : World} {g B : Nat} {T : TypeId} {cs : Array Value} (h : Bk w g T cs) (hb : Below B w w') (hg : g < B) : Bk w' g T cs := (hb.block g hg).trans h
theorem Bk.grown {w w' : World} {g : Nat} {row : Option Nat} {T : TypeId} {cs : Array Value} (h : Bk w g T cs) (hb : w.grownBy w' row) (hg : some g ≠ row) : Bk w' g T cs := (hb.block g h.lt hg).trans h
/-- The first cells of a block are these. -/
def Hd (cs : Array Value) (k : Nat) (xs : List Value) : Prop := ∀ j, j < k → cs[j]? = xs[j]?
theorem Hd.set2 {cs : Array Value} {k : Nat} {xs : List Value} {u v : Value} (h : Hd cs k xs) (hs : k + 1 < cs.size) (hu : xs[k]? = some u) (hv : xs[k + 1]? = some v) :
    Hd ((cs.setIfInBounds k u).setIfInBounds (k + 1) v) (k + 2) xs := by
  intro j hj
  by_cases h1 : j = k + 1
  · subst h1; rw [hv]; simp [Array.getElem?_setIfInBounds]; omega
  · by_cases h2 : j = k
    · subst h2; rw [hu]; simp [Array.getElem?_setIfInBounds]; omega
    · have := h j (by omega)
      rw [← this]
      simp [Array.getElem?_setIfInBounds]
      rw [if_neg (by omega), if_neg (by omega)]
theorem Hd.own {w : World} {g base : Nat} {T : TypeId} {cs : Array Value} {n cap size : Nat} {xs : List Value} (hk : Bk w g T cs) (h : Hd cs (n * size) xs) (hx : xs.length = n * size) (hs : cs.size = cap * size) (hn : n ≤ cap) (hm : cap ≤ maxLen) (hb : base ≤ g) :
    w.ownsRow base T size (.slice (some ⟨g, 0, none⟩) n cap) n xs := by
  refine ⟨hx, .inr ⟨g, cap, cs, rfl, hb, hk, hn, hm, hs, ?_⟩⟩
  apply List.ext_getElem?
  intro j
  by_cases hj : j < n * size
  · rw [List.getElem?_take_of_lt hj]
    have := h j hj
    simpa using this
  · rw [List.getElem?_eq_none (by rw [List.length_take]; omega), List.getElem?_eq_none (by omega)]
theorem only_setCell {a w : World} {g : Nat} (h : a.grownBy w (some g)) (i : Nat) (u : Value) : a.grownBy (w.setCell ⟨g, i, none⟩ u) (some g) :=
  ⟨h.os, h.tape, h.output, by simpa [World.setCell] using h.size, fun k hk hne => (Below.heap_setCell w ⟨g, i, none⟩ u k (fun e => hne (by rw [e]))).trans (h.block k hk hne)⟩
theorem below_of_only {a w : World} {g B : Nat} (h : a.grownBy w (some g)) (hB : B ≤ a.heap.size) (hg : B ≤ g) : Below B a w :=
  ⟨h.os, h.tape, h.output, h.size, fun k hk => h.block k (by omega) (fun e => by injection e; omega)⟩
theorem toRangeS_any {A : Option Addr} {c n : Nat} {w : World} {B : Nat} {l : List R} (hB : B ≤ w.heap.size) (hr : Rd w B A (encR l)) (hm : n * 16 ≤ 140737488351232) (HL : Hid (l.length = n)) :
    Calls Tryd.prog 7 #[.slice A n c] w fun e w' => e = .returned (.slice (some ⟨w.heap.size, 0, none⟩) n n) ∧ Below w.heap.size w w' ∧ w'.ownsRow w.heap.size 32 2 (.slice (some ⟨w.heap.size, 0, none⟩) n n) n (encR l) := by
  obtain ⟨i0, hi, hz0, hz1, hz2⟩ := info_parts info_rng
  have hmk := fun W => run_make (P := Tryd.prog) W 25 32 i0 (.agg #[.int .i64 0, .int .i64 0]) Tryd.underlying25 hi hz0 .i64 .i64 (n : Int) (n : Int) (by omega) (by omega) (by rw [hz2]; omega) (by omega)
  simp only [Int.toNat_natCast, hz1] at hmk
  go_enter Tryd.func7, Tryd.ntmps7
  go_wp2
  have hb1 : Below w.heap.size w (w.alloc (.cells (madeCells #[.int .i64 0, .int .i64 0] (n * 2)) 32)) := (Below.refl _ _).alloc (Nat.le_refl _) _
  have hB1 : Bk (w.alloc (.cells (madeCells #[.int .i64 0, .int .i64 0] (n * 2)) 32)) w.heap.size 32 (madeCells #[.int .i64 0, .int .i64 0] (n * 2)) := heap_alloc_new w _
  generalize (w.alloc (.cells (madeCells #[.int .i64 0, .int .i64 0] (n * 2)) 32)) = w1 at hb1 hB1 ⊢
  have HB1 := Lib.hid hB1; clear hB1
  go_loopw [4] (fun i wr => ∃ (k : Nat) (cs : Array Value), k ≤ n ∧ i = .int .i64 k ∧ Bk wr w.heap.size 32 cs ∧ cs.size = n * 2 ∧ Hd cs (k * 2) (encR l) ∧ Below w.heap.size w wr) (fun i _ => n - (intOf i).toNat)
  case atStart => exact ⟨0, _, Nat.zero_le _, rfl, HB1.out, size_madeCells _ _, fun j hj => by omega, hb1⟩
  case round =>
    obtain ⟨k, cs, hk, rfl, hbk, hcs, hh, hbw⟩ := hrel
    have HBK := Lib.hid hbk; clear hbk
    have HCS := Lib.hid hcs; clear hcs
    have HH := Lib.hid hh; clear hh
    clear hb1 HB1 hmk
    by_cases hlt : k < n
    · obtain ⟨b, off, x, y, rfl, hb, HX, c0, c1⟩ := (hr.below hbw hB).rng (k := k) (by rw [HL.out]; exact hlt)
      have hlo := encR_lo l k (by rw [HL.out]; exact hlt)
      have hhi := encR_hi l k (by rw [HL.out]; exact hlt)
      rw [HX.out] at hlo hhi
      have HLO := Lib.hid hlo; clear hlo
      have HHI := Lib.hid hhi; clear hhi
      go_wp2_with fail
      refine (toRange_any x y _).mono ?_
      rintro e w2 ⟨rfl, hb2⟩
      have hbk2 := HBK.out.below hb2 HBK.out.lt
      have hg1 : k * 2 + 1 < cs.size := by rw [HCS.out]; omega
      have d0 : w2.cell? ⟨w.heap.size, k * 2, none⟩ = some (cs[k * 2]'(by omega)) := by rw [hbk2.cell, Array.getElem?_eq_getElem]
      have d1 : w2.cell? ⟨w.heap.size, k * 2 + 1, none⟩ = some (cs[k * 2 + 1]) := by rw [hbk2.cell, Array.getElem?_eq_getElem]
      have f0 := hbk2.frozen (k * 2)
      have f1 := hbk2.frozen (k * 2 + 1)
      generalize cs[k * 2]'(by omega) = o0 at d0
      generalize cs[k * 2 + 1] = o1 at d1
      have hbk3 := (hbk2.set_ (k * 2) (.int .i64 x)).set_ (k * 2 + 1) (.int .i64 y)
      have hb3 : Below w.heap.size w ((w2.setCell ⟨w.heap.size, k * 2, none⟩ (.int .i64 x)).setCell ⟨w.heap.size, k * 2 + 1, none⟩ (.int .i64 y)) := ((below_next hbw hbw.size hb2).setCell (p := ⟨w.heap.size, k * 2, none⟩) (Nat.le_refl _) _).setCell (p := ⟨w.heap.size, k * 2 + 1, none⟩) (Nat.le_refl _) _
      have HBK3 := Lib.hid hbk3; clear hbk3 hbk2
      clear c0 c1
      go_wp2
      go_roundw
      case rel => exact ⟨k + 1, _, by omega, by go_num, HBK3.out, by simp [HCS.out], by
        have := HH.out.set2 (u := .int .i64 x) (v := .int .i64 y) hg1 (by rw [Nat.mul_comm]; exact HLO.out) (by rw [Nat.mul_comm]; exact HHI.out)
        rw [Nat.add_mul]; exact this, hb3⟩
      case measure => simp [intOf]; omega
    · go_wp2
      go_ret
      obtain rfl : k = n := by omega
      refine ⟨rfl, hbw, Hd.own (cap := k) HBK.out HH.out (by rw [encR_len, HL.out, Nat.mul_comm]) (by rw [HCS.out]) (Nat.le_refl _) (by unfold maxLen; omega) (Nat.le_refl _)⟩
/-- The numbers that the marking writes. -/
def mk (k0 : Int) (n : Nat) : List R := (List.range n).map fun (i : Nat) => (k0 + 2 * (i : Int), k0 + 2 * (i : Int) + 1)
theorem mk_len (k0 : Int) (n : Nat) : (mk k0 n).length = n := by simp [mk]
theorem mk_get (k0 : Int) (n k : Nat) (h : k < n) : (mk k0 n).getD k (0, 0) = (k0 + 2 * (k : Int), k0 + 2 * (k : Int) + 1) := by simp [mk, h]
theorem grown_refl (w : World) (row : Option Nat) : w.grownBy w row := ⟨rfl, rfl, rfl, Nat.le_refl _, fun _ _ _ => rfl⟩
end Go.Proofs.YtaackmiodkpnoaaDoor
