/- What the laws draw from a code: one range. No conditions. -/
import Derived.Test.YtaackmiodkpnoaaDoorDq1
namespace Go.Proofs.YtaackmiodkpnoaaDoor
open Go.ChangeShapes Go.WideShapes Go.ChangeAt Go.RowKit Go.Sort RM
set_option linter.unusedVariables false
set_option linter.unusedSimpArgs false
theorem grown_set {a w : World} {row : Option Nat} {g i : Nat} (h : a.grownBy w row) (hg : a.heap.size ≤ g) (u : Value) : a.grownBy (w.setCell ⟨g, i, none⟩ u) row :=
  ⟨h.os, h.tape, h.output, by simpa [World.setCell] using h.size, fun k hk hne => (Below.heap_setCell w ⟨g, i, none⟩ u k (by show k ≠ g; omega)).trans (h.block k hk hne)⟩
theorem grown_below {a w w' : World} {row : Option Nat} (h : a.grownBy w row) (hb : Below w.heap.size w w') : a.grownBy w' row :=
  ⟨hb.os.trans h.os, hb.tape.trans h.tape, hb.output.trans h.output, Nat.le_trans h.size hb.size, fun k hk hne => (hb.block k (Nat.lt_of_lt_of_le hk h.size)).trans (h.block k hk hne)⟩
theorem Bk.setOther {w : World} {g g' i : Nat} {T : TypeId} {cs : Array Value} (h : Bk w g T cs) (hne : g ≠ g') (u : Value) : Bk (w.setCell ⟨g', i, none⟩ u) g T cs :=
  (Below.heap_setCell w ⟨g', i, none⟩ u g hne).trans h
theorem Cur.setOther {w : World} {g g' i : Nat} (h : Cur w g) (hg : g < g') (u : Value) : Cur (w.setCell ⟨g', i, none⟩ u) g :=
  h.below (B := g + 1) ((Below.refl _ _).setCell (p := ⟨g', i, none⟩) hg u) (Nat.lt_succ_self g)
set_option maxRecDepth 20000 in
set_option maxHeartbeats 4000000 in
theorem l3Range_any {w : World} {g : Nat} (hc : Cur w g) : Calls Tryd.prog 34 #[.pointer (some ⟨g, 0, none⟩)] w (DrawRg w g) := by
  have al := (Below.refl w.heap.size w).alloc (Nat.le_refl _) (.cells #[.int .i64 0, .int .i64 0] 32)
  have k0 : Bk (w.alloc (.cells #[.int .i64 0, .int .i64 0] 32)) w.heap.size 32 #[.int .i64 0, .int .i64 0] := heap_alloc_new w _
  have hg0 := gb_of_below al (some g)
  have hc0 := hc.below al hc.lt
  have hgl := hc.lt
  go_enter Tryd.func34, Tryd.ntmps34
  go_wp2_with fail
  generalize w.alloc (.cells #[.int .i64 0, .int .i64 0] 32) = w0 at k0 hg0 hc0 ⊢
  clear al hc
  refine (l1Below_any 20 (by decide) (by decide) hc0).mono ?_
  rintro e w1 ⟨⟨a, ⟨ha0, ha1⟩, rfl⟩, hc1, hg1⟩
  replace k0 := k0.grown hg1 (fun e => by injection e; omega)
  replace hg0 := grown_trans hg0 hg1
  clear hc0 hg1
  go_wp2_with fail
  refine (l1Below_any 6 (by decide) (by decide) hc1).mono ?_
  rintro e w2 ⟨⟨b, ⟨hb0, hb1⟩, rfl⟩, hc2, hg2⟩
  replace k0 := k0.grown hg2 (fun e => by injection e; omega)
  replace hg0 := grown_trans hg0 hg2
  clear hc1 hg2
  go_wp2_with fail
  have al := (Below.refl w2.heap.size w2).alloc (Nat.le_refl _) (.cells #[.int .i64 a, .int .i64 (a + 1 + b)] 32)
  have kr : Bk (w2.alloc (.cells #[.int .i64 a, .int .i64 (a + 1 + b)] 32)) w2.heap.size 32 #[.int .i64 a, .int .i64 (a + 1 + b)] := heap_alloc_new w2 _
  have hl0 := k0.lt
  replace k0 := k0.below al k0.lt
  replace hg0 := grown_below hg0 al
  replace hc2 := hc2.below al hc2.lt
  generalize w2.alloc (.cells #[.int .i64 a, .int .i64 (a + 1 + b)] 32) = W2 at k0 kr hg0 hc2 ⊢
  clear al
  generalize w2.heap.size = gr at kr hl0 ⊢
  have hsa : Sm a := ⟨by omega, by omega⟩
  have hsv : Sm (a + 1 + b) := ⟨by omega, by omega⟩
  generalize a + 1 + b = v at kr hsv ⊢
  refine (l1Below_any 16 (by decide) (by decide) hc2).mono ?_
  rintro e w3 ⟨⟨z, ⟨hz0, hz1⟩, rfl⟩, hc3, hg3⟩
  replace k0 := k0.grown hg3 (fun e => by injection e; omega)
  replace kr := kr.grown hg3 (fun e => by injection e; omega)
  replace hg0 := grown_trans hg0 hg3
  clear hc2 hg3
  have m1 : (w.heap.size = gr) = False := by simp; omega
  have m2 : (gr = w.heap.size) = False := by simp; omega
  by_cases z0 : z = 0
  · have hz : (z == 0) = true := by simp; omega
    go_wp2_with fail
    have al := (Below.refl w3.heap.size w3).alloc (Nat.le_refl _) (.cells (ints [-1, 0, 4611686018427387903, 4611686018427387904]).toArray 3)
    have hr := lit_rd w3 3 (ints [-1, 0, 4611686018427387903, 4611686018427387904])
    refine (l1PickInt_any (n := 4) hr (fun b o e => by simp at e; have := hc3.lt; omega) rfl (by decide) (by decide) (hc3.below al hc3.lt)).mono ?_
    rintro e w4 ⟨⟨u, hu, rfl⟩, hc4, hg4⟩
    have hg04 := hg0.size
    replace k0 := (k0.below al k0.lt).grown hg4 (fun e => by injection e; omega)
    replace kr := (kr.below al kr.lt).grown hg4 (fun e => by injection e; omega)
    replace hg0 := grown_trans (grown_below hg0 al) hg4
    have hsu : Sm u := by simp at hu; exact ⟨by omega, by omega⟩
    clear hr hg4 al hu
    have c0 := k0.cell 0
    have c1 := k0.cell 1
    have cf := k0.frozen
    have d0 := kr.cell 0
    have d1 := kr.cell 1
    have df := kr.frozen
    go_wp2
    refine bodyPost_ret (results_rng1 rfl _ _ w.heap.size #[.int .i64 a, .int .i64 u] rfl (((k0.setOther (by omega) (.int .i64 u)).set_ 0 (.int .i64 a)).set_ 1 (.int .i64 u)) rfl) rfl ?_
    exact ⟨⟨_, _, ⟨hsa, hsu⟩, rfl⟩, (((hc4.setOther (by omega) (.int .i64 u)).setOther (by omega) (.int .i64 a)).setOther (by omega) (.int .i64 u)), (grown_set (grown_set (grown_set hg0 (by omega) (.int .i64 u)) (Nat.le_refl _) (.int .i64 a)) (Nat.le_refl _) (.int .i64 u))⟩
  · have hz : (z == 0) = false := by simp; omega
    by_cases z1 : z = 1
    · have hz2 : (z == 1) = true := by simp; omega
      go_wp2_with fail
      have al := (Below.refl w3.heap.size w3).alloc (Nat.le_refl _) (.cells (ints [-1, 4611686018427387902]).toArray 3)
      have hr := lit_rd w3 3 (ints [-1, 4611686018427387902])
      refine (l1PickInt_any (n := 2) hr (fun b o e => by simp at e; have := hc3.lt; omega) rfl (by decide) (by decide) (hc3.below al hc3.lt)).mono ?_
      rintro e w4 ⟨⟨u, hu, rfl⟩, hc4, hg4⟩
      have hg04 := hg0.size
      replace k0 := (k0.below al k0.lt).grown hg4 (fun e => by injection e; omega)
      replace kr := (kr.below al kr.lt).grown hg4 (fun e => by injection e; omega)
      replace hg0 := grown_trans (grown_below hg0 al) hg4
      have hsu : Sm u := by simp at hu; exact ⟨by omega, by omega⟩
      clear hr hg4 al hu
      have c0 := k0.cell 0
      have c1 := k0.cell 1
      have cf := k0.frozen
      have d0 := kr.cell 0
      have d1 := kr.cell 1
      have df := kr.frozen
      go_wp2
      refine bodyPost_ret (results_rng1 rfl _ _ w.heap.size #[.int .i64 u, .int .i64 v] rfl (((k0.setOther (by omega) (.int .i64 u)).set_ 0 (.int .i64 u)).set_ 1 (.int .i64 v)) rfl) rfl ?_
      exact ⟨⟨_, _, ⟨hsu, hsv⟩, rfl⟩, (((hc4.setOther (by omega) (.int .i64 u)).setOther (by omega) (.int .i64 u)).setOther (by omega) (.int .i64 v)), (grown_set (grown_set (grown_set hg0 (by omega) (.int .i64 u)) (Nat.le_refl _) (.int .i64 u)) (Nat.le_refl _) (.int .i64 v))⟩
    · have hz2 : (z == 1) = false := by simp; omega
      have c0 := k0.cell 0
      have c1 := k0.cell 1
      have cf := k0.frozen
      have d0 := kr.cell 0
      have d1 := kr.cell 1
      have df := kr.frozen
      go_wp2
      refine bodyPost_ret (results_rng1 rfl _ _ w.heap.size #[.int .i64 a, .int .i64 v] rfl ((k0.set_ 0 (.int .i64 a)).set_ 1 (.int .i64 v)) rfl) rfl ?_
      exact ⟨⟨_, _, ⟨hsa, hsv⟩, rfl⟩, ((hc3.setOther (by omega) (.int .i64 a)).setOther (by omega) (.int .i64 v)), (grown_set (grown_set hg0 (Nat.le_refl _) (.int .i64 a)) (Nat.le_refl _) (.int .i64 v))⟩
end Go.Proofs.YtaackmiodkpnoaaDoor
