/- InsertData of the program: its contract where nothing is put in. No conditions. -/
import Derived.Test.YtnndhkdigmkddaaJ4
import Derived.Test.YtnndhkdigmkddaaE14D
import Derived.Deep.Cut
import Derived.Deep.CutRange
namespace Go.Proofs.Ytnndhkdigmkddaa
open Go.ChangeShapes Go.WideShapes Go.ChangeAt Go.RowKit
set_option linter.unusedVariables false
set_option linter.unusedSimpArgs false
/-- The four boxes that InsertData opens with. -/
structure InvO (w wr : World) (bv : Value) (nx off : Int) (d : ByteArray) : Prop where
  kb : Bk wr w.heap.size 28 #[.int .i64 nx, bv]
  ko : Bk wr (w.heap.size + 1) 3 #[.int .i64 off]
  kd : Bk wr (w.heap.size + 2) 9 #[.string d]
  kr : Bk wr (w.heap.size + 3) 28 #[.int .i64 0, .slice none 0 0]
  bel : Below w.heap.size w wr
theorem InvO.below {w wr w1 : World} {bv : Value} {nx off : Int} {d : ByteArray} (h : InvO w wr bv nx off d) (hb : Below wr.heap.size wr w1) : InvO w w1 bv nx off d :=
  ⟨h.kb.below hb h.kb.lt, h.ko.below hb h.ko.lt, h.kd.below hb h.kd.lt, h.kr.below hb h.kr.lt, below_next h.bel h.bel.size hb⟩
theorem InvO.start (w : World) (bv : Value) (nx off : Int) (d : ByteArray) : InvO w ((((w.alloc (.cells #[.int .i64 nx, bv] 28)).alloc (.cells #[.int .i64 off] 3)).alloc (.cells #[.string d] 9)).alloc (.cells #[.int .i64 0, .slice none 0 0] 28)) bv nx off d := by
  have s1 : (w.alloc (.cells #[.int .i64 nx, bv] 28)).heap.size = w.heap.size + 1 := by simp
  have k1 : Bk (w.alloc (.cells #[.int .i64 nx, bv] 28)) w.heap.size 28 #[.int .i64 nx, bv] := heap_alloc_new w _
  have b1 : Below w.heap.size w (w.alloc (.cells #[.int .i64 nx, bv] 28)) := (Below.refl _ _).alloc (Nat.le_refl _) _
  generalize w.alloc (.cells #[.int .i64 nx, bv] 28) = w1 at s1 k1 b1 ⊢
  have s2 : (w1.alloc (.cells #[.int .i64 off] 3)).heap.size = w.heap.size + 2 := by simp [s1]
  have k2 : Bk (w1.alloc (.cells #[.int .i64 off] 3)) (w.heap.size + 1) 3 #[.int .i64 off] := by rw [← s1]; exact heap_alloc_new w1 _
  have b2 : Below w1.heap.size w1 (w1.alloc (.cells #[.int .i64 off] 3)) := (Below.refl _ _).alloc (Nat.le_refl _) _
  replace k1 := k1.below b2 k1.lt
  replace b1 := below_next b1 b1.size b2
  generalize w1.alloc (.cells #[.int .i64 off] 3) = w2 at s2 k1 k2 b1 ⊢
  have s3 : (w2.alloc (.cells #[.string d] 9)).heap.size = w.heap.size + 3 := by simp [s2]
  have k3 : Bk (w2.alloc (.cells #[.string d] 9)) (w.heap.size + 2) 9 #[.string d] := by rw [← s2]; exact heap_alloc_new w2 _
  have b3 : Below w2.heap.size w2 (w2.alloc (.cells #[.string d] 9)) := (Below.refl _ _).alloc (Nat.le_refl _) _
  replace k1 := k1.below b3 k1.lt
  replace k2 := k2.below b3 k2.lt
  replace b1 := below_next b1 b1.size b3
  generalize w2.alloc (.cells #[.string d] 9) = w3 at s3 k1 k2 k3 b1 ⊢
  have k4 : Bk (w3.alloc (.cells #[.int .i64 0, .slice none 0 0] 28)) (w.heap.size + 3) 28 #[.int .i64 0, .slice none 0 0] := by rw [← s3]; exact heap_alloc_new w3 _
  have b4 : Below w3.heap.size w3 (w3.alloc (.cells #[.int .i64 0, .slice none 0 0] 28)) := (Below.refl _ _).alloc (Nat.le_refl _) _
  exact ⟨k1.below b4 k1.lt, k2.below b4 k2.lt, k3.below b4 k3.lt, k4, below_next b1 b1.size b4⟩
set_option maxRecDepth 20000 in
set_option maxHeartbeats 4000000 in
theorem iInsNo {A : Option Addr} {c n : Nat} {w : World} {B : Nat} {l : List Ck} (nx off : Int) (d : ByteArray) (hds : d.size ≤ 1048576) (hnx : (Lit.int .i64 nx).wf = true) (ho1 : -9223372036854775808 ≤ off) (ho2 : off ≤ 9223372036854775807) (hB : B ≤ w.heap.size) (hr : Rd w B A (encC l)) (hm : n ≤ 1048576) (HL : Hid (l.length = n)) (hd : ∀ k, k < n → (l.getD k ck0).2.size ≤ 1048576) (hw : ∀ k, k < n → (Lit.int .i64 (l.getD k ck0).1).wf = true) (hca : A = none → c = 0) (hno : InsNo nx l off d) :
    Calls Try.prog 14 #[.agg #[.int .i64 nx, .slice A n c], .int .i64 off, .string d] w (OutBf w nx l) := by
  have V0 := Lib.hid (InvO.start w (.slice A n c) nx off d)
  have HNO := Lib.hid hno
  clear hno
  go_enter Try.func14, Try.ntmps14
  go_upto_region 1 with (fail)
  generalize (((w.alloc (.cells #[.int .i64 nx, .slice A n c] 28)).alloc (.cells #[.int .i64 off] 3)).alloc (.cells #[.string d] 9)).alloc (.cells #[.int .i64 0, .slice none 0 0] 28) = w1 at V0 ⊢
  obtain ⟨b0, b1⟩ := V0.out.kb.two
  have hIS := iIsB (c := c) (w := w1) (B := B) nx (Nat.le_trans hB V0.out.bel.size) (hr.below V0.out.bel hB) hm HL hd hw
  rcases HNO.out with h1 | ⟨h1, h2⟩ | ⟨h1, h2, h3⟩ | ⟨h1, h2, h3, h4⟩ | ⟨h1, h2, h3, h4, h5⟩
  · rw [h1] at hIS
    clear h1
    go_wp2_with (first
      | (go_at_call 21; refine hIS.mono ?_; rintro e w2 ⟨rfl, hb2⟩; have V2 := Lib.hid (V0.out.below hb2); obtain ⟨c0, c1⟩ := V2.out.kb.two; have co : w2.cell? ⟨w.heap.size + 1, 0, none⟩ = some (.int .i64 off) := V2.out.ko.cell 0; have cd : w2.cell? ⟨w.heap.size + 2, 0, none⟩ = some (.string d) := V2.out.kd.cell 0; have hCopy := iCopyB (c := c) (w := w2) (B := B) nx (Nat.le_trans hB V2.out.bel.size) (hr.below V2.out.bel hB) (by omega) HL hca)
      | (go_at_call 26; refine hCopy.mono ?_; rintro e w3 ⟨A3, c3, rfl, hb3, ho3⟩; have V3 := Lib.hid (V2.out.below hb3); have fr := V3.out.kr.frozen; obtain ⟨r0, r1⟩ := V3.out.kr.two; have hle := V2.out.bel.size; have hltr := V2.out.kr.lt))
    have ho := own_other ho3 (only_setCell (only_setCell (grown_refl w3 (some (w.heap.size + 3))) 0 (.int .i64 nx)) 1 (.slice A3 l.length c3)) (fun k hk e => by injection hk with hk; have := (ho3.lt k e).1; omega)
    exact bodyPost_ret (results_bf rfl _ _ (w.heap.size + 3) #[.int .i64 nx, .slice A3 l.length c3] rfl (V3.out.kr.set2 (.int .i64 nx) (.slice A3 l.length c3)) rfl) rfl (OutBf.of_own (below_set2 V3.out.bel (by omega) (.int .i64 nx) (.slice A3 l.length c3)) ho (by omega) rfl)
  · rw [h1] at hIS
    have hde : d.toList.isEmpty = true := by rw [dempty]; exact decide_eq_true h2
    clear h1 h2
    go_wp2_with (first
      | (go_at_call 21; refine hIS.mono ?_; rintro e w2 ⟨rfl, hb2⟩; have V2 := Lib.hid (V0.out.below hb2); obtain ⟨c0, c1⟩ := V2.out.kb.two; have co : w2.cell? ⟨w.heap.size + 1, 0, none⟩ = some (.int .i64 off) := V2.out.ko.cell 0; have cd : w2.cell? ⟨w.heap.size + 2, 0, none⟩ = some (.string d) := V2.out.kd.cell 0; have hCopy := iCopyB (c := c) (w := w2) (B := B) nx (Nat.le_trans hB V2.out.bel.size) (hr.below V2.out.bel hB) (by omega) HL hca)
      | (go_at_call 26; refine hCopy.mono ?_; rintro e w3 ⟨A3, c3, rfl, hb3, ho3⟩; have V3 := Lib.hid (V2.out.below hb3); have fr := V3.out.kr.frozen; obtain ⟨r0, r1⟩ := V3.out.kr.two; have hle := V2.out.bel.size; have hltr := V2.out.kr.lt))
    have ho := own_other ho3 (only_setCell (only_setCell (grown_refl w3 (some (w.heap.size + 3))) 0 (.int .i64 nx)) 1 (.slice A3 l.length c3)) (fun k hk e => by injection hk with hk; have := (ho3.lt k e).1; omega)
    exact bodyPost_ret (results_bf rfl _ _ (w.heap.size + 3) #[.int .i64 nx, .slice A3 l.length c3] rfl (V3.out.kr.set2 (.int .i64 nx) (.slice A3 l.length c3)) rfl) rfl (OutBf.of_own (below_set2 V3.out.bel (by omega) (.int .i64 nx) (.slice A3 l.length c3)) ho (by omega) rfl)
  · rw [h1] at hIS
    have hde : d.toList.isEmpty = false := by rw [dempty]; exact decide_eq_false (by omega)
    have hd3 : decide (off < 0) = true := by simp; omega
    clear h1
    go_wp2_with (first
      | (go_at_call 21; refine hIS.mono ?_; rintro e w2 ⟨rfl, hb2⟩; have V2 := Lib.hid (V0.out.below hb2); obtain ⟨c0, c1⟩ := V2.out.kb.two; have co : w2.cell? ⟨w.heap.size + 1, 0, none⟩ = some (.int .i64 off) := V2.out.ko.cell 0; have cd : w2.cell? ⟨w.heap.size + 2, 0, none⟩ = some (.string d) := V2.out.kd.cell 0; have hCopy := iCopyB (c := c) (w := w2) (B := B) nx (Nat.le_trans hB V2.out.bel.size) (hr.below V2.out.bel hB) (by omega) HL hca)
      | (go_at_call 26; refine hCopy.mono ?_; rintro e w3 ⟨A3, c3, rfl, hb3, ho3⟩; have V3 := Lib.hid (V2.out.below hb3); have fr := V3.out.kr.frozen; obtain ⟨r0, r1⟩ := V3.out.kr.two; have hle := V2.out.bel.size; have hltr := V2.out.kr.lt))
    have ho := own_other ho3 (only_setCell (only_setCell (grown_refl w3 (some (w.heap.size + 3))) 0 (.int .i64 nx)) 1 (.slice A3 l.length c3)) (fun k hk e => by injection hk with hk; have := (ho3.lt k e).1; omega)
    exact bodyPost_ret (results_bf rfl _ _ (w.heap.size + 3) #[.int .i64 nx, .slice A3 l.length c3] rfl (V3.out.kr.set2 (.int .i64 nx) (.slice A3 l.length c3)) rfl) rfl (OutBf.of_own (below_set2 V3.out.bel (by omega) (.int .i64 nx) (.slice A3 l.length c3)) ho (by omega) rfl)
  · rw [h1] at hIS
    have hde : d.toList.isEmpty = false := by rw [dempty]; exact decide_eq_false (by omega)
    have hd3 : decide (off < 0) = false := by simp; omega
    have hw4 : IntKind.i64.wrap (4611686018427387903 - (d.size : Int)) = 4611686018427387903 - (d.size : Int) := IntWalk.i64_in _ (by omega)
    have hd4 : decide (4611686018427387903 - (d.size : Int) < off) = true := by simp; omega
    clear h1
    go_wp2_with (first
      | (go_at_call 21; refine hIS.mono ?_; rintro e w2 ⟨rfl, hb2⟩; have V2 := Lib.hid (V0.out.below hb2); obtain ⟨c0, c1⟩ := V2.out.kb.two; have co : w2.cell? ⟨w.heap.size + 1, 0, none⟩ = some (.int .i64 off) := V2.out.ko.cell 0; have cd : w2.cell? ⟨w.heap.size + 2, 0, none⟩ = some (.string d) := V2.out.kd.cell 0; have hCopy := iCopyB (c := c) (w := w2) (B := B) nx (Nat.le_trans hB V2.out.bel.size) (hr.below V2.out.bel hB) (by omega) HL hca)
      | (go_at_call 26; refine hCopy.mono ?_; rintro e w3 ⟨A3, c3, rfl, hb3, ho3⟩; have V3 := Lib.hid (V2.out.below hb3); have fr := V3.out.kr.frozen; obtain ⟨r0, r1⟩ := V3.out.kr.two; have hle := V2.out.bel.size; have hltr := V2.out.kr.lt))
    have ho := own_other ho3 (only_setCell (only_setCell (grown_refl w3 (some (w.heap.size + 3))) 0 (.int .i64 nx)) 1 (.slice A3 l.length c3)) (fun k hk e => by injection hk with hk; have := (ho3.lt k e).1; omega)
    exact bodyPost_ret (results_bf rfl _ _ (w.heap.size + 3) #[.int .i64 nx, .slice A3 l.length c3] rfl (V3.out.kr.set2 (.int .i64 nx) (.slice A3 l.length c3)) rfl) rfl (OutBf.of_own (below_set2 V3.out.bel (by omega) (.int .i64 nx) (.slice A3 l.length c3)) ho (by omega) rfl)
  · rw [h1] at hIS
    have hde : d.toList.isEmpty = false := by rw [dempty]; exact decide_eq_false (by omega)
    have hd3 : decide (off < 0) = false := by simp; omega
    have hw4 : IntKind.i64.wrap (4611686018427387903 - (d.size : Int)) = 4611686018427387903 - (d.size : Int) := IntWalk.i64_in _ (by omega)
    have hd4 : decide (4611686018427387903 - (d.size : Int) < off) = false := by simp; omega
    have hw5 : IntKind.i64.wrap (off + (d.size : Int)) = off + (d.size : Int) := IntWalk.i64_in _ (by omega)
    have hd5 : decide (off + (d.size : Int) ≤ nx) = true := by simp; omega
    clear h1
    go_wp2_with (first
      | (go_at_call 21; refine hIS.mono ?_; rintro e w2 ⟨rfl, hb2⟩; have V2 := Lib.hid (V0.out.below hb2); obtain ⟨c0, c1⟩ := V2.out.kb.two; have co : w2.cell? ⟨w.heap.size + 1, 0, none⟩ = some (.int .i64 off) := V2.out.ko.cell 0; have cd : w2.cell? ⟨w.heap.size + 2, 0, none⟩ = some (.string d) := V2.out.kd.cell 0; have hCopy := iCopyB (c := c) (w := w2) (B := B) nx (Nat.le_trans hB V2.out.bel.size) (hr.below V2.out.bel hB) (by omega) HL hca)
      | (go_at_call 26; refine hCopy.mono ?_; rintro e w3 ⟨A3, c3, rfl, hb3, ho3⟩; have V3 := Lib.hid (V2.out.below hb3); have fr := V3.out.kr.frozen; obtain ⟨r0, r1⟩ := V3.out.kr.two; have hle := V2.out.bel.size; have hltr := V2.out.kr.lt))
    have ho := own_other ho3 (only_setCell (only_setCell (grown_refl w3 (some (w.heap.size + 3))) 0 (.int .i64 nx)) 1 (.slice A3 l.length c3)) (fun k hk e => by injection hk with hk; have := (ho3.lt k e).1; omega)
    exact bodyPost_ret (results_bf rfl _ _ (w.heap.size + 3) #[.int .i64 nx, .slice A3 l.length c3] rfl (V3.out.kr.set2 (.int .i64 nx) (.slice A3 l.length c3)) rfl) rfl (OutBf.of_own (below_set2 V3.out.bel (by omega) (.int .i64 nx) (.slice A3 l.length c3)) ho (by omega) rfl)
end Go.Proofs.Ytnndhkdigmkddaa
