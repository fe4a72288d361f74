/- InsertData of the reference: its contract. No conditions. -/
import Derived.Test.YtnndhkdigmkddaaI0
import Derived.Test.YtnndhkdigmkddaaAR
import Derived.Test.YtnndhkdigmkddaaE4
import Derived.Deep.Cut
import Derived.Deep.CutRange
import Derived.Deep.RegionHeld3
import Derived.Deep.AppendLies
namespace Go.Proofs.Ytnndhkdigmkddaa
open Go.ChangeShapes Go.WideShapes Go.ChangeAt Go.RowKit Go.Sort
set_option linter.unusedVariables false
set_option linter.unusedSimpArgs false
theorem insV_no {nx : Int} {l : List Ck} {off : Int} {d : ByteArray} (h : insOk nx l off d = false) : insV nx l off d = l := by unfold insV; rw [h]; rfl
theorem insV_yes {nx : Int} {l : List Ck} {off : Int} {d : ByteArray} (h : insOk nx l off d = true) : insV nx l off d = insK nx l off d := by unfold insV; rw [h]; rfl
/-- What leaves a buffer as it is. -/
def InsNo (nx : Int) (l : List Ck) (off : Int) (d : ByteArray) : Prop := isBf nx l = false ∨ (isBf nx l = true ∧ d.size = 0) ∨ (isBf nx l = true ∧ 0 < d.size ∧ off < 0) ∨ (isBf nx l = true ∧ 0 < d.size ∧ 0 ≤ off ∧ 4611686018427387903 - (d.size : Int) < off) ∨ (isBf nx l = true ∧ 0 < d.size ∧ 0 ≤ off ∧ off ≤ 4611686018427387903 - (d.size : Int) ∧ off + (d.size : Int) ≤ nx)
theorem insNo_of {nx : Int} {l : List Ck} {off : Int} {d : ByteArray} (h : insOk nx l off d = false) : InsNo nx l off d := by
  unfold InsNo
  cases hb : isBf nx l
  · exact .inl rfl
  · right
    by_cases h1 : d.size = 0
    · exact .inl ⟨rfl, h1⟩
    · right
      by_cases h2 : off < 0
      · exact .inl ⟨rfl, by omega, h2⟩
      · right
        by_cases h3 : 4611686018427387903 - (d.size : Int) < off
        · exact .inl ⟨rfl, by omega, by omega, h3⟩
        · right
          refine ⟨rfl, by omega, by omega, by omega, ?_⟩
          rcases Int.lt_or_le nx (off + (d.size : Int)) with h4 | h4
          · have : insOk nx l off d = true := insOk_iff.2 ⟨hb, by omega, by omega, by omega, by omega⟩
            rw [this] at h; cases h
          · exact h4
set_option maxRecDepth 20000 in
set_option maxHeartbeats 4000000 in
theorem sInsNo {A : Option Addr} {c n : Nat} {w : World} {B : Nat} {l : List Ck} (nx off : Int) (d : ByteArray) (hds : d.size ≤ 1048576) (hnx : (Lit.int .i64 nx).wf = true) (ho1 : -9223372036854775808 ≤ off) (ho2 : off ≤ 9223372036854775807) (hB : B ≤ w.heap.size) (hr : Rd w B A (encC l)) (hm : n ≤ 1048576) (HL : Hid (l.length = n)) (hd : ∀ k, k < n → (l.getD k ck0).2.size ≤ 1048576) (hw : ∀ k, k < n → (Lit.int .i64 (l.getD k ck0).1).wf = true) (hca : A = none → c = 0) (hno : InsNo nx l off d) :
    Calls Try.prog 13 #[.agg #[.int .i64 nx, .slice A n c], .int .i64 off, .string d] w (OutBf w nx l) := by
  have hb0 := bbox w (.int .i64 nx) (.slice A n c) 28
  have hk0 : Bk (w.alloc (.cells #[.int .i64 nx, .slice A n c] 28)) w.heap.size 28 #[.int .i64 nx, .slice A n c] := heap_alloc_new w _
  have hs0 : (w.alloc (.cells #[.int .i64 nx, .slice A n c] 28)).heap.size = w.heap.size + 1 := by simp
  have HB0 := Lib.hid hb0; have HK0 := Lib.hid hk0; have HS0 := Lib.hid hs0
  clear hb0 hk0 hs0
  have HNO := Lib.hid hno
  clear hno
  go_enter Try.func13, Try.ntmps13
  go_upto_region 1 with (fail)
  have hb0 := HB0.out; have hk0 := HK0.out; have hs0 := HS0.out
  clear HB0 HK0 HS0
  generalize w.alloc (.cells #[.int .i64 nx, .slice A n c] 28) = w0 at hb0 hk0 hs0 ⊢
  have kr : Bk (w0.alloc (.cells #[.int .i64 0, .slice none 0 0] 28)) (w.heap.size + 1) 28 #[.int .i64 0, .slice none 0 0] := by rw [← hs0]; exact heap_alloc_new w0 _
  have al := bbox w0 (.int .i64 0) (.slice none 0 0) 28
  have kb := hk0.below al hk0.lt
  have hb := below_next hb0 hb0.size al
  clear al hk0 hb0
  generalize w0.alloc (.cells #[.int .i64 0, .slice none 0 0] 28) = w1 at kr kb hb ⊢
  clear hs0
  obtain ⟨b0, b1⟩ := kb.two
  have hIS := sIsB (c := c) (w := w1) (B := B) nx hnx (Nat.le_trans hB hb.size) (hr.below hb hB) hm HL hd hw
  rcases HNO.out with h1 | ⟨h1, h2⟩ | ⟨h1, h2, h3⟩ | ⟨h1, h2, h3, h4⟩ | ⟨h1, h2, h3, h4, h5⟩
  · rw [h1] at hIS
    clear h1
    go_wp2_with (first
      | (go_at_call 18; refine hIS.mono ?_; rintro e w2 ⟨rfl, hb2⟩; have kb2 := kb.below hb2 kb.lt; have kr2 := kr.below hb2 kr.lt; have h02 := below_next hb hb.size hb2; obtain ⟨c0, c1⟩ := kb2.two; have hCopy := sCopyB (c := c) (w := w2) (B := B) nx (Nat.le_trans hB h02.size) (hr.below h02 hB) (by omega) HL hca)
      | (go_at_call 24; refine hCopy.mono ?_; rintro e w3 ⟨A3, c3, rfl, hb3, ho3⟩; have kr3 := kr2.below hb3 kr2.lt; have h03 := below_next h02 h02.size hb3; have fr := kr3.frozen; obtain ⟨r0, r1⟩ := kr3.two; have hle := h02.size; have hltr := kr2.lt))
    have ho := own_other ho3 (only_setCell (only_setCell (grown_refl w3 (some (w.heap.size + 1))) 0 (.int .i64 nx)) 1 (.slice A3 l.length c3)) (fun k hk e => by injection hk with hk; have := (ho3.lt k e).1; omega)
    exact bodyPost_ret (results_bf rfl _ _ (w.heap.size + 1) #[.int .i64 nx, .slice A3 l.length c3] rfl (kr3.set2 (.int .i64 nx) (.slice A3 l.length c3)) rfl) rfl (OutBf.of_own (below_set2 h03 (Nat.le_succ _) (.int .i64 nx) (.slice A3 l.length c3)) ho (by omega) rfl)
  · rw [h1] at hIS
    have hde : d.toList.isEmpty = true := by rw [dempty]; exact decide_eq_true h2
    clear h1 h2
    go_wp2_with (first
      | (go_at_call 18; refine hIS.mono ?_; rintro e w2 ⟨rfl, hb2⟩; have kb2 := kb.below hb2 kb.lt; have kr2 := kr.below hb2 kr.lt; have h02 := below_next hb hb.size hb2; obtain ⟨c0, c1⟩ := kb2.two; have hCopy := sCopyB (c := c) (w := w2) (B := B) nx (Nat.le_trans hB h02.size) (hr.below h02 hB) (by omega) HL hca)
      | (go_at_call 24; refine hCopy.mono ?_; rintro e w3 ⟨A3, c3, rfl, hb3, ho3⟩; have kr3 := kr2.below hb3 kr2.lt; have h03 := below_next h02 h02.size hb3; have fr := kr3.frozen; obtain ⟨r0, r1⟩ := kr3.two; have hle := h02.size; have hltr := kr2.lt))
    have ho := own_other ho3 (only_setCell (only_setCell (grown_refl w3 (some (w.heap.size + 1))) 0 (.int .i64 nx)) 1 (.slice A3 l.length c3)) (fun k hk e => by injection hk with hk; have := (ho3.lt k e).1; omega)
    exact bodyPost_ret (results_bf rfl _ _ (w.heap.size + 1) #[.int .i64 nx, .slice A3 l.length c3] rfl (kr3.set2 (.int .i64 nx) (.slice A3 l.length c3)) rfl) rfl (OutBf.of_own (below_set2 h03 (Nat.le_succ _) (.int .i64 nx) (.slice A3 l.length c3)) ho (by omega) rfl)
  · rw [h1] at hIS
    have hde : d.toList.isEmpty = false := by rw [dempty]; exact decide_eq_false (by omega)
    have hd3 : decide (off < 0) = true := by simp; omega
    clear h1
    go_wp2_with (first
      | (go_at_call 18; refine hIS.mono ?_; rintro e w2 ⟨rfl, hb2⟩; have kb2 := kb.below hb2 kb.lt; have kr2 := kr.below hb2 kr.lt; have h02 := below_next hb hb.size hb2; obtain ⟨c0, c1⟩ := kb2.two; have hCopy := sCopyB (c := c) (w := w2) (B := B) nx (Nat.le_trans hB h02.size) (hr.below h02 hB) (by omega) HL hca)
      | (go_at_call 24; refine hCopy.mono ?_; rintro e w3 ⟨A3, c3, rfl, hb3, ho3⟩; have kr3 := kr2.below hb3 kr2.lt; have h03 := below_next h02 h02.size hb3; have fr := kr3.frozen; obtain ⟨r0, r1⟩ := kr3.two; have hle := h02.size; have hltr := kr2.lt))
    have ho := own_other ho3 (only_setCell (only_setCell (grown_refl w3 (some (w.heap.size + 1))) 0 (.int .i64 nx)) 1 (.slice A3 l.length c3)) (fun k hk e => by injection hk with hk; have := (ho3.lt k e).1; omega)
    exact bodyPost_ret (results_bf rfl _ _ (w.heap.size + 1) #[.int .i64 nx, .slice A3 l.length c3] rfl (kr3.set2 (.int .i64 nx) (.slice A3 l.length c3)) rfl) rfl (OutBf.of_own (below_set2 h03 (Nat.le_succ _) (.int .i64 nx) (.slice A3 l.length c3)) ho (by omega) rfl)
  · rw [h1] at hIS
    have hde : d.toList.isEmpty = false := by rw [dempty]; exact decide_eq_false (by omega)
    have hd3 : decide (off < 0) = false := by simp; omega
    have hw4 : IntKind.i64.wrap (4611686018427387903 - (d.size : Int)) = 4611686018427387903 - (d.size : Int) := IntWalk.i64_in _ (by omega)
    have hd4 : decide (4611686018427387903 - (d.size : Int) < off) = true := by simp; omega
    clear h1
    go_wp2_with (first
      | (go_at_call 18; refine hIS.mono ?_; rintro e w2 ⟨rfl, hb2⟩; have kb2 := kb.below hb2 kb.lt; have kr2 := kr.below hb2 kr.lt; have h02 := below_next hb hb.size hb2; obtain ⟨c0, c1⟩ := kb2.two; have hCopy := sCopyB (c := c) (w := w2) (B := B) nx (Nat.le_trans hB h02.size) (hr.below h02 hB) (by omega) HL hca)
      | (go_at_call 24; refine hCopy.mono ?_; rintro e w3 ⟨A3, c3, rfl, hb3, ho3⟩; have kr3 := kr2.below hb3 kr2.lt; have h03 := below_next h02 h02.size hb3; have fr := kr3.frozen; obtain ⟨r0, r1⟩ := kr3.two; have hle := h02.size; have hltr := kr2.lt))
    have ho := own_other ho3 (only_setCell (only_setCell (grown_refl w3 (some (w.heap.size + 1))) 0 (.int .i64 nx)) 1 (.slice A3 l.length c3)) (fun k hk e => by injection hk with hk; have := (ho3.lt k e).1; omega)
    exact bodyPost_ret (results_bf rfl _ _ (w.heap.size + 1) #[.int .i64 nx, .slice A3 l.length c3] rfl (kr3.set2 (.int .i64 nx) (.slice A3 l.length c3)) rfl) rfl (OutBf.of_own (below_set2 h03 (Nat.le_succ _) (.int .i64 nx) (.slice A3 l.length c3)) ho (by omega) rfl)
  · rw [h1] at hIS
    have hde : d.toList.isEmpty = false := by rw [dempty]; exact decide_eq_false (by omega)
    have hd3 : decide (off < 0) = false := by simp; omega
    have hw4 : IntKind.i64.wrap (4611686018427387903 - (d.size : Int)) = 4611686018427387903 - (d.size : Int) := IntWalk.i64_in _ (by omega)
    have hd4 : decide (4611686018427387903 - (d.size : Int) < off) = false := by simp; omega
    have hw5 : IntKind.i64.wrap (off + (d.size : Int)) = off + (d.size : Int) := IntWalk.i64_in _ (by omega)
    have hd5 : decide (off + (d.size : Int) ≤ nx) = true := by simp; omega
    have hmx : ¬ nx < off := by omega
    clear h1
    go_wp2_with (first
      | (go_at_call 18; refine hIS.mono ?_; rintro e w2 ⟨rfl, hb2⟩; have kb2 := kb.below hb2 kb.lt; have kr2 := kr.below hb2 kr.lt; have h02 := below_next hb hb.size hb2; obtain ⟨c0, c1⟩ := kb2.two; have hCopy := sCopyB (c := c) (w := w2) (B := B) nx (Nat.le_trans hB h02.size) (hr.below h02 hB) (by omega) HL hca)
      | (go_at_call 24; refine hCopy.mono ?_; rintro e w3 ⟨A3, c3, rfl, hb3, ho3⟩; have kr3 := kr2.below hb3 kr2.lt; have h03 := below_next h02 h02.size hb3; have fr := kr3.frozen; obtain ⟨r0, r1⟩ := kr3.two; have hle := h02.size; have hltr := kr2.lt))
    have ho := own_other ho3 (only_setCell (only_setCell (grown_refl w3 (some (w.heap.size + 1))) 0 (.int .i64 nx)) 1 (.slice A3 l.length c3)) (fun k hk e => by injection hk with hk; have := (ho3.lt k e).1; omega)
    exact bodyPost_ret (results_bf rfl _ _ (w.heap.size + 1) #[.int .i64 nx, .slice A3 l.length c3] rfl (kr3.set2 (.int .i64 nx) (.slice A3 l.length c3)) rfl) rfl (OutBf.of_own (below_set2 h03 (Nat.le_succ _) (.int .i64 nx) (.slice A3 l.length c3)) ho (by omega) rfl)
end Go.Proofs.Ytnndhkdigmkddaa
