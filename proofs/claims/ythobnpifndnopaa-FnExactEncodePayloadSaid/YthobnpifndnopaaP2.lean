/- Slices of frames: toFrameS. No conditions. -/
import Derived.Test.YthobnpifndnopaaP1
import Derived.Laws.MakeOwn
namespace Go.Proofs.Ythobnpifndnopaa
open Go.ChangeShapes Go.WideShapes Go.ChangeAt Go.RowKit Go.Sort QM
set_option linter.unusedVariables false
set_option linter.unusedSimpArgs false
theorem info_frm : (Try.prog.info? 40).map (fun i => (i.zero, i.size, i.bytes)) = some (some (.agg #[.int .i64 0, .int .i64 0, .int .i64 0, .string ⟨#[]⟩, .bool false, .int .i64 0, .int .i64 0, .int .i64 0, .bool false]), 9, 80) := by kernel_rfl
set_option maxHeartbeats 4000000 in
theorem toFrameS_any {A : Option Addr} {c n : Nat} {w : World} {B : Nat} {l : List Fr} (hB : B ≤ w.heap.size) (hr : Rd w B A (encF9 l)) (hm : n ≤ 1048576) (HL : Hid (l.length = n)) :
    Calls Try.prog 44 #[.slice A n c] w fun e w' => e = .returned (.slice (some ⟨w.heap.size, 0, none⟩) n n) ∧ Below w.heap.size w w' ∧ w'.ownsRow w.heap.size 40 9 (.slice (some ⟨w.heap.size, 0, none⟩) n n) n (encF9 l) := by
  obtain ⟨i0, hi, hz0, hz1, hz2⟩ := info_parts info_frm
  have hmk := fun W => run_make (P := Try.prog) W 51 40 i0 (.agg #[.int .i64 0, .int .i64 0, .int .i64 0, .string ⟨#[]⟩, .bool false, .int .i64 0, .int .i64 0, .int .i64 0, .bool false]) Try.underlying51 hi hz0 .i64 .i64 (n : Int) (n : Int) (by omega) (by omega) (by rw [hz2]; omega) (by omega)
  simp only [Int.toNat_natCast, hz1] at hmk
  go_enter Try.func44, Try.ntmps44
  go_wp2
  have hb1 : Below w.heap.size w (w.alloc (.cells (madeCells #[.int .i64 0, .int .i64 0, .int .i64 0, .string ⟨#[]⟩, .bool false, .int .i64 0, .int .i64 0, .int .i64 0, .bool false] (n * 9)) 40)) := (Below.refl _ _).alloc (Nat.le_refl _) _
  have hB1 : Bk (w.alloc (.cells (madeCells #[.int .i64 0, .int .i64 0, .int .i64 0, .string ⟨#[]⟩, .bool false, .int .i64 0, .int .i64 0, .int .i64 0, .bool false] (n * 9)) 40)) w.heap.size 40 (madeCells #[.int .i64 0, .int .i64 0, .int .i64 0, .string ⟨#[]⟩, .bool false, .int .i64 0, .int .i64 0, .int .i64 0, .bool false] (n * 9)) := heap_alloc_new w _
  generalize (w.alloc (.cells (madeCells #[.int .i64 0, .int .i64 0, .int .i64 0, .string ⟨#[]⟩, .bool false, .int .i64 0, .int .i64 0, .int .i64 0, .bool false] (n * 9)) 40)) = w1 at hb1 hB1 ⊢
  have HB1 := Lib.hid hB1; clear hB1
  go_loopw [4] (fun i wr => ∃ (k : Nat) (cs : Array Value), k ≤ n ∧ i = .int .i64 k ∧ Bk wr w.heap.size 40 cs ∧ cs.size = n * 9 ∧ Hd cs (k * 9) (encF9 l) ∧ Below w.heap.size w wr) (fun i _ => n - (intOf i).toNat)
  case atStart => exact ⟨0, _, Nat.zero_le _, rfl, HB1.out, size_madeCells _ _, fun j hj => by omega, hb1⟩
  case round =>
    obtain ⟨k, cs, hk, rfl, hbk, hcs, hh, hbw⟩ := hrel
    have HBK := Lib.hid hbk; clear hbk
    have HH := Lib.hid hh; clear hh
    clear hb1 HB1 hmk
    by_cases hlt : k < n
    · obtain ⟨b, off, f, rfl, hb, HX, c0, c1, c2, c3, c4, c5, c6, c7, c8⟩ := (hr.below hbw hB).frm (k := k) (by rw [HL.out]; exact hlt)
      have HX9 := Lib.hid (show ∀ i u, i < 9 → (frC f)[i]? = some u → (encF9 l)[k * 9 + i]? = some u from fun i u hi hu => by
        have := encF9_at l k i (by rw [HL.out]; exact hlt) hi
        rw [HX.out] at this
        rw [show k * 9 + i = 9 * k + i by omega, this]; exact hu)
      go_wp2_with fail
      refine (toFrame_any f.a f.b f.c f.d f.e f.g f.l f.m f.u _).mono ?_
      rintro e w2 ⟨rfl, hb2⟩
      have hbk2 := HBK.out.below hb2 HBK.out.lt
      have hg1 : k * 9 + 8 < cs.size := by omega
      have d0 : w2.cell? ⟨w.heap.size, k * 9, none⟩ = some (cs[k * 9]'(by omega)) := by rw [hbk2.cell, Array.getElem?_eq_getElem]
      have f0 := hbk2.frozen (k * 9)
      generalize cs[k * 9]'(by omega) = o0 at d0
      have d1 : w2.cell? ⟨w.heap.size, k * 9 + 1, none⟩ = some (cs[k * 9 + 1]'(by omega)) := by rw [hbk2.cell, Array.getElem?_eq_getElem]
      have f1 := hbk2.frozen (k * 9 + 1)
      generalize cs[k * 9 + 1]'(by omega) = o1 at d1
      have d2 : w2.cell? ⟨w.heap.size, k * 9 + 2, none⟩ = some (cs[k * 9 + 2]'(by omega)) := by rw [hbk2.cell, Array.getElem?_eq_getElem]
      have f2 := hbk2.frozen (k * 9 + 2)
      generalize cs[k * 9 + 2]'(by omega) = o2 at d2
      have d3 : w2.cell? ⟨w.heap.size, k * 9 + 3, none⟩ = some (cs[k * 9 + 3]'(by omega)) := by rw [hbk2.cell, Array.getElem?_eq_getElem]
      have f3 := hbk2.frozen (k * 9 + 3)
      generalize cs[k * 9 + 3]'(by omega) = o3 at d3
      have d4 : w2.cell? ⟨w.heap.size, k * 9 + 4, none⟩ = some (cs[k * 9 + 4]'(by omega)) := by rw [hbk2.cell, Array.getElem?_eq_getElem]
      have f4 := hbk2.frozen (k * 9 + 4)
      generalize cs[k * 9 + 4]'(by omega) = o4 at d4
      have d5 : w2.cell? ⟨w.heap.size, k * 9 + 5, none⟩ = some (cs[k * 9 + 5]'(by omega)) := by rw [hbk2.cell, Array.getElem?_eq_getElem]
      have f5 := hbk2.frozen (k * 9 + 5)
      generalize cs[k * 9 + 5]'(by omega) = o5 at d5
      have d6 : w2.cell? ⟨w.heap.size, k * 9 + 6, none⟩ = some (cs[k * 9 + 6]'(by omega)) := by rw [hbk2.cell, Array.getElem?_eq_getElem]
      have f6 := hbk2.frozen (k * 9 + 6)
      generalize cs[k * 9 + 6]'(by omega) = o6 at d6
      have d7 : w2.cell? ⟨w.heap.size, k * 9 + 7, none⟩ = some (cs[k * 9 + 7]'(by omega)) := by rw [hbk2.cell, Array.getElem?_eq_getElem]
      have f7 := hbk2.frozen (k * 9 + 7)
      generalize cs[k * 9 + 7]'(by omega) = o7 at d7
      have d8 : w2.cell? ⟨w.heap.size, k * 9 + 8, none⟩ = some (cs[k * 9 + 8]'(by omega)) := by rw [hbk2.cell, Array.getElem?_eq_getElem]
      have f8 := hbk2.frozen (k * 9 + 8)
      generalize cs[k * 9 + 8]'(by omega) = o8 at d8
      have hbk3 := (((((((((hbk2.set_ (k * 9) (.int .i64 f.a)).set_ (k * 9 + 1) (.int .i64 f.b)).set_ (k * 9 + 2) (.int .i64 f.c)).set_ (k * 9 + 3) (.string f.d)).set_ (k * 9 + 4) (.bool f.e)).set_ (k * 9 + 5) (.int .i64 f.g)).set_ (k * 9 + 6) (.int .i64 f.l)).set_ (k * 9 + 7) (.int .i64 f.m)).set_ (k * 9 + 8) (.bool f.u))
      have hb3 : Below w.heap.size w (((((((((w2.setCell ⟨w.heap.size, k * 9, none⟩ (.int .i64 f.a)).setCell ⟨w.heap.size, k * 9 + 1, none⟩ (.int .i64 f.b)).setCell ⟨w.heap.size, k * 9 + 2, none⟩ (.int .i64 f.c)).setCell ⟨w.heap.size, k * 9 + 3, none⟩ (.string f.d)).setCell ⟨w.heap.size, k * 9 + 4, none⟩ (.bool f.e)).setCell ⟨w.heap.size, k * 9 + 5, none⟩ (.int .i64 f.g)).setCell ⟨w.heap.size, k * 9 + 6, none⟩ (.int .i64 f.l)).setCell ⟨w.heap.size, k * 9 + 7, none⟩ (.int .i64 f.m)).setCell ⟨w.heap.size, k * 9 + 8, none⟩ (.bool f.u)) := ((((((((((below_next hbw hbw.size hb2).setCell (p := ⟨w.heap.size, k * 9, none⟩) (Nat.le_refl _) (.int .i64 f.a)).setCell (p := ⟨w.heap.size, k * 9 + 1, none⟩) (Nat.le_refl _) (.int .i64 f.b)).setCell (p := ⟨w.heap.size, k * 9 + 2, none⟩) (Nat.le_refl _) (.int .i64 f.c)).setCell (p := ⟨w.heap.size, k * 9 + 3, none⟩) (Nat.le_refl _) (.string f.d)).setCell (p := ⟨w.heap.size, k * 9 + 4, none⟩) (Nat.le_refl _) (.bool f.e)).setCell (p := ⟨w.heap.size, k * 9 + 5, none⟩) (Nat.le_refl _) (.int .i64 f.g)).setCell (p := ⟨w.heap.size, k * 9 + 6, none⟩) (Nat.le_refl _) (.int .i64 f.l)).setCell (p := ⟨w.heap.size, k * 9 + 7, none⟩) (Nat.le_refl _) (.int .i64 f.m)).setCell (p := ⟨w.heap.size, k * 9 + 8, none⟩) (Nat.le_refl _) (.bool f.u))
      have hh3 := (((((((((HH.out.set1 (u := .int .i64 f.a) (by first | omega | (simp; omega)) (HX9.out 0 _ (by decide) rfl)).set1 (u := .int .i64 f.b) (by first | omega | (simp; omega)) (HX9.out 1 _ (by decide) rfl)).set1 (u := .int .i64 f.c) (by first | omega | (simp; omega)) (HX9.out 2 _ (by decide) rfl)).set1 (u := .string f.d) (by first | omega | (simp; omega)) (HX9.out 3 _ (by decide) rfl)).set1 (u := .bool f.e) (by first | omega | (simp; omega)) (HX9.out 4 _ (by decide) rfl)).set1 (u := .int .i64 f.g) (by first | omega | (simp; omega)) (HX9.out 5 _ (by decide) rfl)).set1 (u := .int .i64 f.l) (by first | omega | (simp; omega)) (HX9.out 6 _ (by decide) rfl)).set1 (u := .int .i64 f.m) (by first | omega | (simp; omega)) (HX9.out 7 _ (by decide) rfl)).set1 (u := .bool f.u) (by first | omega | (simp; omega)) (HX9.out 8 _ (by decide) rfl))
      have HBK3 := Lib.hid hbk3; have HH3 := Lib.hid hh3; clear hbk3 hbk2 hh3
      clear c0 c1 c2 c3 c4 c5 c6 c7 c8
      go_wp2
      go_roundw
      case rel => exact ⟨k + 1, _, by omega, by go_num, HBK3.out, by simp [hcs], by rw [Nat.add_mul]; exact HH3.out, hb3⟩
      case measure => simp [intOf]; omega
    · go_wp2
      go_ret
      obtain rfl : k = n := by omega
      refine ⟨rfl, hbw, Hd.own (cap := k) HBK.out HH.out (by rw [encF9_len, HL.out, Nat.mul_comm]) hcs (Nat.le_refl _) (by unfold maxLen; omega) (Nat.le_refl _)⟩
end Go.Proofs.Ythobnpifndnopaa
