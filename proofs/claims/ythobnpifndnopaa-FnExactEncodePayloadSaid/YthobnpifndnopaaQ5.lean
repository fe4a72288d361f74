/- The slices of ints: toIntS, eqIntS. No conditions. -/
import Derived.Test.YthobnpifndnopaaMemQ
namespace Go.Proofs.Ythobnpifndnopaa
open Go.ChangeShapes Go.WideShapes Go.ChangeAt Go.RowKit Go.Sort
set_option linter.unusedVariables false
set_option linter.unusedSimpArgs false
theorem own_rd {w : World} {base : Nat} {e : TypeId} {size n c : Nat} {A : Option Addr} {xs : List Value} (h : w.ownsRow base e size (.slice A n c) n xs) : Rd w w.heap.size A xs := by
  obtain ⟨A', c', hv, _, hr⟩ := Rd.of_own h
  injection hv with e1 e2 e3
  rw [e1]; exact hr
theorem gb_of_below {w w' : World} (h : Below w.heap.size w w') (row : Option Nat) : w.grownBy w' row := ⟨h.os, h.tape, h.output, h.size, fun k hk _ => h.block k hk⟩
theorem own_step {w w' : World} {base : Nat} {e : TypeId} {size n : Nat} {v : Value} {xs : List Value} (h : w.ownsRow base e size v n xs) (hb : Below w.heap.size w w') : w'.ownsRow base e size v n xs :=
  h.kept (gb_of_below hb none) (by cases hv : v.ownBlock <;> simp)
theorem info_int : (Try.prog.info? 3).map (fun i => (i.zero, i.size, i.bytes)) = some (some (.int .i64 0), 1, 8) := by kernel_rfl
def ints (l : List Int) : List Value := l.map (fun x => .int .i64 x)
theorem ints_len (l : List Int) : (ints l).length = l.length := by simp [ints]
theorem ints_get (l : List Int) (k : Nat) (h : k < l.length) : (ints l)[k]? = some (.int .i64 (l.getD k 0)) := by
  simp [ints, List.getElem?_eq_getElem h, List.getD_eq_getElem?_getD]
theorem Rd.int {w : World} {B : Nat} {A : Option Addr} {l : List Int} (h : Rd w B A (ints l)) {k : Nat} (hk : k < l.length) : ∃ b off x, A = some ⟨b, off, none⟩ ∧ b < B ∧ Hid (l.getD k 0 = x) ∧ w.cell? ⟨b, off + k, none⟩ = some (.int .i64 x) := by
  obtain ⟨b, off, e, hb, hc⟩ := h k _ (ints_get l k hk)
  exact ⟨b, off, _, e, hb, Lib.hid rfl, hc⟩
theorem eqIntS_any {A A' : Option Addr} {c c' n : Nat} {w : World} {B : Nat} {l : List Int} (hB : B ≤ w.heap.size) (hr : Rd w B A (ints l)) (hr' : Rd w B A' (ints l)) (hm : n ≤ 9223372036854775807) (HL : Hid (l.length = n)) :
    Calls Try.prog 24 #[.slice A n c, .slice A' n c'] w fun e w' => e = .returned (.bool true) ∧ Below w.heap.size w w' := by
  go_enter Try.func24, Try.ntmps24
  go_wp2
  go_loopw [5] (fun i wr => ∃ k : Nat, k ≤ n ∧ i = .int .i64 k ∧ Below w.heap.size w wr) (fun i _ => n - (intOf i).toNat)
  case atStart => exact ⟨0, Nat.zero_le _, rfl, Below.refl _ _⟩
  case round =>
    obtain ⟨k, hk, rfl, hbw⟩ := hrel
    by_cases hlt : k < n
    · obtain ⟨b, off, x, rfl, hb, HX, c0⟩ := (hr.below hbw hB).int (k := k) (by rw [HL.out]; exact hlt)
      obtain ⟨b', off', x', rfl, hb', HX', c0'⟩ := (hr'.below hbw hB).int (k := k) (by rw [HL.out]; exact hlt)
      obtain rfl : x' = x := HX'.out.symm.trans HX.out
      have k0 := cell_regrown c0
      have k1 := cell_regrown c0'
      go_wp2
      refine wp_region_quiet_below (by kernel_rfl) (by kernel_rfl) ?_
      repeat (go_big_quiet_step ((fail)))
      refine wpQuiet_nil ?_
      intro _ hw'
      obtain ⟨⟨dq, osq⟩, hw''⟩ := hw'
      subst hw''
      have hb2 := below_next hbw hbw.size (below_regrown _ dq osq)
      generalize grow (redrawn _ dq) osq = w2 at hb2 ⊢
      clear k0 k1 c0 c0' hbw
      go_wp2
      go_roundw
      case rel => exact ⟨k + 1, by omega, by go_num, hb2⟩
      case measure => simp [intOf]; omega
    · go_wp2
      go_ret
      exact ⟨rfl, hbw⟩
theorem toIntS_any {A : Option Addr} {c n : Nat} {w : World} {B : Nat} {l : List Int} (hB : B ≤ w.heap.size) (hr : Rd w B A (ints l)) (hm : n * 8 ≤ 140737488351232) (HL : Hid (l.length = n)) :
    Calls Try.prog 22 #[.slice A n c] w fun e w' => e = .returned (.slice (some ⟨w.heap.size, 0, none⟩) n n) ∧ Below w.heap.size w w' ∧ w'.ownsRow w.heap.size 3 1 (.slice (some ⟨w.heap.size, 0, none⟩) n n) n (ints l) := by
  obtain ⟨i0, hi, hz0, hz1, hz2⟩ := info_parts info_int
  have hmk := fun W => run_make (P := Try.prog) W 27 3 i0 (.int .i64 0) Try.underlying27 hi hz0 .i64 .i64 (n : Int) (n : Int) (by omega) (by omega) (by rw [hz2]; omega) (by omega)
  simp only [Int.toNat_natCast, hz1] at hmk
  go_enter Try.func22, Try.ntmps22
  go_wp2
  have hb1 : Below w.heap.size w (w.alloc (.cells (madeCells #[.int .i64 0] n) 3)) := (Below.refl _ _).alloc (Nat.le_refl _) _
  have hB1 : Bk (w.alloc (.cells (madeCells #[.int .i64 0] n) 3)) w.heap.size 3 (madeCells #[.int .i64 0] n) := heap_alloc_new w _
  generalize (w.alloc (.cells (madeCells #[.int .i64 0] n) 3)) = w1 at hb1 hB1 ⊢
  have HB1 := Lib.hid hB1; clear hB1
  go_loopw [4] (fun i wr => ∃ (k : Nat) (cs : Array Value), k ≤ n ∧ i = .int .i64 k ∧ Bk wr w.heap.size 3 cs ∧ cs.size = n ∧ Hd cs k (ints l) ∧ Below w.heap.size w wr) (fun i _ => n - (intOf i).toNat)
  case atStart => exact ⟨0, _, Nat.zero_le _, rfl, HB1.out, size_madeCells _ _, fun j hj => by omega, hb1⟩
  case round =>
    obtain ⟨k, cs, hk, rfl, hbk, hcs, hh, hbw⟩ := hrel
    have HBK := Lib.hid hbk; clear hbk
    have HCS := Lib.hid hcs; clear hcs
    have HH := Lib.hid hh; clear hh
    clear hb1 HB1 hmk
    by_cases hlt : k < n
    · obtain ⟨b, off, x, rfl, hb, HX, c0⟩ := (hr.below hbw hB).int (k := k) (by rw [HL.out]; exact hlt)
      have hx := ints_get l k (by rw [HL.out]; exact hlt)
      rw [HX.out] at hx
      have hne : ¬ b = w.heap.size := by omega
      have d0 : wr.cell? ⟨w.heap.size, k, none⟩ = some (cs[k]'(by rw [HCS.out]; omega)) := by rw [HBK.out.cell, Array.getElem?_eq_getElem]
      have f0 := HBK.out.frozen k
      generalize cs[k]'(by rw [HCS.out]; omega) = o0 at d0
      have HBK3 := Lib.hid (HBK.out.set_ k (.int .i64 x))
      have HBW3 := Lib.hid (hbw.setCell (p := ⟨w.heap.size, k, none⟩) (Nat.le_refl _) (.int .i64 x))
      have HH3 := Lib.hid (HH.out.set1 (u := .int .i64 x) (by rw [HCS.out]; exact hlt) hx)
      clear hx
      go_wp2
      go_roundw
      case rel => exact ⟨k + 1, _, by omega, by go_num, HBK3.out, by simp [HCS.out], HH3.out, HBW3.out⟩
      case measure => simp [intOf]; omega
    · go_wp2
      go_ret
      obtain rfl : k = n := by omega
      refine ⟨rfl, hbw, Hd.own (cap := k) HBK.out (by simpa using HH.out) (by rw [ints_len, HL.out, Nat.mul_one]) (by rw [HCS.out, Nat.mul_one]) (Nat.le_refl _) (by unfold maxLen; omega) (Nat.le_refl _)⟩
end Go.Proofs.Ythobnpifndnopaa
