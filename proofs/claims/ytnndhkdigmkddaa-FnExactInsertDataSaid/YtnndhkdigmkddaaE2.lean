/- Slices of chunks: eqChunkS, szChunkS, toChunkS. No conditions. -/
import Derived.Test.YtnndhkdigmkddaaE1
namespace Go.Proofs.Ytnndhkdigmkddaa
open Go.ChangeShapes Go.WideShapes Go.ChangeAt Go.RowKit Go.Sort
set_option linter.unusedVariables false
set_option linter.unusedSimpArgs false
theorem eqChunkS_any (l m : List Ck) (n n' : Nat) (A A' : Option Addr) (c c' : Nat) (w : World) (B : Nat) (hB : B ≤ w.heap.size) (hr : Rd w B A (encC l)) (hs : Rd w B A' (encC m)) (hm : n ≤ 9223372036854775807) (hm' : n' ≤ 9223372036854775807) (hl : l.length = n) (hlm : m.length = n') :
    Calls Try.prog 27 #[.slice A n c, .slice A' n' c'] w fun e w' => e = .returned (.bool (eqCs l m)) ∧ Below w.heap.size w w' := by
  have HL := Lib.hid hl; clear hl
  have HM := Lib.hid hlm; clear hlm
  by_cases hnn : n = n'
  · subst hnn
    go_enter Try.func27, Try.ntmps27
    go_wp2
    go_loopw [5] (fun i wr => ∃ k : Nat, k ≤ n ∧ i = .int .i64 k ∧ (∀ j, j < k → l.getD j ck0 = m.getD j ck0) ∧ Below w.heap.size w wr) (fun i _ => n - (intOf i).toNat)
    case atStart => exact ⟨0, Nat.zero_le _, rfl, fun j hj => by omega, Below.refl _ _⟩
    case round =>
      obtain ⟨k, hk, rfl, he, hbw⟩ := hrel
      have HE := Lib.hid he; clear he
      by_cases hlt : k < n
      · obtain ⟨b, off, x, y, rfl, hb, HX, c0, c1⟩ := (hr.below hbw hB).chk (k := k) (by rw [HL.out]; exact hlt)
        obtain ⟨b', off', x', y', rfl, hb', HX', d0, d1⟩ := (hs.below hbw hB).chk (k := k) (by rw [HM.out]; exact hlt)
        have k0 := cell_regrown c0
        have k1 := cell_regrown c1
        have e0 := cell_regrown d0
        have e1 := cell_regrown d1
        go_wp2
        refine wp_region_quiet_below (by kernel_rfl) (by kernel_rfl) ?_
        repeat (go_big_quiet_step ((go_at_call 45; exact Calls.regrown_of (eqChunk_any _ _ _ _ _))))
        refine wpQuiet_nil ?_
        intro _ hw'
        obtain ⟨⟨dq, osq⟩, hw''⟩ := hw'
        subst hw''
        have hb2 := below_next hbw hbw.size (below_regrown wr dq osq)
        generalize grow (redrawn wr dq) osq = w2 at hb2 ⊢
        clear k0 k1 e0 e1 c0 c1 d0 d1 hbw
        cases hq : eqCb x y x' y'
        · go_wp2
          go_ret
          exact ⟨ret_bool (getD_ne (by rw [HX.out, HX'.out]; exact eqCb_false hq)).symm, hb2⟩
        · go_wp2
          go_roundw
          case rel => exact ⟨k + 1, by omega, by go_num, fun j hj => by
            by_cases hj' : j < k
            · exact HE.out j hj'
            · obtain rfl : j = k := by omega
              rw [HX.out, HX'.out]; exact eqCb_true hq, hb2⟩
          case measure => simp [intOf]; omega
      · go_wp2
        go_ret
        exact ⟨ret_bool (by rw [list_eq_getD HL.out HM.out (fun j hj => HE.out j (by omega)), eqCs_self]), hbw⟩
  · have hnb : ((n : Int) != (n' : Int)) = true := by rw [bne_iff_ne]; omega
    go_enter Try.func27, Try.ntmps27
    go_wp2
    go_ret
    exact ⟨ret_bool (by symm; rw [Bool.eq_false_iff, ne_eq, eqCs_iff]; rintro rfl; exact hnn (HL.out.symm.trans HM.out)), Below.refl _ _⟩
/-- All the bytes of the first k chunks. -/
def tot (l : List Ck) (k : Nat) : Nat := ((l.take k).map fun c => c.2.size).sum
theorem tot_zero (l : List Ck) : tot l 0 = 0 := by simp [tot]
theorem tot_succ (l : List Ck) (k : Nat) (h : k < l.length) : tot l (k + 1) = tot l k + (l.getD k ck0).2.size := by
  unfold tot
  rw [List.take_succ_eq_append_getElem h]
  simp only [List.map_append, List.map_cons, List.map_nil, List.sum_append, List.sum_cons, List.sum_nil, Nat.add_zero]
  rw [List.getD_eq_getElem?_getD, List.getElem?_eq_getElem h, Option.getD_some]
theorem tot_mono (l : List Ck) {i j : Nat} (h : i ≤ j) (hj : j ≤ l.length) : tot l i ≤ tot l j := by
  obtain ⟨d, rfl⟩ := Nat.le.dest h
  clear h
  induction d with
  | zero => exact Nat.le_refl _
  | succ d ih =>
    have := ih (by omega)
    rw [← Nat.add_assoc, tot_succ l (i + d) (by omega)]
    omega
/-- What a slice of chunks that passes the size test is. -/
def Small (l : List Ck) (left r : Int) : Prop := 0 ≤ r ∧ r + l.length + tot l l.length = left
theorem Small.len {l : List Ck} {left r : Int} (h : Small l left r) (hl : left ≤ 1048576) : l.length ≤ 1048576 ∧ r ≤ 1048576 := by
  obtain ⟨h1, h2⟩ := h; omega
theorem Small.data {l : List Ck} {left r : Int} (h : Small l left r) (hl : left ≤ 1048576) (k : Nat) (hk : k < l.length) : (l.getD k ck0).2.size ≤ 1048576 := by
  obtain ⟨h1, h2⟩ := h
  have a := tot_succ l k hk
  have b := tot_mono l (i := k + 1) (j := l.length) hk (Nat.le_refl _)
  omega
theorem szChunkS_any (l : List Ck) (n : Nat) (A : Option Addr) (c : Nat) (left : Int) (w : World) (B : Nat) (hB : B ≤ w.heap.size) (hr : Rd w B A (encC l)) (hm : n ≤ 9223372036854775807) (hl : l.length = n) (hl0 : 0 ≤ left) (hl1 : left ≤ 1048576) (hd : ∀ k, k < n → (l.getD k ck0).2.size ≤ maxLen) :
    Calls Try.prog 22 #[.slice A n c, .int .i64 left] w fun e w' => ∃ r : Int, e = .returned (.int .i64 r) ∧ Below w.heap.size w w' ∧ (r = -1 ∨ Small l left r) := by
  have HL := Lib.hid hl; clear hl
  have HD := Lib.hid hd; clear hd
  by_cases hn : left < n
  · have hd1 : decide (left - (n : Int) < 0) = true := by simp; omega
    go_enter Try.func22, Try.ntmps22
    go_wp2
    go_ret
    exact ⟨-1, rfl, Below.refl _ _, .inl rfl⟩
  · have hd1 : decide (left - (n : Int) < 0) = false := by simp; omega
    go_enter Try.func22, Try.ntmps22
    go_wp2
    go_loopw [1, 5] (fun x i wr => ∃ (k : Nat) (r : Int), k ≤ n ∧ i = .int .i64 k ∧ x = .int .i64 r ∧ 0 ≤ r ∧ r + n + tot l k = left ∧ Below w.heap.size w wr) (fun _ i _ => n - (intOf i).toNat)
    case atStart => exact ⟨0, left - n, Nat.zero_le _, rfl, rfl, by omega, by rw [tot_zero]; omega, Below.refl _ _⟩
    case round =>
      obtain ⟨k, r, hk, rfl, rfl, hr0, hre, hbw⟩ := hrel
      have hr1 : r ≤ 1048576 := by omega
      have HRE := Lib.hid hre; clear hre
      by_cases hlt : k < n
      · obtain ⟨b, off, x, d, rfl, hb, HX, c0, c1⟩ := (hr.below hbw hB).chk (k := k) (by rw [HL.out]; exact hlt)
        have hdd : d.size ≤ maxLen := by have := HD.out k hlt; rw [HX.out] at this; exact this
        have HT := Lib.hid (tot_succ l k (by rw [HL.out]; exact hlt))
        rw [HX.out] at HT
        have k0 := cell_regrown c0
        have k1 := cell_regrown c1
        obtain ⟨q, hq⟩ : ∃ q, (if r < (d.size : Int) then (-1 : Int) else r - d.size) = q := ⟨_, rfl⟩
        have hq2 : (q = -1) ∨ (0 ≤ q ∧ q + d.size = r) := by rw [← hq]; split <;> omega
        have hc : ∀ W : World, Calls Try.prog 43 #[.agg #[.int .i64 x, .string d], .int .i64 r] W fun e w' => e = .returned (.int .i64 q) ∧ Below W.heap.size W w' := fun W => by rw [← hq]; exact szChunk_any x d r hr0 hr1 hdd W
        clear hq
        go_wp2_with fail
        refine (hc _).mono ?_
        rintro e w2 ⟨rfl, hb2⟩
        replace hb2 := below_next hbw hbw.size hb2
        clear k0 k1 c0 c1 hbw
        rcases hq2 with rfl | ⟨h0, h1⟩
        · go_wp2
          go_ret
          exact ⟨-1, rfl, hb2, .inl rfl⟩
        · have hdq : decide (q < 0) = false := by simp; omega
          go_wp2
          go_roundw
          case rel => exact ⟨k + 1, q, by omega, by go_num, rfl, h0, by rw [HT.out]; have := HRE.out; push_cast; omega, hb2⟩
          case measure => simp [intOf]; omega
      · obtain rfl : k = n := by omega
        go_wp2
        go_ret
        exact ⟨r, rfl, hbw, .inr ⟨hr0, by rw [HL.out]; exact HRE.out⟩⟩
theorem info_chk : (Try.prog.info? 46).map (fun i => (i.zero, i.size, i.bytes)) = some (some (.agg #[.int .i64 0, .string ⟨#[]⟩]), 2, 24) := by kernel_rfl
theorem toChunkS_any {A : Option Addr} {c n : Nat} {w : World} {B : Nat} {l : List Ck} (hB : B ≤ w.heap.size) (hr : Rd w B A (encC l)) (hm : n * 24 ≤ 140737488351232) (HL : Hid (l.length = n)) :
    Calls Try.prog 25 #[.slice A n c] w fun e w' => e = .returned (.slice (some ⟨w.heap.size, 0, none⟩) n n) ∧ Below w.heap.size w w' ∧ w'.ownsRow w.heap.size 46 2 (.slice (some ⟨w.heap.size, 0, none⟩) n n) n (encC l) := by
  obtain ⟨i0, hi, hz0, hz1, hz2⟩ := info_parts info_chk
  have hmk := fun W => run_make (P := Try.prog) W 26 46 i0 (.agg #[.int .i64 0, .string ⟨#[]⟩]) Try.underlying26 hi hz0 .i64 .i64 (n : Int) (n : Int) (by omega) (by omega) (by rw [hz2]; omega) (by omega)
  simp only [Int.toNat_natCast, hz1] at hmk
  go_enter Try.func25, Try.ntmps25
  go_wp2
  have hb1 : Below w.heap.size w (w.alloc (.cells (madeCells #[.int .i64 0, .string ⟨#[]⟩] (n * 2)) 46)) := (Below.refl _ _).alloc (Nat.le_refl _) _
  have hB1 : Bk (w.alloc (.cells (madeCells #[.int .i64 0, .string ⟨#[]⟩] (n * 2)) 46)) w.heap.size 46 (madeCells #[.int .i64 0, .string ⟨#[]⟩] (n * 2)) := heap_alloc_new w _
  generalize (w.alloc (.cells (madeCells #[.int .i64 0, .string ⟨#[]⟩] (n * 2)) 46)) = w1 at hb1 hB1 ⊢
  have HB1 := Lib.hid hB1; clear hB1
  go_loopw [4] (fun i wr => ∃ (k : Nat) (cs : Array Value), k ≤ n ∧ i = .int .i64 k ∧ Bk wr w.heap.size 46 cs ∧ cs.size = n * 2 ∧ Hd cs (k * 2) (encC l) ∧ Below w.heap.size w wr) (fun i _ => n - (intOf i).toNat)
  case atStart => exact ⟨0, _, Nat.zero_le _, rfl, HB1.out, size_madeCells _ _, fun j hj => by omega, hb1⟩
  case round =>
    obtain ⟨k, cs, hk, rfl, hbk, hcs, hh, hbw⟩ := hrel
    have HBK := Lib.hid hbk; clear hbk
    have HCS := Lib.hid hcs; clear hcs
    have HH := Lib.hid hh; clear hh
    clear hb1 HB1 hmk
    by_cases hlt : k < n
    · obtain ⟨b, off, x, y, rfl, hb, HX, c0, c1⟩ := (hr.below hbw hB).chk (k := k) (by rw [HL.out]; exact hlt)
      have hlo := encC_lo l k (by rw [HL.out]; exact hlt)
      have hhi := encC_hi l k (by rw [HL.out]; exact hlt)
      rw [HX.out] at hlo hhi
      have HLO := Lib.hid hlo; clear hlo
      have HHI := Lib.hid hhi; clear hhi
      go_wp2_with fail
      refine (toChunk_any x y _).mono ?_
      rintro e w2 ⟨rfl, hb2⟩
      have hbk2 := HBK.out.below hb2 HBK.out.lt
      have hg1 : k * 2 + 1 < cs.size := by rw [HCS.out]; omega
      have d0 : w2.cell? ⟨w.heap.size, k * 2, none⟩ = some (cs[k * 2]'(by omega)) := by rw [hbk2.cell, Array.getElem?_eq_getElem]
      have d1 : w2.cell? ⟨w.heap.size, k * 2 + 1, none⟩ = some (cs[k * 2 + 1]) := by rw [hbk2.cell, Array.getElem?_eq_getElem]
      have f0 := hbk2.frozen (k * 2)
      have f1 := hbk2.frozen (k * 2 + 1)
      generalize cs[k * 2]'(by omega) = o0 at d0
      generalize cs[k * 2 + 1] = o1 at d1
      have hbk3 := (hbk2.set_ (k * 2) (.int .i64 x)).set_ (k * 2 + 1) (.string y)
      have hb3 : Below w.heap.size w ((w2.setCell ⟨w.heap.size, k * 2, none⟩ (.int .i64 x)).setCell ⟨w.heap.size, k * 2 + 1, none⟩ (.string y)) := ((below_next hbw hbw.size hb2).setCell (p := ⟨w.heap.size, k * 2, none⟩) (Nat.le_refl _) _).setCell (p := ⟨w.heap.size, k * 2 + 1, none⟩) (Nat.le_refl _) _
      have HBK3 := Lib.hid hbk3; clear hbk3 hbk2
      clear c0 c1
      go_wp2
      go_roundw
      case rel => exact ⟨k + 1, _, by omega, by go_num, HBK3.out, by simp [HCS.out], by
        have := HH.out.set2 (u := .int .i64 x) (v := .string y) hg1 (by rw [Nat.mul_comm]; exact HLO.out) (by rw [Nat.mul_comm]; exact HHI.out)
        rw [Nat.add_mul]; exact this, hb3⟩
      case measure => simp [intOf]; omega
    · go_wp2
      go_ret
      obtain rfl : k = n := by omega
      refine ⟨rfl, hbw, Hd.own (cap := k) HBK.out HH.out (by rw [encC_len, HL.out, Nat.mul_comm]) (by rw [HCS.out]) (Nat.le_refl _) (by unfold maxLen; omega) (Nat.le_refl _)⟩
end Go.Proofs.Ytnndhkdigmkddaa
