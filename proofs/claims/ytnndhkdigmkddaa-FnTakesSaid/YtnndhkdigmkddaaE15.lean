/- TakeBytes of the reference. No conditions. -/
import Derived.Test.YtnndhkdigmkddaaE14D
namespace Go.Proofs.Ytnndhkdigmkddaa
open Go.ChangeShapes Go.WideShapes Go.ChangeAt Go.RowKit Go.Sort
set_option linter.unusedVariables false
set_option linter.unusedSimpArgs false
theorem rdB_nonneg (nx : Int) (l : List Ck) : 0 ≤ rdB nx l := by
  unfold rdB; split
  · split
    · exact Int.le_refl _
    · split <;> omega
  · exact Int.le_refl _
/-- What taking hands back, in a row of the call's own. -/
def OutT2 (w : World) (nx : Int) (l : List Ck) (most : Int) (e : Ending) (w' : World) : Prop := ∃ A c, e = .returned (.tuple #[.string (tkS nx l most), .agg #[.int .i64 (tkN nx l most), .slice A (tkL nx l most).length c]]) ∧ Below w.heap.size w w' ∧ w'.ownsRow w.heap.size 46 2 (.slice A (tkL nx l most).length c) (tkL nx l most).length (encC (tkL nx l most))
theorem OutT2.out {w : World} {nx : Int} {l : List Ck} {most : Int} {e : Ending} {w' : World} (h : OutT2 w nx l most e w') : OutT w nx l most e w' := by
  obtain ⟨A, c, he, hb, ho⟩ := h
  exact ⟨A, c, he, hb, OwR.of_own ho⟩
theorem own_of_cells {w : World} {base b n cap : Nat} {cur : Array Value} {l : List Ck} (hl : l.length = n) (hb : base ≤ b) (hk : Bk w b 46 cur) (h1 : n ≤ cap) (h2 : cap ≤ maxLen) (h3 : cur.size = cap * 2) (h : ∀ (j : Nat) (u : Value), (encC l)[j]? = some u → cur[0 + j]? = some u) : w.ownsRow base 46 2 (.slice (some ⟨b, 0, none⟩) n cap) n (encC l) := by
  have he := encC_len l
  refine ⟨by rw [he, hl, Nat.mul_comm], .inr ⟨b, cap, cur, rfl, hb, hk, h1, h2, h3, ?_⟩⟩
  apply List.ext_getElem?
  intro j
  by_cases hj : j < (encC l).length
  · have := h j _ (List.getElem?_eq_getElem hj)
    rw [Nat.zero_add] at this
    rw [List.getElem?_eq_getElem hj, List.getElem?_take_of_lt (by omega), Array.getElem?_toList, this]
  · rw [List.getElem?_eq_none (l := encC l) (by omega), List.getElem?_eq_none (by rw [List.length_take]; omega)]
set_option maxRecDepth 20000 in
set_option maxHeartbeats 4000000 in
theorem sTake2 {A : Option Addr} {c n : Nat} {w : World} {B : Nat} {l : List Ck} (nx most : Int) (hnx : (Lit.int .i64 nx).wf = true) (hB : B ≤ w.heap.size) (hr : Rd w B A (encC l)) (hm : n ≤ 1048576) (HL : Hid (l.length = n)) (hd : ∀ k, k < n → (l.getD k ck0).2.size ≤ 1048576) (hw : ∀ k, k < n → (Lit.int .i64 (l.getD k ck0).1).wf = true) (hca : A = none → c = 0) :
    Calls Try.prog 7 #[.agg #[.int .i64 nx, .slice A n c], .int .i64 most] w (OutT2 w nx l most) := by
  have hb0 := bbox w (.int .i64 nx) (.slice A n c) 28
  have hk0 : Bk (w.alloc (.cells #[.int .i64 nx, .slice A n c] 28)) w.heap.size 28 #[.int .i64 nx, .slice A n c] := heap_alloc_new w _
  have hs0 : (w.alloc (.cells #[.int .i64 nx, .slice A n c] 28)).heap.size = w.heap.size + 1 := by simp
  have HB0 := Lib.hid hb0; have HK0 := Lib.hid hk0; have HS0 := Lib.hid hs0
  clear hb0 hk0 hs0
  go_enter Try.func7, Try.ntmps7
  go_upto_region 1 with (fail)
  have hb0 := HB0.out; have hk0 := HK0.out; have hs0 := HS0.out
  clear HB0 HK0 HS0
  generalize w.alloc (.cells #[.int .i64 nx, .slice A n c] 28) = w0 at hb0 hk0 hs0 ⊢
  have kr : Bk (w0.alloc (.cells #[.int .i64 0, .slice none 0 0] 28)) (w.heap.size + 1) 28 #[.int .i64 0, .slice none 0 0] := by rw [← hs0]; exact heap_alloc_new w0 _
  have al := bbox w0 (.int .i64 0) (.slice none 0 0) 28
  have kb := hk0.below al hk0.lt
  have hb := below_next hb0 hb0.size al
  clear al hk0 hb0
  generalize w0.alloc (.cells #[.int .i64 0, .slice none 0 0] 28) = w1 at kr kb hb ⊢
  clear hs0
  obtain ⟨b0, b1⟩ := kb.two
  have hlt1 := kb.lt
  have hltr := kr.lt
  obtain ⟨r, hrd⟩ : ∃ r, rdB nx l = r := ⟨_, rfl⟩
  have hr0 : 0 ≤ r := by rw [← hrd]; exact rdB_nonneg nx l
  have hReady := fun W (h : Below w.heap.size w W) => by
    have := sReady (c := c) (w := W) (B := B) nx hnx (Nat.le_trans hB h.size) (hr.below h hB) hm HL hd hw
    rw [hrd] at this; exact this
  have HRD := Lib.hid hrd
  clear hrd
  obtain ⟨m0, hm0⟩ : ∃ m0 : Int, max (tkM nx l most) 0 = m0 := ⟨_, rfl⟩
  have HM0 := Lib.hid hm0
  have hq : m0 = min r (max most 0) := by rw [← hm0]; unfold tkM; rw [HRD.out]; omega
  clear hm0
  have HQ := Lib.hid hq
  clear hq
  go_cut [6] from 9 to 13 (fun u wx => u = .int .i64 m0 ∧ Below w1.heap.size w1 wx)
  case first =>
    go_wp2_with (go_at_call 23; refine (hReady _ hb).mono ?_; rintro e w2 ⟨rfl, hb2⟩)
    all_goals go_meet
    all_goals exact ⟨congrArg (Value.int .i64) (by have := HQ.out; omega), hb2⟩
  case rest =>
  obtain ⟨rfl, hbc⟩ := hcut
  replace kb := kb.below hbc hlt1
  replace kr := kr.below hbc hltr
  replace hb := below_next hb hb.size hbc
  clear hReady b0 b1 hlt1 hltr hbc
  obtain ⟨b0, b1⟩ := kb.two
  have hlt1 := kb.lt
  have hltr := kr.lt
  generalize wc = w1 at kr kb hb b0 b1 hlt1 hltr ⊢
  have hCopy := sCopyB (w := w1) (B := B) nx (Nat.le_trans hB hb.size) (hr.below hb hB) (by omega) HL hca
  go_upto_region 2 with (fail)
  go_cut [7] from 14 to 15 (fun o wx => ∃ (gO : Nat) (A2 : Option Addr) (c2 : Nat), o = .pointer (some ⟨gO, 0, none⟩) ∧ Bk wx gO 28 #[.int .i64 nx, .slice A2 l.length c2] ∧ Bk wx (w.heap.size + 1) 28 #[.int .i64 0, .slice none 0 0] ∧ Below w.heap.size w wx ∧ wx.ownsRow (w.heap.size + 2) 46 2 (.slice A2 l.length c2) l.length (encC l) ∧ w.heap.size + 1 < gO ∧ ∀ k, (Value.slice A2 l.length c2).ownBlock = some k → k ≠ gO)
  case first =>
    go_wp2_with (go_at_call 24; refine hCopy.mono ?_; rintro e w2 ⟨A2, c2, rfl, hb2, ho2⟩; have hw2 := below_next hb hb.size hb2; have kr2 := kr.below hb2 hltr; have hoL := own_lower ho2 (show w.heap.size + 2 ≤ w1.heap.size from hltr))
    go_meet
    exact ⟨w2.heap.size, A2, c2, rfl, heap_alloc_new w2 _, kr2.below (bbox w2 (.int .i64 nx) (.slice A2 l.length c2) 28) kr2.lt, below_next hw2 hw2.size (bbox w2 (.int .i64 nx) (.slice A2 l.length c2) 28), own_step hoL (bbox w2 (.int .i64 nx) (.slice A2 l.length c2) 28), kr2.lt, fun k hk => Nat.ne_of_lt (hoL.lt k hk).2⟩
  case rest =>
  obtain ⟨gO, A2, c2, rfl, kO, kr, hb, ho, hlO, hne⟩ := hcut
  clear hCopy b0 b1
  obtain ⟨o0, o1⟩ := kO.two
  have fo := kO.frozen
  have fr := kr.frozen
  obtain ⟨r0, r1⟩ := kr.two
  have n1 : (gO = w.heap.size + 1) = False := by simp; omega
  have n2 : (w.heap.size + 1 = gO) = False := by simp; omega
  have hd' : ∀ k, k < l.length → (l.getD k ck0).2.size ≤ 1048576 := fun k hk => hd k (by rw [← HL.out]; exact hk)
  clear hd hw
  by_cases hM : tkM nx l most ≤ 0
  · have hz : m0 = 0 := by have := HM0.out; omega
    subst hz
    go_wp2
    go_region
    go_wp2
    have e1 : tkS nx l most = ⟨#[]⟩ := by unfold tkS; rw [if_pos hM]
    have e2 : tkN nx l most = nx := by unfold tkN; rw [if_pos hM]
    have e3 : tkL nx l most = l := by unfold tkL; rw [if_pos hM]
    have hof := own_other ho (only_setCell (only_setCell (grown_refl wc (some (w.heap.size + 1))) 0 (.int .i64 nx)) 1 (.slice A2 l.length c2)) (fun k hk e => by injection hk with hk; have := (ho.lt k e).1; omega)
    exact bodyPost_ret (results_tbf rfl _ _ (w.heap.size + 1) #[.int .i64 nx, .slice A2 l.length c2] rfl (kr.set2 (.int .i64 nx) (.slice A2 l.length c2)) rfl) rfl ⟨A2, c2, by rw [e1, e2, e3]; rfl, (below_set2 hb (Nat.le_succ _) (.int .i64 nx) (.slice A2 l.length c2)).drew, by rw [e3]; exact own_lower hof.drew (by omega)⟩
  · obtain ⟨hbf, hl0, hx0, hm0, hm1, hmx, hnx0⟩ := tk_pos hM
    obtain ⟨m, hmm⟩ := Int.eq_ofNat_of_zero_le (Int.le_of_lt hm0)
    have hz : m0 = (m : Int) := by have := HM0.out; omega
    subst hz
    rcases ho.2 with ⟨hv, hz⟩ | ⟨b, cap, cur, hv, hbb, hcb, hcap, hcm, hcs, _⟩
    · exact absurd hz hl0
    injection hv with hv1 hv2 hv3
    subst hv1 hv3
    have kC : Bk wc b 46 cur := hcb
    have hbO : b ≠ gO := hne b rfl
    have hdata := hd' 0 (by omega)
    obtain ⟨d, hdd⟩ : ∃ d, (l.getD 0 ck0).2 = d := ⟨_, rfl⟩
    rw [hdd] at hm1 hmx hdata
    have q0 : wc.cell? ⟨b, 0, none⟩ = some (.int .i64 nx) := by
      have := ho.cells (g := b) rfl 0 _ (encC_lo l 0 (by omega))
      rw [hx0] at this; exact this
    have q1 : wc.cell? ⟨b, 1, none⟩ = some (.string d) := by
      have := ho.cells (g := b) rfl 1 _ (encC_hi l 0 (by omega))
      rw [hdd] at this; exact this
    have fC := kC.frozen
    rw [hmm] at hm0 hm1
    have g1 : m ≤ d.size := by omega
    have g2 : (m : Int) ≤ (d.size : Int) := by omega
    have g3 : 0 < l.length := by omega
    have g4 : (0 : Int) < (l.length : Int) := by omega
    have g5 : IntKind.i64.wrap (nx + (m : Int)) = nx + (m : Int) := IntWalk.i64_in _ (by omega)
    have HMM := Lib.hid hmm
    have HHM := Lib.hid hM
    clear hmm hM
    have hbr : b ≠ w.heap.size + 1 := by omega
    have hcells : ∀ (j : Nat) (x : Value), (encC l)[j]? = some x → cur[j]? = some x := fun j x hx => by
      have hc := ho.cells (g := b) rfl j x hx
      have : (⟨b, 0, none⟩ : Addr).add j = ⟨b, 0 + j, none⟩ := by unfold Addr.add; split <;> simp_all
      rw [this, kC.cell, Nat.zero_add] at hc
      exact hc
    have HCELLS := Lib.hid hcells
    clear hcells
    have e00 : ((m : Int) == 0) = false := by simp; omega
    have e1 : tkS nx l most = d.extract 0 m := by unfold tkS; rw [if_neg (show ¬ tkM nx l most ≤ 0 by have := HMM.out; omega), HMM.out, hdd, Int.toNat_natCast]
    have e2 : tkN nx l most = nx + (m : Int) := by unfold tkN; rw [if_neg (show ¬ tkM nx l most ≤ 0 by have := HMM.out; omega), HMM.out]
    have E1 := Lib.hid e1; have E2 := Lib.hid e2
    clear e1 e2
    by_cases hmd : m = d.size
    · have HMD := Lib.hid hmd
      have e0 : ((m : Int) == (d.size : Int)) = true := by simp; omega
      clear hmd
      have e3 : tkL nx l most = l.tail := by unfold tkL; rw [if_neg (show ¬ tkM nx l most ≤ 0 by have := HMM.out; omega), HMM.out, hdd, if_pos (by have := HMD.out; omega)]
      have e4 : l.tail.length = l.length - 1 := List.length_tail
      have E3 := Lib.hid e3; have E4 := Lib.hid e4
      clear e3 e4
      by_cases hc1 : c2 = 1
      · subst hc1
        have kr1 : Bk ((wc.setCell ⟨gO, 0, none⟩ (.int .i64 (nx + (m : Int)))).setCell ⟨gO, 1, none⟩ (.slice (some ⟨b, 0, none⟩) 0 0)) (w.heap.size + 1) 28 #[.int .i64 0, .slice none 0 0] := (kr.setO (i := 0) (show w.heap.size + 1 ≠ gO by omega) (.int .i64 (nx + (m : Int)))).setO (i := 1) (show w.heap.size + 1 ≠ gO by omega) (.slice (some ⟨b, 0, none⟩) 0 0)
        have hrd1 : Rd ((wc.setCell ⟨gO, 0, none⟩ (.int .i64 (nx + (m : Int)))).setCell ⟨gO, 1, none⟩ (.slice (some ⟨b, 0, none⟩) 0 0)) wc.heap.size (some ⟨b, 0, none⟩) (encC l.tail) := by
          intro j u hu
          have hk := (kC.setO (i := 0) hbO (.int .i64 (nx + (m : Int)))).setO (i := 1) hbO (.slice (some ⟨b, 0, none⟩) 0 0)
          have hlt := kC.lt
          refine ⟨b, 0, rfl, hlt, (hk.cell _).trans ?_⟩
          rw [List.eq_nil_of_length_eq_zero (show l.tail.length = 0 by rw [E4.out]; omega)] at hu; cases hu
        have hb1 := below_set2 hb (show w.heap.size ≤ gO by omega) (.int .i64 (nx + (m : Int))) (.slice (some ⟨b, 0, none⟩) 0 0)
        have hlt1 : Hid (l.tail.length = 0) := Lib.hid (by rw [E4.out]; omega)
        have hlb1 : 0 ≤ 1048577 := by have := HL.out; omega
        have hsz1 : w.heap.size + 1 < ((wc.setCell ⟨gO, 0, none⟩ (.int .i64 (nx + (m : Int)))).setCell ⟨gO, 1, none⟩ (.slice (some ⟨b, 0, none⟩) 0 0)).heap.size := kr1.lt
        have HRD1 := Lib.hid hrd1; have HB1 := Lib.hid hb1; have HLB := Lib.hid hlb1; have HLT := hlt1; have HSZ := Lib.hid hsz1; have KR1 := Lib.hid kr1
        clear hrd1 hb1 hlb1 hsz1 kr1
        go_wp2_with (go_at_call 24; refine (sCopyB (B := wc.heap.size) (l := l.tail) (nx + (m : Int)) (by simp) HRD1.out HLB.out HLT (fun e => by cases e)).mono ?_; rintro e w5 ⟨A5, c5, he, hb5, ho5⟩; rw [HLT.out] at he ho5; subst he; have kr5 := Lib.hid ((KR1.out).below hb5 KR1.out.lt); have hb6 := Lib.hid (below_next HB1.out HB1.out.size hb5); have HO5 := Lib.hid ho5; have fr5 := kr5.out.frozen; obtain ⟨r05, r15⟩ := kr5.out.two; clear hb5 ho5)
        have hof := own_other HO5.out (only_setCell (only_setCell (grown_refl w5 (some (w.heap.size + 1))) 0 (.int .i64 (nx + (m : Int)))) 1 (.slice A5 0 c5)) (fun k hk e => by injection hk with hk; have := (HO5.out.lt k e).1; have := HSZ.out; omega)
        exact bodyPost_ret (results_tbf rfl _ _ (w.heap.size + 1) #[(.int .i64 (nx + (m : Int))), .slice A5 0 c5] rfl (kr5.out.set2 (.int .i64 (nx + (m : Int))) (.slice A5 0 c5)) rfl) rfl ⟨A5, c5, by rw [E1.out, E2.out, E3.out, HLT.out, HMD.out, ByteArray.extract_zero_size]; rfl, (below_set2 hb6.out (Nat.le_succ _) (.int .i64 (nx + (m : Int))) (.slice A5 0 c5)), by rw [E3.out, HLT.out]; exact own_lower hof (by have := HSZ.out; omega)⟩
      · have hc2 : 1 < c2 := by omega
        have hc3 : (1 : Int) < (c2 : Int) := by omega
        have kr1 : Bk ((wc.setCell ⟨gO, 0, none⟩ (.int .i64 (nx + (m : Int)))).setCell ⟨gO, 1, none⟩ (.slice (some ⟨b, 2, none⟩) (l.length - 1) (c2 - 1))) (w.heap.size + 1) 28 #[.int .i64 0, .slice none 0 0] := (kr.setO (i := 0) (show w.heap.size + 1 ≠ gO by omega) (.int .i64 (nx + (m : Int)))).setO (i := 1) (show w.heap.size + 1 ≠ gO by omega) (.slice (some ⟨b, 2, none⟩) (l.length - 1) (c2 - 1))
        have hrd1 : Rd ((wc.setCell ⟨gO, 0, none⟩ (.int .i64 (nx + (m : Int)))).setCell ⟨gO, 1, none⟩ (.slice (some ⟨b, 2, none⟩) (l.length - 1) (c2 - 1))) wc.heap.size (some ⟨b, 2, none⟩) (encC l.tail) := by
          intro j u hu
          have hk := (kC.setO (i := 0) hbO (.int .i64 (nx + (m : Int)))).setO (i := 1) hbO (.slice (some ⟨b, 2, none⟩) (l.length - 1) (c2 - 1))
          have hlt := kC.lt
          refine ⟨b, 2, rfl, hlt, (hk.cell _).trans ?_⟩
          exact tail_cells HCELLS.out hl0 j u hu
        have hb1 := below_set2 hb (show w.heap.size ≤ gO by omega) (.int .i64 (nx + (m : Int))) (.slice (some ⟨b, 2, none⟩) (l.length - 1) (c2 - 1))
        have hlt1 : Hid (l.tail.length = l.length - 1) := Lib.hid (by rw [E4.out])
        have hlb1 : (l.length - 1) ≤ 1048577 := by have := HL.out; omega
        have hsz1 : w.heap.size + 1 < ((wc.setCell ⟨gO, 0, none⟩ (.int .i64 (nx + (m : Int)))).setCell ⟨gO, 1, none⟩ (.slice (some ⟨b, 2, none⟩) (l.length - 1) (c2 - 1))).heap.size := kr1.lt
        have HRD1 := Lib.hid hrd1; have HB1 := Lib.hid hb1; have HLB := Lib.hid hlb1; have HLT := hlt1; have HSZ := Lib.hid hsz1; have KR1 := Lib.hid kr1
        clear hrd1 hb1 hlb1 hsz1 kr1
        go_wp2_with (go_at_call 24; refine (sCopyB (B := wc.heap.size) (l := l.tail) (nx + (m : Int)) (by simp) HRD1.out HLB.out HLT (fun e => by cases e)).mono ?_; rintro e w5 ⟨A5, c5, he, hb5, ho5⟩; rw [HLT.out] at he ho5; subst he; have kr5 := Lib.hid ((KR1.out).below hb5 KR1.out.lt); have hb6 := Lib.hid (below_next HB1.out HB1.out.size hb5); have HO5 := Lib.hid ho5; have fr5 := kr5.out.frozen; obtain ⟨r05, r15⟩ := kr5.out.two; clear hb5 ho5)
        have hof := own_other HO5.out (only_setCell (only_setCell (grown_refl w5 (some (w.heap.size + 1))) 0 (.int .i64 (nx + (m : Int)))) 1 (.slice A5 (l.length - 1) c5)) (fun k hk e => by injection hk with hk; have := (HO5.out.lt k e).1; have := HSZ.out; omega)
        exact bodyPost_ret (results_tbf rfl _ _ (w.heap.size + 1) #[(.int .i64 (nx + (m : Int))), .slice A5 (l.length - 1) c5] rfl (kr5.out.set2 (.int .i64 (nx + (m : Int))) (.slice A5 (l.length - 1) c5)) rfl) rfl ⟨A5, c5, by rw [E1.out, E2.out, E3.out, HLT.out, HMD.out, ByteArray.extract_zero_size]; rfl, (below_set2 hb6.out (Nat.le_succ _) (.int .i64 (nx + (m : Int))) (.slice A5 (l.length - 1) c5)), by rw [E3.out, HLT.out]; exact own_lower hof (by have := HSZ.out; omega)⟩
    · have HMD := Lib.hid hmd
      have e0 : ((m : Int) == (d.size : Int)) = false := by simp; omega
      clear hmd
      go_wp2_with fail
      go_region
      go_wp2_with fail
      go_region
      go_wp2
      have kC4 := ((((kC.setO (i := 0) hbO (.int .i64 (nx + (m : Int)))).set_ 0 (.int .i64 (nx + (m : Int)))).set_ 1 (.string (d.extract m d.size))).setO (i := 0) hbr (.int .i64 (nx + (m : Int)))).setO (i := 1) hbr (.slice (some ⟨b, 0, none⟩) l.length c2)
      have kr2 := ((kr.setO (i := 0) (show w.heap.size + 1 ≠ gO by omega) (.int .i64 (nx + (m : Int)))).setO (g' := b) (i := 0) (fun e => hbr e.symm) (.int .i64 (nx + (m : Int)))).setO (g' := b) (i := 1) (fun e => hbr e.symm) (.string (d.extract m d.size))
      have hb4 := (below_set2 (below_set2 (hb.setCell (p := ⟨gO, 0, none⟩) (show w.heap.size ≤ gO by omega) (.int .i64 (nx + (m : Int)))) (show w.heap.size ≤ b by omega) (.int .i64 (nx + (m : Int))) (.string (d.extract m d.size))) (Nat.le_succ _) (.int .i64 (nx + (m : Int))) (.slice (some ⟨b, 0, none⟩) l.length c2)).drew.drew
      have e3 : tkL nx l most = (nx + (m : Int), d.extract m d.size) :: l.tail := by unfold tkL; rw [if_neg (show ¬ tkM nx l most ≤ 0 by have := HMM.out; omega), HMM.out, hdd, if_neg (by have := HMD.out; omega), Int.toNat_natCast]
      have e4 : ((nx + (m : Int), d.extract m d.size) :: l.tail).length = l.length := by rw [List.length_cons, List.length_tail]; omega
      exact bodyPost_ret (results_tbf rfl _ _ (w.heap.size + 1) #[(.int .i64 (nx + (m : Int))), .slice (some ⟨b, 0, none⟩) l.length c2] rfl (kr2.set2 (.int .i64 (nx + (m : Int))) (.slice (some ⟨b, 0, none⟩) l.length c2)) rfl) rfl ⟨some ⟨b, 0, none⟩, c2, by rw [E1.out, E2.out, e3, e4]; rfl, hb4, by rw [e3, e4]; exact own_of_cells e4 (by omega) kC4 hcap hcm (by simp only [Array.size_setIfInBounds]; exact hcs) (head_cells HCELLS.out hl0 (by omega))⟩
theorem sTake {A : Option Addr} {c n : Nat} {w : World} {B : Nat} {l : List Ck} (nx most : Int) (hnx : (Lit.int .i64 nx).wf = true) (hB : B ≤ w.heap.size) (hr : Rd w B A (encC l)) (hm : n ≤ 1048576) (HL : Hid (l.length = n)) (hd : ∀ k, k < n → (l.getD k ck0).2.size ≤ 1048576) (hw : ∀ k, k < n → (Lit.int .i64 (l.getD k ck0).1).wf = true) (hca : A = none → c = 0) :
    Calls Try.prog 7 #[.agg #[.int .i64 nx, .slice A n c], .int .i64 most] w (OutT w nx l most) :=
  (sTake2 nx most hnx hB hr hm HL hd hw hca).mono fun _ _ h => h.out
end Go.Proofs.Ytnndhkdigmkddaa
