/- What the law draws from a code: buffers. No conditions. -/
import Derived.Test.YtnndhkdigmkddaaDB0
import Derived.Test.YtnndhkdigmkddaaDT
import Derived.Deep.RegionLaw
import Derived.Deep.Cut
import Derived.Deep.CutRange
namespace Go.Proofs.Ytnndhkdigmkddaa
open Go.ChangeShapes Go.WideShapes Go.ChangeAt Go.RowKit Go.Sort
set_option linter.unusedVariables false
set_option linter.unusedSimpArgs false
/-- Memory of the loop that draws a buffer. -/
structure InvL (w wr : World) (g : Nat) (nx : Int) (v : Value) (L : List Ck) : Prop where
  kr : Bk wr w.heap.size 28 #[.int .i64 0, .slice none 0 0]
  kb : Bk wr (w.heap.size + 1) 28 #[.int .i64 nx, v]
  own : wr.ownsRow (w.heap.size + 2) 46 2 v L.length (encC L)
  sm : SmB L
  cur : Cur wr g
  gr : w.grownBy wr (some g)
  gl : g < w.heap.size
theorem InvL.draw {w wr w1 : World} {g : Nat} {nx : Int} {v : Value} {L : List Ck} (h : InvL w wr g nx v L) (hc : Cur w1 g) (hg : wr.grownBy w1 (some g)) : InvL w w1 g nx v L := by
  have gl := h.gl
  exact ⟨h.kr.grown hg (fun e => by injection e; omega), h.kb.grown hg (fun e => by injection e; omega), own_other h.own hg (fun k hk e => by injection hk with hk; have := (h.own.lt k e).1; omega), h.sm, hc, grown_trans h.gr hg, gl⟩
theorem InvL.below {w wr w1 : World} {g : Nat} {nx : Int} {v : Value} {L : List Ck} (h : InvL w wr g nx v L) (hb : Below wr.heap.size wr w1) : InvL w w1 g nx v L :=
  h.draw (cur_step h.cur hb) (gb_of_below hb _)
theorem gb_set {w : World} {g' g i : Nat} {u : Value} {w0 : World} (h : w0.grownBy w (some g)) (hg : w0.heap.size ≤ g') : w0.grownBy (w.setCell ⟨g', i, none⟩ u) (some g) :=
  ⟨h.os, h.tape, h.output, by simpa using h.size, fun k hk hne => (Below.heap_setCell w ⟨g', i, none⟩ u k (by show k ≠ g'; omega)).trans (h.block k hk hne)⟩
theorem Cur.set {w : World} {g g' i : Nat} {u : Value} (h : Cur w g) (hne : g < g') : Cur (w.setCell ⟨g', i, none⟩ u) g :=
  h.below ((Below.refl g' w).setCell (p := ⟨g', i, none⟩) (Nat.le_refl _) u) hne
theorem InvL.put {w wr w1 : World} {g : Nat} {nx nx' : Int} {v v' : Value} {L L' : List Ck} (h : InvL w wr g nx v L) (hb : Below wr.heap.size wr w1) (ho : w1.ownsRow (w.heap.size + 2) 46 2 v' L'.length (encC L')) (hsm : SmB L') :
    InvL w ((w1.setCell ⟨w.heap.size + 1, 0, none⟩ (.int .i64 nx')).setCell ⟨w.heap.size + 1, 1, none⟩ v') g nx' v' L' := by
  have h1 := h.below hb
  have gl := h.gl
  refine ⟨(h1.kr.setO (by omega) _).setO (by omega) _, h1.kb.set2 _ _, ?_, hsm, (h1.cur.set (by omega)).set (by omega), gb_set (gb_set h1.gr (by omega)) (by omega), gl⟩
  exact own_other ho (only_setCell (only_setCell (grown_refl w1 (some (w.heap.size + 1))) 0 (.int .i64 nx')) 1 v') (fun k hk e => by injection hk with hk; have := (ho.lt k e).1; omega)
/-- A small buffer is drawn, into a row of the call's own. -/
def DrawBf (w : World) (g : Nat) (e : Ending) (w' : World) : Prop := ∃ nx A c L, e = .returned (.agg #[.int .i64 nx, .slice A (L : List Ck).length c]) ∧ (Lit.int .i64 nx).wf = true ∧ L.length ≤ 16 ∧ SmB L ∧ w'.ownsRow w.heap.size 46 2 (.slice A L.length c) L.length (encC L) ∧ Cur w' g ∧ w.grownBy w' (some g)
theorem none_zero {w : World} {base size n c : Nat} {e : TypeId} {A : Option Addr} {xs : List Value} (h : w.ownsRow base e size (.slice A n c) n xs) : A = none → c = 0 := by
  intro hA
  rcases h.2 with ⟨hv, _⟩ | ⟨g, cap, cur, hv, _⟩
  · injection hv
  · injection hv with e1; rw [hA] at e1; cases e1
theorem InvL.out {w wr : World} {g : Nat} {nx : Int} {A : Option Addr} {c : Nat} {L : List Ck} (h : InvL w wr g nx (.slice A L.length c) L) (hwf : (Lit.int .i64 nx).wf = true) (hl : L.length ≤ 16) :
    DrawBf w g (.returned (.agg #[.int .i64 nx, .slice A L.length c])) ((wr.setCell ⟨w.heap.size, 0, none⟩ (.int .i64 nx)).setCell ⟨w.heap.size, 1, none⟩ (.slice A L.length c)) :=
  ⟨nx, A, c, L, rfl, hwf, hl, h.sm, own_lower (own_other h.own (only_setCell (only_setCell (grown_refl wr (some w.heap.size)) 0 (.int .i64 nx)) 1 (.slice A L.length c)) (fun k hk e => by injection hk with hk; have := (h.own.lt k e).1; omega)) (by omega), (h.cur.set h.gl).set h.gl, gb_set (gb_set h.gr (Nat.le_refl _)) (Nat.le_refl _)⟩
theorem InvL.put0 {w wr w1 : World} {g : Nat} {nx : Int} {v : Value} {L : List Ck} (h : InvL w wr g nx v L) (nx' : Int) : InvL w (wr.setCell ⟨w.heap.size + 1, 0, none⟩ (.int .i64 nx')) g nx' v L := by
  have gl := h.gl
  refine ⟨h.kr.setO (by omega) _, by simpa using h.kb.set_ 0 (.int .i64 nx'), own_other h.own (only_setCell (grown_refl wr (some (w.heap.size + 1))) 0 (.int .i64 nx')) (fun k hk e => by injection hk with hk; have := (h.own.lt k e).1; omega), h.sm, h.cur.set (by omega), gb_set h.gr (by omega), gl⟩
theorem InvL.put1 {w wr w1 : World} {g : Nat} {nx : Int} {v v' : Value} {L : List Ck} (h : InvL w wr g nx v L) (x : Int) (s : ByteArray) (hx : 0 ≤ x) (hs : x + (s.size : Int) ≤ 64) (ho : w1.ownsRow (w.heap.size + 2) 46 2 v' (L.length + 1) (encC L ++ [.int .i64 x, .string s])) (hg : wr.grownBy w1 v.ownBlock) :
    InvL w (w1.setCell ⟨w.heap.size + 1, 1, none⟩ v') g nx v' (L ++ [(x, s)]) := by
  have gl := h.gl
  have hne : ∀ k, v.ownBlock = some k → w.heap.size + 2 ≤ k := fun k hk => (h.own.lt k hk).1
  have kr := h.kr.grown hg (fun e => by have := hne _ e.symm; omega)
  have kb := h.kb.grown hg (fun e => by have := hne _ e.symm; omega)
  have hc : Cur w1 g := by
    obtain ⟨A, c, n, l, i, hh, hk, hr, e⟩ := h.cur
    exact ⟨A, c, n, l, i, hh, hk.grown hg (fun e => by have := hne _ e.symm; omega), fun j u hu => by
      obtain ⟨b, o, e1, e2, e3⟩ := hr j u hu
      exact ⟨b, o, e1, e2, hg.cell (a := ⟨b, o + j, none⟩) e3 (fun e => by have := hne _ e.symm; simp only at this; omega)⟩, e⟩
  have gr : w.grownBy w1 (some g) := ⟨hg.os.trans h.gr.os, hg.tape.trans h.gr.tape, hg.output.trans h.gr.output, Nat.le_trans h.gr.size hg.size, fun k hk hn => (hg.block k (Nat.lt_of_lt_of_le hk h.gr.size) (fun e => by have := hne _ e.symm; omega)).trans (h.gr.block k hk hn)⟩
  refine ⟨kr.setO (by omega) _, by simpa using kb.set_ 1 v', ?_, h.sm.snoc hx hs, hc.set (by omega), gb_set gr (by omega), gl⟩
  rw [encC_snoc, List.length_append]
  exact own_other ho (only_setCell (grown_refl w1 (some (w.heap.size + 1))) 1 v') (fun k hk e => by injection hk with hk; have := (ho.lt k e).1; omega)
theorem pick_wf {x : Int} (h : x ∈ [(-1 : Int), 30, 4611686018427387903, 4611686018427387904]) : (Lit.int .i64 x).wf = true := by
  simp only [List.mem_cons, List.not_mem_nil, or_false] at h
  rcases h with rfl | rfl | rfl | rfl <;> rfl
set_option maxRecDepth 20000 in
set_option maxHeartbeats 4000000 in
theorem l6Buffer_any {w : World} {g : Nat} (hc : Cur w g) : Calls Try.prog 39 #[.pointer (some ⟨g, 0, none⟩)] w (DrawBf w g) := by
  have hgl := hc.lt
  obtain ⟨i0, hi, hz0, hz1, hz2⟩ := info_parts info_chk
  have HI := Lib.hid hi; have HZ0 := Lib.hid hz0; have HZ1 := Lib.hid hz1; have HZ2 := Lib.hid hz2
  clear hi hz0 hz1 hz2
  go_enter Try.func39, Try.ntmps39
  go_upto_region 2 with (fail)
  have V0 : InvL w ((w.alloc (.cells #[.int .i64 0, .slice none 0 0] 28)).alloc (.cells #[.int .i64 0, .slice none 0 0] 28)) g 0 (.slice none 0 0) [] := by
    have a1 := bbox w (.int .i64 0) (.slice none 0 0) 28
    have k1 : Bk (w.alloc (.cells #[.int .i64 0, .slice none 0 0] 28)) w.heap.size 28 #[.int .i64 0, .slice none 0 0] := heap_alloc_new w _
    have s1 : (w.alloc (.cells #[.int .i64 0, .slice none 0 0] 28)).heap.size = w.heap.size + 1 := by simp
    generalize w.alloc (.cells #[.int .i64 0, .slice none 0 0] 28) = w1 at a1 k1 s1 ⊢
    have a2 := bbox w1 (.int .i64 0) (.slice none 0 0) 28
    have hb := below_next a1 a1.size a2
    exact ⟨k1.below a2 k1.lt, by rw [← s1]; exact heap_alloc_new w1 _, ⟨rfl, .inl ⟨rfl, rfl⟩⟩, SmB.nil, hc.below hb hgl, gb_of_below hb _, hgl⟩
  have HV0 := Lib.hid V0
  clear V0
  generalize (w.alloc (.cells #[.int .i64 0, .slice none 0 0] 28)).alloc (.cells #[.int .i64 0, .slice none 0 0] 28) = w0 at HV0 ⊢
  have n1 : (w.heap.size = w.heap.size + 1) = False := by simp
  have n2 : (w.heap.size + 1 = w.heap.size) = False := by simp
  go_wp2_with fail
  refine (l1Below_any 7 (by decide) (by decide) HV0.out.cur).mono ?_
  rintro e w1 ⟨⟨k0, ⟨hk0, hk1⟩, rfl⟩, hc1, hg1⟩
  obtain ⟨k0, rfl⟩ := Int.eq_ofNat_of_zero_le hk0
  have HV1 := Lib.hid (HV0.out.draw hc1 hg1)
  clear HV0 hc1 hg1 hc
  go_wp2_with fail
  go_loopw [4] (fun i wr => ∃ (k : Nat) (nx : Int) (A : Option Addr) (c : Nat) (L : List Ck), i = .int .i64 k ∧ k + L.length ≤ 7 ∧ 0 ≤ nx ∧ nx ≤ 64 ∧ InvL w wr g nx (.slice A L.length c) L) (fun i _ => (intOf i).toNat)
  case atStart => exact ⟨k0, 0, none, 0, [], rfl, by simp; omega, by decide, by decide, HV1.out⟩
  case round =>
    obtain ⟨k, nx, A, c, L, rfl, hkL, hx0, hx1, hinv⟩ := hrel
    have HV := Lib.hid hinv
    clear hinv HV1
    have hwx : (Lit.int .i64 nx).wf = true := by simp [Lit.wf, IntKind.min, IntKind.max, IntKind.signed, IntKind.bits]; omega
    obtain ⟨hdd, hww⟩ := HV.out.sm.at_ rfl
    have HD := Lib.hid hdd; have HW := Lib.hid hww; have HX := Lib.hid hwx
    have HKL := Lib.hid hkL
    have hk7 : k ≤ 7 := by omega
    clear hdd hww hwx hkL
    by_cases h0 : 0 < k
    · have hd0 : decide ((0 : Int) < (k : Int)) = true := by simp; omega
      go_wp2_with fail
      refine (l1Below_any 14 (by decide) (by decide) HV.out.cur).mono ?_
      rintro e w2 ⟨⟨o, ⟨ho0, ho1⟩, rfl⟩, hc2, hg2⟩
      have HV2 := Lib.hid (HV.out.draw hc2 hg2)
      clear HV hc2 hg2
      obtain ⟨b0, b1⟩ := HV2.out.kb.two
      have HCD := Lib.hid (show Cur w2.drew g from HV2.out.cur)
      go_wp2_with fail
      go_cut [5] from 9 to 28 (fun u wx => u = .int .i64 o ∧ ∃ (A' : Option Addr) (c' : Nat) (L' : List Ck), L'.length ≤ L.length + 1 ∧ InvL w wx g nx (.slice A' L'.length c') L')
      case first =>
        go_region_law (first
          | (go_simp; go_at_call 53; refine (l4Data_any (g := g) 4 (by decide) HCD.out).mono ?_; rintro e w3 ⟨⟨s, hs, rfl⟩, hc3, hg3⟩; have HV3 := Lib.hid ((HV2.out.below (show Below w2.heap.size w2 w2.drew from (Below.refl _ _).drew)).draw hc3 hg3); obtain ⟨d0, d1⟩ := HV3.out.kb.two)
          | (go_simp; go_at_call 13; refine (sIns (B := w3.heap.size) nx o s (by omega) HX.out (by omega) (by omega) (Nat.le_refl _) (own_rd HV3.out.own) (by have := HKL.out; omega) (Lib.hid rfl) HD.out HW.out (none_zero HV3.out.own)).mono ?_; rintro e w4 ⟨A4, c4, rfl, hb4, ho4⟩; have HV4 := Lib.hid (HV3.out.below hb4); have fb := HV4.out.kb.frozen; obtain ⟨f0, f1⟩ := HV4.out.kb.two))
        all_goals go_wp2_with fail
        all_goals go_meet
        all_goals exact ⟨rfl, A4, c4, insV nx L o s, insV_len nx L o s, HV3.out.put hb4 (own_lower ho4 (by have := HV3.out.kb.lt; omega)) (HV3.out.sm.insV hx0 hx1 ho0 (by omega))⟩
      case rest =>
      obtain ⟨rfl, A3, c3, L3, hL3, hinv3⟩ := hcut
      have HKL3 := Lib.hid (show (k - 1) + L3.length ≤ 7 by have := HKL.out; omega)
      have HV := Lib.hid hinv3
      clear hinv3 hL3 HKL HV2 HCD b0 b1 HD HW
      obtain ⟨hdd, hww⟩ := HV.out.sm.at_ rfl
      have HD := Lib.hid hdd; have HW := Lib.hid hww
      clear hdd hww
      go_wp2_with fail
      refine (l1Once_any 4 (by decide) (by decide) HV.out.cur).mono ?_
      rintro e w5 ⟨⟨bb, rfl⟩, hc5, hg5⟩
      have HV5 := Lib.hid (HV.out.draw hc5 hg5)
      clear HV hc5 hg5
      cases bb
      · go_wp2
        exact ⟨⟨k - 1, nx, A3, c3, L3, by go_num, HKL3.out, hx0, hx1, HV5.out⟩, by simp [intOf]; omega⟩
      · obtain ⟨b0, b1⟩ := HV5.out.kb.two
        have HCD := Lib.hid (show Cur w5.drew g from HV5.out.cur)
        go_wp2_with fail
        go_region_law (first
          | (go_simp; go_at_call 40; refine (l1Below_any 4 (by decide) (by decide) HCD.out).mono ?_; rintro e w6 ⟨⟨mo, ⟨hmo0, hmo1⟩, rfl⟩, hc6, hg6⟩; have HV6 := Lib.hid ((HV5.out.below (show Below w5.heap.size w5 w5.drew from (Below.refl _ _).drew)).draw hc6 hg6); obtain ⟨d0, d1⟩ := HV6.out.kb.two)
          | (go_simp; go_at_call 7; refine (sTake2 (B := w6.heap.size) nx mo HX.out (Nat.le_refl _) (own_rd HV6.out.own) (by have := HKL3.out; omega) (Lib.hid rfl) HD.out HW.out (none_zero HV6.out.own)).mono ?_; rintro e w7 ⟨A7, c7, rfl, hb7, ho7⟩; have HV7 := Lib.hid (HV6.out.below hb7); have fb := HV7.out.kb.frozen; obtain ⟨f0, f1⟩ := HV7.out.kb.two))
        all_goals have HTK := Lib.hid (HV6.out.sm.tk (most := mo) hx0 hx1)
        all_goals have HV8 := Lib.hid (HV6.out.put (nx' := tkN nx L3 mo) hb7 (own_lower ho7 (by have := HV6.out.kb.lt; omega)) HTK.out.1)
        all_goals have HLT := Lib.hid (show (k - 1) + (tkL nx L3 mo).length ≤ 7 by have := tkL_len' nx L3 mo; have := HKL3.out; omega)
        all_goals go_wp2
        all_goals exact ⟨⟨k - 1, tkN nx L3 mo, A7, c7, tkL nx L3 mo, by go_num, HLT.out, HTK.out.2.1, HTK.out.2.2, HV8.out⟩, by simp [intOf]; omega⟩
    · have hd0 : decide ((0 : Int) < (k : Int)) = false := by simp; omega
      go_wp2_with fail
      refine (l1Below_any 16 (by decide) (by decide) HV.out.cur).mono ?_
      rintro e w2 ⟨⟨z, ⟨hz0, hz1⟩, rfl⟩, hc2, hg2⟩
      have HV2 := Lib.hid (HV.out.draw hc2 hg2)
      clear HV hc2 hg2
      have HL16 := Lib.hid (show L.length + 1 ≤ 16 by have := HKL.out; omega)
      obtain ⟨b0, b1⟩ := HV2.out.kb.two
      have fb := HV2.out.kb.frozen
      rcases (show z = 0 ∨ z = 1 ∨ (z ≠ 0 ∧ z ≠ 1) by omega) with rfl | rfl | ⟨hza, hzb⟩
      · go_wp2_with fail
        have al := (Below.refl w2.heap.size w2).alloc (Nat.le_refl _) (.cells #[.int .i64 (-1), .int .i64 30, .int .i64 4611686018427387903, .int .i64 4611686018427387904] 3)
        have hr3 := lit_rd w2 3 (ints [-1, 30, 4611686018427387903, 4611686018427387904])
        have HV3 := Lib.hid (HV2.out.below al)
        refine (l1PickInt_any hr3 (fun b o e => by simp at e; have := HV2.out.kb.lt; have := HV2.out.gl; omega) rfl (by decide) (by decide) HV3.out.cur).mono ?_
        rintro e w4 ⟨⟨x, hx, rfl⟩, hc4, hg4⟩
        have HV4 := Lib.hid (HV3.out.draw hc4 hg4)
        have HV9 := Lib.hid (HV4.out.put0 (w1 := w4) x)
        clear hc4 hg4 hr3 al b0 b1 fb
        obtain ⟨b0, b1⟩ := HV4.out.kb.two
        obtain ⟨c0, c1⟩ := HV9.out.kb.two
        have fb := HV4.out.kb.frozen
        have fr := HV4.out.kr.frozen
        obtain ⟨r0, r1⟩ := HV4.out.kr.two
        go_wp2
        exact bodyPost_ret (results_bf rfl _ _ w.heap.size #[.int .i64 x, .slice A L.length c] rfl (HV9.out.kr.set2 (.int .i64 x) (.slice A L.length c)) rfl) rfl (HV9.out.out (pick_wf hx) (by have := HL16.out; omega))
      · go_wp2_with fail
        have HCD := Lib.hid (show Cur w2.drew g from HV2.out.cur)
        go_region_law (first
          | (go_simp; go_at_call 40; refine (l1Below_any 20 (by decide) (by decide) HCD.out).mono ?_; rintro e w3 ⟨⟨x, ⟨hx0, hx1⟩, rfl⟩, hc3, hg3⟩; have HV3 := Lib.hid ((HV2.out.below (show Below w2.heap.size w2 w2.drew from (Below.refl _ _).drew)).draw hc3 hg3); obtain ⟨d0, d1⟩ := HV3.out.kb.two)
          | (go_simp; go_at_call 53; refine (l4Data_any 3 (by decide) HV3.out.cur).mono ?_; rintro e w4 ⟨⟨s, hs, rfl⟩, hc4, hg4⟩; have HV4 := Lib.hid (HV3.out.draw hc4 hg4); obtain ⟨e0, e1⟩ := HV4.out.kb.two; have al4 := (Below.refl w4.heap.size w4).alloc (Nat.le_refl _) (.cells #[.int .i64 x, .string s] 46); have HV5 := Lib.hid (HV4.out.below al4); obtain ⟨q0, q1⟩ := HV5.out.kb.two)
          | (refine step_append_lies _ (by rfl) _ _ _ (by rfl) (w.heap.size + 2) 46 i0 _ 2 24 Try.underlying26 HI.out HZ0.out HZ1.out HZ2.out rfl (by omega) _ _ _ (by rfl) HV5.out.own ⟨w4.heap.size, 0, none⟩ 1 1 [.int .i64 x, .string s] (by rfl) (by rfl) (World.news_of_block (cs := #[.int .i64 x, .string s]) (t := 46) (fr := (0, 0)) (heap_alloc_new w4 _)) (by simp [Value.oneCell']) (by omega) (by have := HL16.out; unfold maxLen; omega) (by have := HL16.out; omega) (by have := HV5.out.kb.lt; omega) (w4.heap.size + 1) (by simp) ?_; intro gg7 cap7 w7 hown7 hgrow7 hat7 hlt7; have HV8 := Lib.hid (HV5.out.put1 x s hx0 (by omega) hown7 hgrow7); have kx7 := HV5.out.kb.grown hgrow7 (fun e => by have := (HV5.out.own.lt _ e.symm).1; omega); have fx := kx7.frozen; obtain ⟨x70, x71⟩ := kx7.two))
        all_goals have hle8 : (L ++ [(x, s)]).length = L.length + 1 := by rw [List.length_append]; rfl
        all_goals have HLE := Lib.hid hle8
        all_goals clear hle8
        all_goals have fr := HV8.out.kr.frozen
        all_goals obtain ⟨r0, r1⟩ := HV8.out.kr.two
        all_goals have fr9 := HV8.out.kb.frozen
        all_goals obtain ⟨r2, r3⟩ := HV8.out.kb.two
        all_goals go_wp2
        all_goals exact bodyPost_ret (results_bf rfl _ _ w.heap.size #[.int .i64 nx, .slice (some ⟨gg7, 0, none⟩) (L.length + 1) cap7] rfl (HV8.out.kr.set2 (.int .i64 nx) (.slice (some ⟨gg7, 0, none⟩) (L.length + 1) cap7)) rfl) rfl (HLE.out ▸ (InvL.out (HLE.out.symm ▸ HV8.out) HX.out (by rw [HLE.out]; exact HL16.out)))
      · have e1 : (z == 0) = false := beq_eq_false_iff_ne.2 hza
        have e2 : (z == 1) = false := beq_eq_false_iff_ne.2 hzb
        have fr := HV2.out.kr.frozen
        obtain ⟨r0, r1⟩ := HV2.out.kr.two
        go_wp2
        have HV9 := Lib.hid (HV2.out)
        exact bodyPost_ret (results_bf rfl _ _ w.heap.size #[.int .i64 nx, .slice A L.length c] rfl (HV9.out.kr.set2 (.int .i64 nx) (.slice A L.length c)) rfl) rfl (HV9.out.out HX.out (by have := HL16.out; omega))
end Go.Proofs.Ytnndhkdigmkddaa
