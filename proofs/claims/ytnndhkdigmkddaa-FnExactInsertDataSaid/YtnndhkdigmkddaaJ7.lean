/- InsertData of the program: its contract. No conditions. -/
import Derived.Test.YtnndhkdigmkddaaJ6
namespace Go.Proofs.Ytnndhkdigmkddaa
open Go.ChangeShapes Go.WideShapes Go.ChangeAt Go.RowKit
set_option linter.unusedVariables false
set_option linter.unusedSimpArgs false
theorem InvO.two {w W : World} {bv : Value} {nx off : Int} {d : ByteArray} (h : InvO w W bv nx off d) (a b : Int) : Bk ((W.alloc (.cells #[.int .i64 a] 3)).alloc (.cells #[.int .i64 b] 3)).drew W.heap.size 3 #[.int .i64 a] ∧ Bk ((W.alloc (.cells #[.int .i64 a] 3)).alloc (.cells #[.int .i64 b] 3)).drew (W.heap.size + 1) 3 #[.int .i64 b] ∧ InvO w ((W.alloc (.cells #[.int .i64 a] 3)).alloc (.cells #[.int .i64 b] 3)).drew bv nx off d ∧ w.heap.size + 3 < W.heap.size := by
  have hl := h.kr.lt
  have k1 : Bk (W.alloc (.cells #[.int .i64 a] 3)) W.heap.size 3 #[.int .i64 a] := heap_alloc_new W _
  have b1 : Below W.heap.size W (W.alloc (.cells #[.int .i64 a] 3)) := (Below.refl _ _).alloc (Nat.le_refl _) _
  have s1 : (W.alloc (.cells #[.int .i64 a] 3)).heap.size = W.heap.size + 1 := by simp
  replace h := h.below b1
  generalize W.alloc (.cells #[.int .i64 a] 3) = W1 at k1 b1 s1 h ⊢
  have k2 : Bk (W1.alloc (.cells #[.int .i64 b] 3)) (W.heap.size + 1) 3 #[.int .i64 b] := by rw [← s1]; exact heap_alloc_new W1 _
  have b2 : Below W1.heap.size W1 (W1.alloc (.cells #[.int .i64 b] 3)).drew := ((Below.refl _ _).alloc (Nat.le_refl _) _).drew
  exact ⟨k1.below b2 k1.lt, k2, h.below b2, hl⟩
theorem InvJ.start {w wc : World} {bv : Value} {nx off hi lo : Int} {d : ByteArray} {gf ge : Nat} (h : InvO w wc bv nx off d) (kf : Bk wc gf 3 #[.int .i64 lo]) (ke : Bk wc ge 3 #[.int .i64 hi]) (hne : gf ≠ ge) (h1 : w.heap.size + 3 < gf) (h2 : w.heap.size + 3 < ge) :
    InvJ w ((wc.alloc (.cells #[] 46)).alloc (.cells #[.slice (some ⟨wc.heap.size, 0, none⟩) 0 0] 26)) bv nx off hi d gf ge (wc.heap.size + 1) wc.heap.size lo (.slice (some ⟨wc.heap.size, 0, none⟩) 0 0) [] := by
  have ho := cown_empty wc wc.heap.size 46 2 (Nat.le_refl _)
  have b1 : Below wc.heap.size wc (wc.alloc (.cells #[] 46)) := (Below.refl _ _).alloc (Nat.le_refl _) _
  have s1 : (wc.alloc (.cells #[] 46)).heap.size = wc.heap.size + 1 := by simp
  have l1 := kf.lt
  have l2 := ke.lt
  replace h := h.below b1
  replace kf := kf.below b1 kf.lt
  replace ke := ke.below b1 ke.lt
  generalize wc.alloc (.cells #[] 46) = w1 at ho b1 s1 h kf ke ⊢
  have kl : Bk (w1.alloc (.cells #[.slice (some ⟨wc.heap.size, 0, none⟩) 0 0] 26)) (wc.heap.size + 1) 26 #[.slice (some ⟨wc.heap.size, 0, none⟩) 0 0] := by rw [← s1]; exact heap_alloc_new w1 _
  have b2 : Below w1.heap.size w1 (w1.alloc (.cells #[.slice (some ⟨wc.heap.size, 0, none⟩) 0 0] 26)) := (Below.refl _ _).alloc (Nat.le_refl _) _
  have h2' := h.below b2
  exact { kb := h2'.kb, ko := h2'.ko, kd := h2'.kd, kr := h2'.kr, kf := kf.below b2 kf.lt, ke := ke.below b2 ke.lt, kl := kl, own := own_step ho b2, bel := h2'.bel, g1 := h1, g2 := h2, g3 := hne, g4 := l1, g5 := l2, g6 := Nat.lt_succ_self _, g7 := fun k hk => by injection hk with hk; have : wc.heap.size = k := hk; omega }
set_option maxRecDepth 20000 in
set_option maxHeartbeats 8000000 in
theorem iInsYes {A : Option Addr} {c n : Nat} {w : World} {B : Nat} {l : List Ck} (nx off : Int) (d : ByteArray) (hds : d.size ≤ 1048576) (hnx : (Lit.int .i64 nx).wf = true) (hB : B ≤ w.heap.size) (hr : Rd w B A (encC l)) (hm : n ≤ 1048576) (HL : Hid (l.length = n)) (hd : ∀ k, k < n → (l.getD k ck0).2.size ≤ 1048576) (hw : ∀ k, k < n → (Lit.int .i64 (l.getD k ck0).1).wf = true) (hok : insOk nx l off d = true) :
    Calls Try.prog 14 #[.agg #[.int .i64 nx, .slice A n c], .int .i64 off, .string d] w (OutBf w nx (insK nx l off d)) := by
  obtain ⟨i0, hi0, hz0, hz1, hz2⟩ := info_parts info_chk
  have HI := Lib.hid hi0; have HZ0 := Lib.hid hz0; have HZ1 := Lib.hid hz1; have HZ2 := Lib.hid hz2
  clear hi0 hz0 hz1 hz2
  have V0 := Lib.hid (InvO.start w (.slice A n c) nx off d)
  obtain ⟨q1, q2, q3, q4, q5⟩ := insOk_iff.1 hok
  have HALL := Lib.hid (pcs_all hok)
  have hnx0 := (isBf_chain q1).1
  have HGL := Lib.hid (isBf_good q1)
  have HOK := Lib.hid hok
  clear hok
  go_enter Try.func14, Try.ntmps14
  go_upto_region 1 with (fail)
  generalize (((w.alloc (.cells #[.int .i64 nx, .slice A n c] 28)).alloc (.cells #[.int .i64 off] 3)).alloc (.cells #[.string d] 9)).alloc (.cells #[.int .i64 0, .slice none 0 0] 28) = w1 at V0 ⊢
  obtain ⟨b0, b1⟩ := V0.out.kb.two
  have hIS := iIsB (c := c) (w := w1) (B := B) nx (Nat.le_trans hB V0.out.bel.size) (hr.below V0.out.bel hB) hm HL hd hw
  rw [q1] at hIS
  have HQ1 := Lib.hid q1
  clear q1
  have hde : d.toList.isEmpty = false := by rw [dempty]; exact decide_eq_false (by omega)
  have hd3 : decide (off < 0) = false := by simp; omega
  have hw4 : IntKind.i64.wrap (4611686018427387903 - (d.size : Int)) = 4611686018427387903 - (d.size : Int) := IntWalk.i64_in _ (by omega)
  have hd4 : decide (4611686018427387903 - (d.size : Int) < off) = false := by simp; omega
  have hw5 : IntKind.i64.wrap (off + (d.size : Int)) = off + (d.size : Int) := IntWalk.i64_in _ (by omega)
  have hd5 : decide (off + (d.size : Int) ≤ nx) = false := by simp; omega
  go_upto_region 3 with (go_at_call 21; refine hIS.mono ?_; rintro e w2 ⟨rfl, hb2⟩; have V2 := Lib.hid (V0.out.below hb2); obtain ⟨c0, c1⟩ := V2.out.kb.two; have co : w2.cell? ⟨w.heap.size + 1, 0, none⟩ = some (.int .i64 off) := V2.out.ko.cell 0; have cd : w2.cell? ⟨w.heap.size + 2, 0, none⟩ = some (.string d) := V2.out.kd.cell 0)
  clear V0 b0 b1 hIS hde hd3 hw4 hd4 hd5
  obtain ⟨lo, hlo⟩ : ∃ lo : Int, max off nx = lo := ⟨_, rfl⟩
  obtain ⟨hi, hhi⟩ : ∃ hi : Int, off + (d.size : Int) = hi := ⟨_, rfl⟩
  have HLO := Lib.hid hlo; have HHI := Lib.hid hhi
  rw [hlo, hhi] at q5
  replace hw5 : IntKind.i64.wrap (off + (d.size : Int)) = hi := by rw [hw5]; exact hhi
  clear hhi
  have hbl := V2.out.kb.lt; have hol := V2.out.ko.lt; have hdl := V2.out.kd.lt; have hrl := V2.out.kr.lt
  go_cut [7, 8] from 42 to 49 (fun u v wx => ∃ gf ge : Nat, u = .pointer (some ⟨gf, 0, none⟩) ∧ v = .pointer (some ⟨ge, 0, none⟩) ∧ Bk wx gf 3 #[.int .i64 lo] ∧ Bk wx ge 3 #[.int .i64 hi] ∧ InvO w wx (.slice A n c) nx off d ∧ gf ≠ ge ∧ w.heap.size + 3 < gf ∧ w.heap.size + 3 < ge)
  case first =>
    go_region_held3 (fun w' => w'.cell? ⟨w.heap.size + 1, 0, none⟩ = some (.int .i64 off) ∧ w'.cell? ⟨w.heap.size, 0, none⟩ = some (.int .i64 nx) ∧ w'.cell? ⟨w.heap.size + 2, 0, none⟩ = some (.string d))
      (first
        | exact ⟨co, c0, cd⟩
        | go_keep)
      (fail)
    all_goals go_wp2_with fail
    all_goals go_meet
    all_goals first
      | exact ⟨w2.heap.size, w2.heap.size + 1, rfl, rfl, (V2.out.two lo hi).1, (V2.out.two lo hi).2.1, (V2.out.two lo hi).2.2.1, by omega, (V2.out.two lo hi).2.2.2, Nat.lt_succ_of_lt (V2.out.two lo hi).2.2.2⟩
      | exact ⟨w2.heap.size + 1, w2.heap.size, rfl, rfl, (V2.out.two hi lo).2.1, (V2.out.two hi lo).1, (V2.out.two hi lo).2.2.1, by omega, Nat.lt_succ_of_lt (V2.out.two hi lo).2.2.2, (V2.out.two hi lo).2.2.2⟩
  case rest =>
  obtain ⟨gf, ge, rfl, rfl, kf, ke, VO, hne, hg1, hg2⟩ := hcut
  clear V2 c0 c1 co cd hw5 hbl hol hdl hrl hlo
  have hmf : ∀ (fn : Fn) (first cap : Array Value) (w : World), (Instr.makeFunc fn first cap).run Try.prog w = .ok (.func fn first cap) w := fun _ _ _ _ => rfl
  go_upto_region 5 with (fail)
  have VJ := Lib.hid (InvJ.start (hi := hi) VO kf ke hne hg1 hg2)
  clear VO kf ke hne hg1 hg2
  generalize (wc.alloc (.cells #[] 46)).alloc (.cells #[.slice (some ⟨wc.heap.size, 0, none⟩) 0 0] 26) = w4 at VJ ⊢
  generalize wc.heap.size = base at VJ ⊢
  have hlo0 : off ≤ lo := by have := HLO.out; omega
  have hlo1 : lo ≤ 4611686018427387904 := by have := HHI.out; omega
  have hhm : hi ≤ 4611686018427387903 := by have := HHI.out; omega
  have hhi0 : 0 ≤ hi := by have := HHI.out; omega
  have HBL := Lib.hid (show B ≤ w.heap.size from hB)
  obtain ⟨b0, b1⟩ := VJ.out.kb.two
  go_wp2_with fail
  go_loopw [55] (fun i wr => ∃ (k : Nat) (v : Value), k ≤ n ∧ i = .int .i64 k ∧ InvJ w wr (.slice A n c) nx off hi d gf ge (base + 1) base ((l.take k).foldl (stepP off d hi) ([], lo)).2 v ((l.take k).foldl (stepP off d hi) ([], lo)).1) (fun i _ => n - (intOf i).toNat)
  case atStart => exact ⟨0, _, Nat.zero_le _, rfl, VJ.out⟩
  case round =>
    obtain ⟨k, v, hk, rfl, hinv⟩ := hrel
    have HV := Lib.hid hinv
    clear hinv VJ b0 b1
    have hkl : (l.take k).length = k := by rw [List.length_take, HL.out]; omega
    have hbd := foldP_bd off d hi lo (l.take k) [] lo (Int.le_refl _) hlo1 (fun c hc => HGL.out c (List.mem_of_mem_take hc))
    rw [hkl] at hbd
    obtain ⟨hfr0, hfr1, hLn⟩ := hbd
    simp only [List.length_nil, Nat.zero_add] at hLn
    have hL3 : ((l.take k).foldl (stepP off d hi) ([], lo)).1.length ≤ 2097152 := by omega
    clear hLn hkl
    by_cases hlt : k < n
    · have hkL : k < l.length := by rw [HL.out]; exact hlt
      obtain ⟨b, off1, x, e, rfl, hb, HX, c0, c1⟩ := (hr.below HV.out.bel hB).chk (k := k) hkL
      have HS := Lib.hid (foldP_snoc (off := off) (d := d) (hi := hi) (s := ([], lo)) hkL HX.out)
      have hgx : GoodC (x, e) := by have := HGL.out (l[k]) (List.getElem_mem hkL); rwa [show l[k] = (x, e) by rw [← HX.out, List.getD_eq_getElem?_getD, List.getElem?_eq_getElem hkL, Option.getD_some]] at this
      unfold GoodC at hgx
      simp only at hgx
      obtain ⟨hx0, hx1⟩ := hgx
      generalize (l.take k).foldl (stepP off d hi) ([], lo) = st at HV HS hfr0 hfr1 hL3 ⊢
      obtain ⟨L, fr⟩ := st
      simp only at HV hfr0 hfr1 hL3
      clear hkL
      go_wp2_with fail
      have alW : Below wr.heap.size wr (wr.alloc (.cells #[.int .i64 x, .string e] 46)) := (Below.refl _ _).alloc (Nat.le_refl _) _
      have kc : Bk (wr.alloc (.cells #[.int .i64 x, .string e] 46)) wr.heap.size 46 #[.int .i64 x, .string e] := heap_alloc_new wr _
      have VW := Lib.hid (HV.out.below alW)
      have ngc : wr.heap.size ≠ base + 1 := by have := HV.out.kl.lt; omega
      have nvc : v.ownBlock ≠ some wr.heap.size := fun h => by have := (HV.out.own.lt _ h).2; omega
      refine (iPut x VW.out hds q3 (by omega) hfr1 HHI.out.symm hhm hx0 (by omega) (by omega)).mono ?_
      rintro e9 w2 ⟨rfl, v2, hV2, hk2, hs2, hnew⟩
      have kc2 := hk2 _ _ _ kc ngc nvc
      have nv2 : v2.ownBlock ≠ some wr.heap.size := fun h => by
        rcases hnew _ h with h9 | h9
        · exact nvc h9
        · simp at h9; omega
      clear hnew
      have NV2 := Lib.hid nv2
      clear nv2
      have ngc2 : base + 1 ≠ wr.heap.size := fun h => ngc h.symm
      have hgcb : base < wr.heap.size := by have := HV.out.kl.lt; omega
      have hgcw : w.heap.size + 3 < wr.heap.size := HV.out.kr.lt
      have HV2 := Lib.hid hV2
      clear alW kc VW ngc nvc hV2 hk2 hs2 HV c0 c1
      generalize wr.heap.size = gc at kc2 NV2 ngc2 hgcb hgcw ⊢
      obtain ⟨d0, d1⟩ := kc2.two
      have KC2 := Lib.hid kc2
      have cl : w2.cell? ⟨base + 1, 0, none⟩ = some v2 := HV2.out.kl.cell 0
      have hput := putK_len off d hi fr x
      obtain ⟨L2, hL2⟩ : ∃ L2, L ++ putK off d hi fr x = L2 := ⟨_, rfl⟩
      have hl2 : L2.length ≤ 2097153 := by rw [← hL2, List.length_append]; omega
      rw [hL2] at HV2
      have HL2 := Lib.hid hL2
      have HLL := Lib.hid hl2
      clear kc2 hput hL2 hl2
      have hbase2 := Lib.hid (show base ≤ (w2.alloc (.cells #[.int .i64 x, .string e] 46)).heap.size from by have := HV2.out.kl.lt; simp; omega)
      go_wp2_with (at_builtin; refine wpList_append_lies _ rfl _ _ 26 rfl base 46 i0 (.agg #[.int .i64 0, .string ⟨#[]⟩]) 2 24 Try.underlying26 HI.out HZ0.out HZ1.out HZ2.out rfl (by decide) _ _ _ rfl (HV2.out.own.alloc _) ⟨w2.heap.size, 0, none⟩ 1 1 [.int .i64 x, .string e] rfl rfl (World.news_of_block (cs := #[.int .i64 x, .string e]) (t := 46) (fr := (0, 0)) (heap_alloc_new w2 _)) (by simp [Value.oneCell']) (by decide) (by have := HLL.out; unfold maxLen; omega) (by have := HLL.out; omega) hbase2.out (w2.heap.size + 1) (by simp) ?_)
      intro g3 cap3 w3 hown3 hgrow3 hat3 hlt3
      have al2 : Below w2.heap.size w2 (w2.alloc (.cells #[.int .i64 x, .string e] 46)) := (Below.refl _ _).alloc (Nat.le_refl _) _
      have V4 := Lib.hid (HV2.out.put al2 hown3 hgrow3 hat3 (Nat.le_succ _))
      have kc4 : Bk (w3.setCell ⟨base + 1, 0, none⟩ (.slice (some ⟨g3, 0, none⟩) (L2.length + 1) cap3)) gc 46 #[.int .i64 x, .string e] := InvJ.keep al2 hgrow3 gc _ _ KC2.out (fun h => ngc2 h.symm) NV2.out
      have kl3 := (HV2.out.kl.below al2 HV2.out.kl.lt).grown hgrow3 (fun h => HV2.out.g7 _ h.symm rfl)
      have fl3 := kl3.frozen
      have cl3 : w3.cell? ⟨base + 1, 0, none⟩ = some v2 := kl3.cell 0
      clear hown3 hgrow3 hat3 hlt3 al2 kl3 HV2 KC2 NV2 hbase2 d0 d1 cl
      go_wp2_with fail
      generalize w3.setCell ⟨base + 1, 0, none⟩ (.slice (some ⟨g3, 0, none⟩) (L2.length + 1) cap3) = w4 at V4 kc4 ⊢
      clear fl3 cl3
      obtain ⟨d0, d1⟩ := kc4.two
      have cf : w4.cell? ⟨gf, 0, none⟩ = some (.int .i64 fr) := V4.out.kf.cell 0
      have kcd : Bk w4.drew gc 46 #[.int .i64 x, .string e] := kc4
      go_region_law (first
        | (go_simp; go_at_call 34; refine (iEnd x e (by omega) (by omega) _).mono ?_; rintro e8 w5 ⟨rfl, hb5⟩; have V5 := Lib.hid ((V4.out.below (show Below w4.heap.size w4 w4.drew from (Below.refl _ _).drew)).below hb5); have cf5 : w5.cell? ⟨gf, 0, none⟩ = some (.int .i64 fr) := V5.out.kf.cell 0; have ff5 := V5.out.kf.frozen)
        | fail)
      all_goals have V6 := Lib.hid (V5.out.from_ (max fr (x + (e.size : Int))))
      all_goals go_wp2
      all_goals refine ⟨⟨k + 1, .slice (some ⟨g3, 0, none⟩) (L2.length + 1) cap3, by omega, by go_num, ?_⟩, by simp [intOf]; omega⟩
      all_goals rw [HS.out]
      all_goals unfold stepP
      all_goals simp only []
      all_goals rw [HL2.out]
      all_goals exact V6.out
    · have hkn : k = n := by omega
      subst hkn
      have hall : l.take k = l := List.take_of_length_le (by rw [HL.out]; exact Nat.le_refl _)
      rw [hall] at HV hfr0 hfr1 hL3
      have hfold := foldP off d hi l [] lo
      rw [List.nil_append] at hfold
      generalize l.foldl (stepP off d hi) ([], lo) = st at HV hfr0 hfr1 hL3 hfold
      obtain ⟨L, fr⟩ := st
      simp only at HV hfr0 hfr1 hL3 hfold
      have HF := Lib.hid hfold
      clear hfold hall
      have ce : wr.cell? ⟨ge, 0, none⟩ = some (.int .i64 hi) := HV.out.ke.cell 0
      go_wp2_with fail
      refine (iPut hi HV.out hds q3 (by omega) hfr1 HHI.out.symm hhm hhi0 (by omega) (by omega)).mono ?_
      rintro e9 w2 ⟨rfl, v2, hV2, _, _, _⟩
      rw [HF.out] at hV2
      have hall2 := HALL.out
      rw [HLO.out, HHI.out] at hall2
      obtain ⟨a1, a2, a3, a4⟩ := hall2
      have hKl : (pcsK off d hi lo l).length ≤ 2097153 := by rw [← HF.out, List.length_append]; have := putK_len off d hi fr hi; omega
      obtain ⟨g3, cap3, rfl, hb3, hg3⟩ := hV2.own.form (by omega)
      have HV2 := Lib.hid hV2
      have HA1 := Lib.hid a1; have HA2 := Lib.hid a2; have HA4 := Lib.hid a4
      obtain ⟨K, hK⟩ : ∃ K, pcsK off d hi lo l = K := ⟨_, rfl⟩
      rw [hK] at HV2 HA1 HA2 HA4 hKl a3
      have cl : w2.cell? ⟨base + 1, 0, none⟩ = some (.slice (some ⟨g3, 0, none⟩) K.length cap3) := HV2.out.kl.cell 0
      clear hV2 ce HV hK a1 a2 a4 HF
      have hsort := iSort HV2.out.own rfl (fun c hc => by have := HA1.out c hc; unfold GoodC at this; omega) HA2.out (by omega)
      go_wp2_with (go_at_call 35; refine hsort.mono ?_; rintro e8 w3 ⟨rfl, hb3'⟩; have V3 := Lib.hid (HV2.out.below hb3'); have cl3 : w3.cell? ⟨base + 1, 0, none⟩ = some (.slice (some ⟨g3, 0, none⟩) K.length cap3) := V3.out.kl.cell 0; obtain ⟨d0, d1⟩ := V3.out.kb.two)
      have hjoin := iJoin (c := cap3) (w := w3.drew) (B := w3.heap.size) (Nat.le_refl _) (show Rd w3.drew w3.heap.size (some ⟨g3, 0, none⟩) (encC K) from own_rd V3.out.own) (by omega) (Lib.hid rfl) HA1.out
      go_region_law (first
        | (go_simp; go_at_call 37; refine hjoin.mono ?_; rintro e7 w5 ⟨A5, c5, rfl, hb5, ho5⟩; have V5 := Lib.hid ((V3.out.below (show Below w3.heap.size w3 w3.drew from (Below.refl _ _).drew)).below hb5); have hle5 : w.heap.size + 3 < w3.drew.heap.size := V3.out.kr.lt; obtain ⟨e0, e1⟩ := V5.out.kb.two; have fr5 := V5.out.kr.frozen; obtain ⟨r0, r1⟩ := V5.out.kr.two)
        | fail)
      all_goals go_wp2
      all_goals have ho6 := own_other ho5 (only_setCell (only_setCell (grown_refl w5 (some (w.heap.size + 3))) 0 (.int .i64 nx)) 1 (.slice A5 (joinK K).length c5)) (fun k hk h => by injection hk with hk; have := (ho5.lt k h).1; omega)
      all_goals rw [← HA4.out]
      all_goals exact bodyPost_ret (results_bf rfl _ _ (w.heap.size + 3) #[.int .i64 nx, .slice A5 (joinK K).length c5] rfl (V5.out.kr.set2 (.int .i64 nx) (.slice A5 (joinK K).length c5)) rfl) rfl ⟨A5, c5, rfl, below_set2 V5.out.bel (by omega) (.int .i64 nx) (.slice A5 (joinK K).length c5), own_lower ho6 (by omega)⟩
theorem iIns {A : Option Addr} {c n : Nat} {w : World} {B : Nat} {l : List Ck} (nx off : Int) (d : ByteArray) (hds : d.size ≤ 1048576) (hnx : (Lit.int .i64 nx).wf = true) (ho1 : -9223372036854775808 ≤ off) (ho2 : off ≤ 9223372036854775807) (hB : B ≤ w.heap.size) (hr : Rd w B A (encC l)) (hm : n ≤ 1048576) (HL : Hid (l.length = n)) (hd : ∀ k, k < n → (l.getD k ck0).2.size ≤ 1048576) (hw : ∀ k, k < n → (Lit.int .i64 (l.getD k ck0).1).wf = true) (hca : A = none → c = 0) :
    Calls Try.prog 14 #[.agg #[.int .i64 nx, .slice A n c], .int .i64 off, .string d] w (OutBf w nx (insV nx l off d)) := by
  cases h : insOk nx l off d
  · rw [insV_no h]
    exact iInsNo nx off d hds hnx ho1 ho2 hB hr hm HL hd hw hca (insNo_of h)
  · rw [insV_yes h]
    exact iInsYes nx off d hds hnx hB hr hm HL hd hw h
end Go.Proofs.Ytnndhkdigmkddaa
