/- InsertData of the reference, where it puts something in: its contract. No conditions. -/
import Derived.Test.YtnndhkdigmkddaaI1
import Derived.Test.YtnndhkdigmkddaaE14D
import Derived.Deep.RegionLaw
namespace Go.Proofs.Ytnndhkdigmkddaa
open Go.ChangeShapes Go.WideShapes Go.ChangeAt Go.RowKit Go.Sort
set_option linter.unusedVariables false
set_option linter.unusedSimpArgs false
theorem ins_len (l : List RM.R) : ∀ r : RM.R, (RM.ins r l).length ≤ l.length + 1 := by
  induction l with
  | nil => intro r; simp [RM.ins]
  | cons x l ih =>
    intro r
    unfold RM.ins
    split
    · have := ih r; simp only [List.length_cons]; omega
    · split
      · simp
      · have := ih (min r.1 x.1, max r.2 x.2); simp only [List.length_cons]; omega
theorem insR_len (nx : Int) (l : List Ck) (off : Int) (d : ByteArray) : (insR nx l off d).length ≤ l.length + 1 := by
  have h1 := rgB_len nx l
  unfold insR
  by_cases h : (RM.isRs (rgB nx l) && RM.isR (max off nx, off + (d.size : Int))) = true
  · have h' : RM.isRs (rgB nx l) = true ∧ RM.isR (max off nx, off + (d.size : Int)) = true := by simpa using h
    rw [RM.addR_eq h'.1 h'.2]
    have := ins_len (rgB nx l) (max off nx, off + (d.size : Int))
    omega
  · unfold RM.addR
    rw [if_neg h]; omega
theorem insK_len (nx : Int) (l : List Ck) (off : Int) (d : ByteArray) : (insK nx l off d).length = (insR nx l off d).length := by unfold insK; rw [List.length_map]
theorem encC_snoc (L : List Ck) (x : Int) (s : ByteArray) : encC (L ++ [(x, s)]) = encC L ++ [.int .i64 x, .string s] := by simp [encC]
theorem insK_snoc {nx : Int} {l : List Ck} {off : Int} {d : ByteArray} {k : Nat} {x y : Int} (hk : k < (insR nx l off d).length) (hx : (insR nx l off d).getD k (0, 0) = (x, y)) : (insK nx l off d).take (k + 1) = (insK nx l off d).take k ++ [(x, fl (insG l off d) x (y - x).toNat)] := by
  have h : k < (insK nx l off d).length := by rw [insK_len]; exact hk
  rw [List.take_succ_eq_append_getElem h]
  have he : (insR nx l off d)[k] = (x, y) := by rw [← hx, List.getD_eq_getElem?_getD, List.getElem?_eq_getElem hk, Option.getD_some]
  have e : (insK nx l off d)[k]? = some (x, fl (insG l off d) x (y - x).toNat) := by
    unfold insK
    rw [List.getElem?_map, List.getElem?_eq_getElem hk, he]; rfl
  rw [(List.getElem?_eq_some_iff.1 e).2]
/-- Memory of InsertData's loop. -/
structure InvI (w wr : World) (bv : Value) (nx : Int) (gx base : Nat) (vx : Value) (L : List Ck) (rv : Value) (q : Nat) (RL : List RM.R) : Prop where
  kb : Bk wr w.heap.size 28 #[.int .i64 nx, bv]
  kr : Bk wr (w.heap.size + 1) 28 #[.int .i64 0, .slice none 0 0]
  kx : Bk wr gx 28 #[.int .i64 nx, vx]
  own : wr.ownsRow base 46 2 vx L.length (encC L)
  rng : wr.ownsRow (gx + 1) 54 2 rv q (encR RL)
  bel : Below w.heap.size w wr
  bs : base ≤ wr.heap.size
  g1 : w.heap.size + 1 < gx
  g2 : gx < base
  rb : ∀ k, rv.ownBlock = some k → k < base
theorem InvI.below {w wr w1 : World} {bv : Value} {nx : Int} {gx base : Nat} {vx : Value} {L : List Ck} {rv : Value} {q : Nat} {RL : List RM.R} (h : InvI w wr bv nx gx base vx L rv q RL) (hb : Below wr.heap.size wr w1) : InvI w w1 bv nx gx base vx L rv q RL :=
  ⟨h.kb.below hb h.kb.lt, h.kr.below hb h.kr.lt, h.kx.below hb h.kx.lt, own_step h.own hb, own_step h.rng hb, below_next h.bel h.bel.size hb, Nat.le_trans h.bs hb.size, h.g1, h.g2, h.rb⟩
theorem InvI.next {w wr Wp w3 : World} {bv : Value} {nx : Int} {gx base : Nat} {vx v' : Value} {L : List Ck} {rv : Value} {q : Nat} {RL : List RM.R} (h : InvI w wr bv nx gx base vx L rv q RL) (hb : Below wr.heap.size wr Wp) {x : Int} {s : ByteArray}
    (ho : w3.ownsRow base 46 2 v' (L.length + 1) (encC L ++ [.int .i64 x, .string s])) (hg : Wp.grownBy w3 vx.ownBlock) : InvI w (w3.setCell ⟨gx, 1, none⟩ v') bv nx gx base v' (L ++ [(x, s)]) rv q RL := by
  have h1 := h.below hb
  have hne : ∀ k, vx.ownBlock = some k → base ≤ k := fun k hk => (h1.own.lt k hk).1
  have g1 := h.g1; have g2 := h.g2
  have kb := h1.kb.grown hg (fun e => by have := hne _ e.symm; omega)
  have kr := h1.kr.grown hg (fun e => by have := hne _ e.symm; omega)
  have kx := h1.kx.grown hg (fun e => by have := hne _ e.symm; omega)
  have rng := own_other h1.rng hg (fun k hk e => by have := hne _ hk; have := h.rb _ e; omega)
  have bel := below_only h1.bel hg h1.bel.size (fun k hk => by have := hne _ hk; omega)
  have hs : (w3.setCell ⟨gx, 1, none⟩ v').heap.size = w3.heap.size := by simp
  refine ⟨kb.setO (by omega) _, kr.setO (by omega) _, by simpa using kx.set_ 1 v', ?_, ?_, bel.setCell (p := ⟨gx, 1, none⟩) (by show w.heap.size ≤ gx; omega) _, by rw [hs]; exact Nat.le_trans h1.bs hg.size, h.g1, h.g2, h.rb⟩
  · rw [encC_snoc, List.length_append]
    exact own_other ho (only_setCell (grown_refl w3 (some gx)) 1 v') (fun k hk e => by injection hk with hk; have := (ho.lt k e).1; omega)
  · exact own_other rng (only_setCell (grown_refl w3 (some gx)) 1 v') (fun k hk e => by injection hk with hk; have := (rng.lt k e).1; omega)
set_option maxRecDepth 20000 in
set_option maxHeartbeats 4000000 in
theorem sInsYes {A : Option Addr} {c n : Nat} {w : World} {B : Nat} {l : List Ck} (nx off : Int) (d : ByteArray) (hds : d.size ≤ 1048576) (hnx : (Lit.int .i64 nx).wf = true) (hB : B ≤ w.heap.size) (hr : Rd w B A (encC l)) (hm : n ≤ 1048576) (HL : Hid (l.length = n)) (hd : ∀ k, k < n → (l.getD k ck0).2.size ≤ 1048576) (hw : ∀ k, k < n → (Lit.int .i64 (l.getD k ck0).1).wf = true) (hok : insOk nx l off d = true) :
    Calls Try.prog 13 #[.agg #[.int .i64 nx, .slice A n c], .int .i64 off, .string d] w (OutBf w nx (insK nx l off d)) := by
  obtain ⟨i0, hi, hz0, hz1, hz2⟩ := info_parts info_chk
  obtain ⟨o1, o2, o3, o4, o5⟩ := insOk_iff.1 hok
  have hnx0 := (isBf_chain o1).1
  have HOK := Lib.hid hok
  clear hok
  have hb0 := bbox w (.int .i64 nx) (.slice A n c) 28
  have hk0 : Bk (w.alloc (.cells #[.int .i64 nx, .slice A n c] 28)) w.heap.size 28 #[.int .i64 nx, .slice A n c] := heap_alloc_new w _
  have hs0 : (w.alloc (.cells #[.int .i64 nx, .slice A n c] 28)).heap.size = w.heap.size + 1 := by simp
  have HB0 := Lib.hid hb0; have HK0 := Lib.hid hk0; have HS0 := Lib.hid hs0; have HI := Lib.hid hi; have HZ0 := Lib.hid hz0; have HZ1 := Lib.hid hz1; have HZ2 := Lib.hid hz2
  clear hb0 hk0 hs0 hi hz0 hz1 hz2
  go_enter Try.func13, Try.ntmps13
  go_upto_region 1 with (fail)
  have hb0 := HB0.out; have hk0 := HK0.out; have hs0 := HS0.out
  clear HB0 HK0 HS0
  generalize w.alloc (.cells #[.int .i64 nx, .slice A n c] 28) = w0 at hb0 hk0 hs0 ⊢
  have kr : Bk (w0.alloc (.cells #[.int .i64 0, .slice none 0 0] 28)) (w.heap.size + 1) 28 #[.int .i64 0, .slice none 0 0] := by rw [← hs0]; exact heap_alloc_new w0 _
  have al := bbox w0 (.int .i64 0) (.slice none 0 0) 28
  have kb := hk0.below al hk0.lt
  have hb := below_next hb0 hb0.size al
  clear al hk0 hb0
  generalize w0.alloc (.cells #[.int .i64 0, .slice none 0 0] 28) = w1 at kr kb hb ⊢
  clear hs0
  obtain ⟨b0, b1⟩ := kb.two
  have hIS := sIsB (c := c) (w := w1) (B := B) nx hnx (Nat.le_trans hB hb.size) (hr.below hb hB) hm HL hd hw
  rw [o1] at hIS
  have HO1 := Lib.hid o1
  clear o1
  have hde : d.toList.isEmpty = false := by rw [dempty]; exact decide_eq_false (by omega)
  have hd3 : decide (off < 0) = false := by simp; omega
  have hw4 : IntKind.i64.wrap (4611686018427387903 - (d.size : Int)) = 4611686018427387903 - (d.size : Int) := IntWalk.i64_in _ (by omega)
  have hd4 : decide (4611686018427387903 - (d.size : Int) < off) = false := by simp; omega
  have hw5 : IntKind.i64.wrap (off + (d.size : Int)) = off + (d.size : Int) := IntWalk.i64_in _ (by omega)
  go_upto_region 3 with (go_at_call 18; refine hIS.mono ?_; rintro e w2 ⟨rfl, hb2⟩; replace kb := kb.below hb2 kb.lt; replace kr := kr.below hb2 kr.lt; replace hb := below_next hb hb.size hb2; clear b0 b1; obtain ⟨b0, b1⟩ := kb.two)
  obtain ⟨lo, hlo⟩ : ∃ lo : Int, max off nx = lo := ⟨_, rfl⟩
  obtain ⟨hi, hhi⟩ : ∃ hi : Int, off + (d.size : Int) = hi := ⟨_, rfl⟩
  rw [hlo, hhi] at o5
  have hdl : decide (hi ≤ lo) = false := by simp; omega
  go_cut [7] from 35 to 38 (fun u wx => u = .int .i64 lo ∧ wx = w2)
  case first =>
    go_wp2_with fail
    all_goals go_meet
    all_goals exact ⟨congrArg (Value.int .i64) (by omega), rfl⟩
  case rest =>
  obtain ⟨rfl, rfl⟩ := hcut
  rw [hhi] at hw5
  go_upto_region 8 with (fail)
  have al := bbox wc (.int .i64 nx) (.slice none 0 0) 28
  have kx : Bk (wc.alloc (.cells #[.int .i64 nx, .slice none 0 0] 28)) wc.heap.size 28 #[.int .i64 nx, .slice none 0 0] := heap_alloc_new wc _
  have g1 : w.heap.size + 1 < wc.heap.size := kr.lt
  replace kb := kb.below al kb.lt
  replace kr := kr.below al kr.lt
  replace hb := below_next hb hb.size al
  clear al b0 b1 hIS
  generalize wc.alloc (.cells #[.int .i64 nx, .slice none 0 0] 28) = w3 at kb kr kx hb ⊢
  generalize wc.heap.size = gx at kx g1 ⊢
  have g2 := kx.lt
  obtain ⟨b0, b1⟩ := kb.two
  go_wp2_with fail
  refine (sBR (B := B) nx hnx (Nat.le_trans hB hb.size) (hr.below hb hB) hm HL hd hw).mono ?_
  rintro e w4 ⟨A4, c4, rfl, hb4, ho4⟩
  go_wp2_with fail
  refine (sAdd (B := w4.heap.size) (Nat.le_refl _) (own_rd ho4) (by have := rgB_len nx l; have := HL.out; omega) (Lib.hid rfl) lo hi).mono ?_
  rintro e w5 ⟨AL, cL, rfl, hb5, ho5⟩
  have eR : RM.addR (rgB nx l) (lo, hi) = insR nx l off d := by unfold insR; rw [hlo, hhi]
  rw [eR] at ho5 ⊢
  have hlen := insR_len nx l off d
  rw [HL.out] at hlen
  obtain ⟨q, hq⟩ : ∃ q, (insR nx l off d).length = q := ⟨_, rfl⟩
  rw [hq] at hlen ho5 ⊢
  have HQ := Lib.hid hq
  have hg24 : gx + 1 ≤ w4.heap.size := Nat.le_trans g2 hb4.size
  have V0 : InvI w w5 (.slice A n c) nx gx w5.heap.size (.slice none 0 0) [] (.slice AL q cL) q (insR nx l off d) :=
    ⟨(kb.below hb4 kb.lt).below hb5 (Nat.lt_of_lt_of_le kb.lt hb4.size), (kr.below hb4 kr.lt).below hb5 (Nat.lt_of_lt_of_le kr.lt hb4.size), (kx.below hb4 kx.lt).below hb5 (Nat.lt_of_lt_of_le kx.lt hb4.size), ⟨rfl, .inl ⟨rfl, rfl⟩⟩, own_lower ho5 hg24, below_next (below_next hb hb.size hb4) (Nat.le_trans hb.size hb4.size) hb5, Nat.le_refl _, g1, Nat.lt_of_lt_of_le g2 (Nat.le_trans hb4.size hb5.size), fun k hk => (ho5.lt k hk).2⟩
  have HV0 := Lib.hid V0
  clear V0 kb kr kx hb hb4 hb5 ho4 ho5 b0 b1 hq g1 g2 hg24 eR
  generalize w5.heap.size = base at HV0
  have HIS := Lib.hid (insR_is HOK.out)
  clear hdl hw5 hlo hhi o2 o3 o4 o5 hde hd3 hw4 hd4
  go_wp2_with fail
  go_loopw [11] (fun i wr => ∃ (k : Nat) (vx : Value), k ≤ q ∧ i = .int .i64 k ∧ InvI w wr (.slice A n c) nx gx base vx ((insK nx l off d).take k) (.slice AL q cL) q (insR nx l off d)) (fun i _ => q - (intOf i).toNat)
  case atStart => exact ⟨0, _, Nat.zero_le _, rfl, by simpa using HV0.out⟩
  case round =>
    obtain ⟨k, vx, hk, rfl, hinv⟩ := hrel
    have HV := Lib.hid hinv
    clear hinv HV0
    by_cases hlt : k < q
    · obtain ⟨b1, off1, x, y, rfl, hb', HX, d0, d1⟩ := (own_rd HV.out.rng).rng (k := k) (by rw [HQ.out]; exact hlt)
      have hq9 : k < (insR nx l off d).length := by rw [HQ.out]; exact hlt
      have hget : (insR nx l off d)[k] = (x, y) := by have := HX.out; rw [List.getD_eq_getElem?_getD, List.getElem?_eq_getElem hq9, Option.getD_some] at this; exact this
      have hbd := RM.isRs_get HIS.out k hq9
      rw [hget] at hbd
      obtain ⟨hx0, hxy, hym⟩ : 0 ≤ x ∧ x < y ∧ y ≤ 4611686018427387903 := hbd
      have HQ9 := Lib.hid hq9
      have HS := Lib.hid (insK_snoc hq9 HX.out)
      have HLK := Lib.hid (show ((insK nx l off d).take k).length = k by rw [List.length_take, insK_len]; omega)
      clear hget hq9
      generalize (insK nx l off d).take k = L at HV HS HLK ⊢
      have hik0 : 0 ≤ (k : Int) := Int.natCast_nonneg _
      have hik1 : (k : Int) < (q : Int) := by omega
      have hlb1 : b1 < wr.heap.size := hb'
      go_wp2_with fail
      go_loopw [12, 13] (fun s a w2 => ∃ t : Nat, x + (t : Int) ≤ y ∧ s = .string (fl (insG l off d) x t) ∧ a = .int .i64 (x + (t : Int)) ∧ Below wr.heap.size wr w2) (fun s a _ => (y - intOf a).toNat)
      case atStart => exact ⟨0, by simp; omega, rfl, by simp, Below.refl _ _⟩
      case round =>
        obtain ⟨t, ht, rfl, rfl, hb2⟩ := hrel
        have HV2 := Lib.hid (HV.out.below hb2)
        have e0 := (hb2.cell (p := ⟨b1, off1 + k * 2, none⟩) hlb1).trans d0
        have e1 := (hb2.cell (p := ⟨b1, off1 + k * 2 + 1, none⟩) hlb1).trans d1
        have HB2 := Lib.hid hb2
        clear hb2 d0 d1
        have hs1 := fl_size (insG l off d) x t
        have hst : t ≤ 4611686018427387903 := by omega
        by_cases hlt2 : x + (t : Int) < y
        · obtain ⟨c0, c1⟩ := HV2.out.kb.two
          have hby := sByteAt (c := c) (w := wr) (B := B) nx (x + (t : Int)) (by simp [Lit.wf, IntKind.min, IntKind.max, IntKind.signed, IntKind.bits]; omega) (Nat.le_trans hB HV2.out.bel.size) (hr.below HV2.out.bel hB) hm HL hd hw
          rcases byte_at HOK.out HQ9.out HX.out (show x ≤ x + (t : Int) by omega) hlt2 with ⟨z, hz, hbt, hG⟩ | ⟨hbt, p, hp1, hp2, hG⟩
          · rw [hbt] at hby
            have HFS := Lib.hid (fl_succ (insG l off d) x t z hG)
            have ho1 := one1_size z
            clear hG hbt
            generalize fl (insG l off d) x t = S at hs1 HFS ⊢
            have hzn : decide ((z : Int) < 0) = false := by simp
            go_wp2_with (first
              | (go_at_call 19; refine hby.mono ?_; rintro e w3 ⟨rfl, hb3⟩; have HB3 := Lib.hid (below_next HB2.out HB2.out.size hb3); have f0 := (hb3.cell (p := ⟨b1, off1 + k * 2, none⟩) (Nat.lt_of_lt_of_le hlb1 HB2.out.size)).trans e0; have f1 := (hb3.cell (p := ⟨b1, off1 + k * 2 + 1, none⟩) (Nat.lt_of_lt_of_le hlb1 HB2.out.size)).trans e1)
              | (go_at_call 32; refine (l2B _ z rfl hz _).mono ?_; rintro e w4 ⟨rfl, hb4⟩))
            go_roundw
            case rel => exact ⟨t + 1, by omega, by rw [HFS.out], by go_num, below_next HB3.out HB3.out.size hb4⟩
            case measure => simp [intOf]; omega
          · rw [hbt] at hby
            obtain ⟨z, hzz⟩ : ∃ z, (d[p]'hp2).toNat = z := ⟨_, rfl⟩
            have hz : z < 256 := by rw [← hzz]; exact (d[p]'hp2).toNat_lt
            have HFS := Lib.hid (fl_succ (insG l off d) x t z (by rw [hG, hzz]))
            have ho1 := one1_size z
            clear hG hbt
            generalize fl (insG l off d) x t = S at hs1 HFS ⊢
            have hpw : IntKind.i64.wrap (x + (t : Int) - off) = (p : Int) := by rw [IntWalk.i64_in _ (by omega), hp1]
            have hp3 : 0 ≤ (p : Int) := Int.natCast_nonneg _
            have hp4 : (p : Int) < (d.size : Int) := by omega
            have hzw : IntKind.i64.wrap (z : Int) = (z : Int) := IntWalk.i64_in _ (by omega)
            have hz64 := w64b z hz
            go_wp2_with (first
              | (go_at_call 19; refine hby.mono ?_; rintro e w3 ⟨rfl, hb3⟩; have HB3 := Lib.hid (below_next HB2.out HB2.out.size hb3); have f0 := (hb3.cell (p := ⟨b1, off1 + k * 2, none⟩) (Nat.lt_of_lt_of_le hlb1 HB2.out.size)).trans e0; have f1 := (hb3.cell (p := ⟨b1, off1 + k * 2 + 1, none⟩) (Nat.lt_of_lt_of_le hlb1 HB2.out.size)).trans e1)
              | (go_at_call 32; refine (l2B _ z rfl hz _).mono ?_; rintro e w4 ⟨rfl, hb4⟩))
            go_roundw
            case rel => exact ⟨t + 1, by omega, by rw [HFS.out], by go_num, below_next HB3.out HB3.out.size hb4⟩
            case measure => simp [intOf]; omega
        · have hty : (y - x).toNat = t := by omega
          rw [hty] at HS
          clear e0 e1
          obtain ⟨d0, d1⟩ : wr.cell? ⟨b1, off1 + k * 2, none⟩ = some (.int .i64 x) ∧ wr.cell? ⟨b1, off1 + k * 2 + 1, none⟩ = some (.int .i64 y) := by
            obtain ⟨b2, off2, x2, y2, he, hb2, HX1, d0, d1⟩ := (own_rd HV2.out.rng).rng (k := k) HQ9.out
            simp at he
            obtain ⟨rfl, rfl⟩ := he
            obtain ⟨rfl, rfl⟩ : x = x2 ∧ y = y2 := by have := HX.out.symm.trans HX1.out; simpa using this
            exact ⟨d0, d1⟩
          generalize fl (insG l off d) x t = S at hs1 HS ⊢
          obtain ⟨c0, c1⟩ := HV2.out.kx.two
          go_wp2_with fail
          have hlg : gx < wr.heap.size := HV2.out.kx.lt
          have al := (Below.refl wr.heap.size wr).alloc (Nat.le_refl _) (.cells #[.int .i64 x, .string S] 46)
          have al2 : Below wr.heap.size wr ((wr.alloc (.cells #[.int .i64 x, .string S] 46)).drew) := al.drew
          have u0 := (al.cell (p := ⟨b1, off1 + k * 2, none⟩) (Nat.lt_of_lt_of_le hlb1 HB2.out.size)).trans d0
          have u1 := (al.cell (p := ⟨gx, 1, none⟩) hlg).trans c1
          have hbase2 : base ≤ ((wr.alloc (.cells #[.int .i64 x, .string S] 46)).drew).heap.size := Nat.le_trans HV2.out.bs al2.size
          have hne : ∀ k, vx.ownBlock = some k → base ≤ k := fun k hk => (HV2.out.own.lt k hk).1
          have hgb : gx < base := HV2.out.g2
          have kx2 := HV2.out.kx.below al2 hlg
          have hLm : L.length + 1 ≤ 2000000 := by have := HLK.out; omega
          have HLM := Lib.hid hLm; have HNE := Lib.hid hne; have AL2 := Lib.hid al2
          clear hLm hne al2 al
          go_region_law (refine step_append_lies _ (by rfl) _ _ _ (by rfl) base 46 i0 _ 2 24 Try.underlying26 HI.out HZ0.out HZ1.out HZ2.out rfl (by omega) _ _ _ (by rfl) ((HV2.out.own.alloc _).drew) ⟨wr.heap.size, 0, none⟩ 1 1 [.int .i64 x, .string S] (by rfl) (by rfl) (World.news_of_block (cs := #[.int .i64 x, .string S]) (t := 46) (fr := (0, 0)) (heap_alloc_new wr _)) (by simp [Value.oneCell']) (by omega) (by have := HLM.out; unfold maxLen; omega) (by have := HLM.out; omega) hbase2 (wr.heap.size + 1) (by simp) ?_; intro gg7 cap7 w7 hown7 hgrow7 hat7 hlt7; have kx7 := kx2.grown hgrow7 (fun e => by have := HNE.out _ e.symm; omega); have fx := kx7.frozen; obtain ⟨x70, x71⟩ := kx7.two)
          all_goals have HV8 := Lib.hid (HV2.out.next AL2.out hown7 hgrow7)
          all_goals clear hown7 hgrow7 u0 u1 kx2 c0 c1 d0 d1 kx7
          all_goals go_wp2
          all_goals exact ⟨⟨k + 1, _, by omega, by go_num, by rw [HS.out]; exact HV8.out⟩, by simp [intOf]; omega⟩
    · have hall : (insK nx l off d).take k = insK nx l off d := List.take_of_length_le (by rw [insK_len, HQ.out]; omega)
      rw [hall] at HV
      obtain ⟨A9, c9, rfl, _, _⟩ := Rd.of_own HV.out.own
      obtain ⟨c0, c1⟩ := HV.out.kx.two
      have fr := HV.out.kr.frozen
      obtain ⟨r0, r1⟩ := HV.out.kr.two
      have n1 : (gx = w.heap.size + 1) = False := by have := HV.out.g1; simp; omega
      go_wp2
      have hg1 := HV.out.g1; have hg2 := HV.out.g2
      have ho := own_other HV.out.own (only_setCell (only_setCell (grown_refl wr (some (w.heap.size + 1))) 0 (.int .i64 nx)) 1 (.slice A9 (insK nx l off d).length c9)) (fun k hk e => by injection hk with hk; have := (HV.out.own.lt k e).1; omega)
      exact bodyPost_ret (results_bf rfl _ _ (w.heap.size + 1) #[.int .i64 nx, .slice A9 (insK nx l off d).length c9] rfl (HV.out.kr.set2 (.int .i64 nx) (.slice A9 (insK nx l off d).length c9)) rfl) rfl ⟨A9, c9, rfl, below_set2 HV.out.bel (Nat.le_succ _) (.int .i64 nx) (.slice A9 (insK nx l off d).length c9), own_lower ho (by omega)⟩
theorem sIns {A : Option Addr} {c n : Nat} {w : World} {B : Nat} {l : List Ck} (nx off : Int) (d : ByteArray) (hds : d.size ≤ 1048576) (hnx : (Lit.int .i64 nx).wf = true) (ho1 : -9223372036854775808 ≤ off) (ho2 : off ≤ 9223372036854775807) (hB : B ≤ w.heap.size) (hr : Rd w B A (encC l)) (hm : n ≤ 1048576) (HL : Hid (l.length = n)) (hd : ∀ k, k < n → (l.getD k ck0).2.size ≤ 1048576) (hw : ∀ k, k < n → (Lit.int .i64 (l.getD k ck0).1).wf = true) (hca : A = none → c = 0) :
    Calls Try.prog 13 #[.agg #[.int .i64 nx, .slice A n c], .int .i64 off, .string d] w (OutBf w nx (insV nx l off d)) := by
  cases h : insOk nx l off d
  · rw [insV_no h]
    exact sInsNo nx off d hds hnx ho1 ho2 hB hr hm HL hd hw hca (insNo_of h)
  · rw [insV_yes h]
    exact sInsYes nx off d hds hnx hB hr hm HL hd hw h
end Go.Proofs.Ytnndhkdigmkddaa
