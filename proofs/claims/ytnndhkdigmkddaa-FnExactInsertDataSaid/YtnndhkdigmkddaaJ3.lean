/- Joining chunks that touch: the contract. No conditions. -/
import Derived.Test.YtnndhkdigmkddaaJ2
namespace Go.Proofs.Ytnndhkdigmkddaa
open Go.ChangeShapes Go.WideShapes Go.ChangeAt Go.RowKit
set_option linter.unusedVariables false
set_option linter.unusedSimpArgs false
/-- Chunks in a row of the call's own. -/
def OutCk (w : World) (L : List Ck) (e : Ending) (w' : World) : Prop := ∃ A c, e = .returned (.slice A L.length c) ∧ Below w.heap.size w w' ∧ w'.ownsRow w.heap.size 46 2 (.slice A L.length c) L.length (encC L)
theorem own_bk {w : World} {base g n cap : Nat} {xs : List Value} (h : w.ownsRow base 46 2 (.slice (some ⟨g, 0, none⟩) n cap) n xs) : ∃ cur, Bk w g 46 cur := by
  rcases h.2 with ⟨hv, _⟩ | ⟨g', cap', cur, hv, _, hg, _⟩
  · cases hv
  · injection hv with e1 e2 e3
    injection e1 with e1
    injection e1 with e1
    subst e1
    exact ⟨cur, hg⟩
set_option maxRecDepth 20000 in
set_option maxHeartbeats 4000000 in
theorem iJoin {A : Option Addr} {c n : Nat} {w : World} {B : Nat} {L : List Ck} (hB : B ≤ w.heap.size) (hr : Rd w B A (encC L)) (hm : n ≤ 3000000) (HL : Hid (L.length = n)) (hg : ∀ x ∈ L, GoodC x) :
    Calls Try.prog 37 #[.slice A n c] w (OutCk w (joinK L)) := by
  obtain ⟨i0, hi, hz0, hz1, hz2⟩ := info_parts info_chk
  have HI := Lib.hid hi; have HZ0 := Lib.hid hz0; have HZ1 := Lib.hid hz1; have HZ2 := Lib.hid hz2
  have HG := Lib.hid hg
  have hown := cown_empty w w.heap.size 46 2 (Nat.le_refl _)
  have hb1 : Below w.heap.size w (w.alloc (.cells #[] 46)) := (Below.refl _ _).alloc (Nat.le_refl _) _
  have HO0 := Lib.hid hown; have HB0 := Lib.hid hb1
  clear hi hz0 hz1 hz2 hown hb1 hg
  go_enter Try.func37, Try.ntmps37
  go_wp2
  generalize w.alloc (.cells #[] 46) = w1 at HO0 HB0 ⊢
  go_loopw [3, 10] (fun v i wr => ∃ k g cap : Nat, k ≤ n ∧ i = .int .i64 k ∧ v = .slice (some ⟨g, 0, none⟩) ((L.take k).foldl stepJ []).length cap ∧ wr.ownsRow w.heap.size 46 2 (.slice (some ⟨g, 0, none⟩) ((L.take k).foldl stepJ []).length cap) ((L.take k).foldl stepJ []).length (encC ((L.take k).foldl stepJ [])) ∧ Below w.heap.size w wr) (fun v i _ => n - (intOf i).toNat)
  case atStart => exact ⟨0, w.heap.size, 0, Nat.zero_le _, rfl, rfl, HO0.out, HB0.out⟩
  case round =>
    obtain ⟨k, g, cap, hk, rfl, rfl, ho, hbw⟩ := hrel
    clear HO0 HB0
    by_cases hlt : k < n
    · obtain ⟨b, off1, x, d, rfl, hb, HX, c0, c1⟩ := (hr.below hbw hB).chk (k := k) (by rw [HL.out]; exact hlt)
      have hkL : k < L.length := by rw [HL.out]; exact hlt
      have HS := Lib.hid (foldJ_snoc hkL HX.out)
      have hgx : GoodC (x, d) := by have := HG.out (L[k]) (List.getElem_mem hkL); rwa [show L[k] = (x, d) by rw [← HX.out, List.getD_eq_getElem?_getD, List.getElem?_eq_getElem hkL, Option.getD_some]] at this
      have hgO : ∀ y ∈ (L.take k).foldl stepJ [], GoodC y := foldJ_good _ _ (fun y hy => by cases hy) (fun y hy => HG.out y (List.mem_of_mem_take hy))
      have hOn : ((L.take k).foldl stepJ []).length ≤ 3000000 := by have := foldJ_len (L.take k) []; rw [List.length_take] at this; simp only [List.length_nil] at this; omega
      generalize (L.take k).foldl stepJ [] = O at ho HS hgO hOn ⊢
      unfold GoodC at hgx
      simp only at hgx
      obtain ⟨hx0, hx1⟩ := hgx
      have HGO := Lib.hid hgO
      have HO := Lib.hid ho; have HBW := Lib.hid hbw
      clear hkL hgO ho
      obtain ⟨q, hq⟩ : ∃ q, O.length = q := ⟨_, rfl⟩
      have HQ := Lib.hid hq
      rw [hq] at hOn
      have HO2 : Hid (wr.ownsRow w.heap.size 46 2 (.slice (some ⟨g, 0, none⟩) q cap) q (encC O)) := Lib.hid (by rw [← hq]; exact HO.out)
      rw [hq]
      clear hq HO
      by_cases hq0 : q = 0
      · subst hq0
        have HST := Lib.hid (show stepJ O (x, d) = O ++ [(x, d)] from by unfold stepJ; rw [if_neg (fun h => h.1 HQ.out)])
        go_upto_region 6 with (fail)
        have alW : Below wr.heap.size wr (wr.alloc (.cells #[.int .i64 x, .string d] 46)) := (Below.refl _ _).alloc (Nat.le_refl _) _
        have kcW : Bk (wr.alloc (.cells #[.int .i64 x, .string d] 46)) wr.heap.size 46 #[.int .i64 x, .string d] := heap_alloc_new wr _
        have HBW2 := Lib.hid (below_next HBW.out HBW.out.size alW)
        have HO2W := Lib.hid (own_step HO2.out alW)
        generalize wr.alloc (.cells #[.int .i64 x, .string d] 46) = W at kcW HBW2 HO2W ⊢
        generalize wr.heap.size = gc at kcW ⊢
        clear alW c0 c1
        obtain ⟨e0, e1⟩ := kcW.two
        have r0 := cell_regrown e0
        have r1 := cell_regrown e1
        refine wp_region_quiet_below (by kernel_rfl) (by kernel_rfl) ?_
        repeat (go_big_quiet_step ((fail)))
        refine wpQuiet_nil ?_
        intro _ hw'
        obtain ⟨⟨dq, osq⟩, hw''⟩ := hw'
        subst hw''
        have hb2 := below_regrown W dq osq
        have hLm : 0 + 1 ≤ 3000001 := by omega
        have HB3 := Lib.hid (below_next HBW2.out HBW2.out.size hb2)
        have HO3 := Lib.hid (own_step HO2W.out hb2)
        have kc3 := kcW.below hb2 kcW.lt
        generalize Sort.grow (redrawn W dq) osq = w3 at HB3 HO3 kc3 ⊢
        obtain ⟨e0, e1⟩ := kc3.two
        have HLM := Lib.hid hLm
        clear hLm
        have HSZ3 := Lib.hid (show w.heap.size ≤ (w3.alloc (.cells #[.int .i64 x, .string d] 46)).heap.size from Nat.le_trans HB3.out.size (by simp))
        go_wp2_with (at_builtin; refine wpList_append_own _ rfl _ _ 26 rfl w.heap.size 46 i0 (.agg #[.int .i64 0, .string ⟨#[]⟩]) 2 24 Try.underlying26 HI.out HZ0.out HZ1.out HZ2.out rfl (by decide) _ _ _ rfl (HO3.out.alloc _) ⟨w3.heap.size, 0, none⟩ 1 1 [.int .i64 x, .string d] rfl rfl (World.news_of_block (cs := #[.int .i64 x, .string d]) (t := 46) (fr := (0, 0)) (heap_alloc_new w3 _)) (by simp [Value.oneCell']) (by have := HLM.out; unfold maxLen; omega) (by have := HLM.out; omega) HSZ3.out ?_)
        intro v4 w4 hown4 hgrow4 hnil4
        obtain ⟨g4, cap4, rfl, hg4, _⟩ := hown4.form (by omega)
        have HB4 := Lib.hid (below_only (below_next HB3.out HB3.out.size ((Below.refl w3.heap.size w3).alloc (Nat.le_refl _) (.cells #[.int .i64 x, .string d] 46))) hgrow4 HSZ3.out (fun k hk => (HO3.out.lt k hk).1))
        have HO4 := Lib.hid hown4
        clear hown4 hgrow4 hnil4
        go_wp2
        refine ⟨⟨k + 1, g4, cap4, by omega, by go_num, ?_, ?_, HB4.out⟩, by simp [intOf]; omega⟩
        · rw [HS.out, HST.out, List.length_append, HQ.out]; rfl
        · rw [HS.out, HST.out, List.length_append, HQ.out, encC_snoc]; exact HO4.out
      · have hqw : IntKind.i64.wrap ((q : Int) - 1) = (q : Int) - 1 := IntWalk.i64_in _ (by omega)
        have hq1 : decide (1 ≤ (q : Int)) = true := by simp; omega
        have hq6 : 1 ≤ (q : Int) := by omega
        have hq2 : (q : Int) - 1 < (q : Int) := by omega
        have hq3 : ((q : Int) - 1).toNat = q - 1 := by omega
        have hq4 : 0 ≤ (q : Int) - 1 := by omega
        obtain ⟨b9, off9, ex, es, he9, _, HE, f0, f1⟩ := (own_rd HO2.out).chk (k := q - 1) (by rw [HQ.out]; omega)
        simp at he9
        obtain ⟨rfl, rfl⟩ := he9
        have hge : GoodC (ex, es) := by
          have hl : q - 1 < O.length := by rw [HQ.out]; omega
          have := HGO.out (O[q - 1]) (List.getElem_mem hl)
          rwa [show O[q - 1] = (ex, es) by rw [← HE.out, List.getD_eq_getElem?_getD, List.getElem?_eq_getElem hl, Option.getD_some]] at this
        unfold GoodC at hge
        simp only at hge
        obtain ⟨hge0, hge1⟩ := hge
        rw [Nat.zero_add] at f0 f1
        obtain ⟨curg, kg⟩ := own_bk HO2.out
        have KG := Lib.hid kg
        clear kg
        go_upto_region 6 with (fail)
        have alW : Below wr.heap.size wr (wr.alloc (.cells #[.int .i64 x, .string d] 46)) := (Below.refl _ _).alloc (Nat.le_refl _) _
        have kcW : Bk (wr.alloc (.cells #[.int .i64 x, .string d] 46)) wr.heap.size 46 #[.int .i64 x, .string d] := heap_alloc_new wr _
        have HBW2 := Lib.hid (below_next HBW.out HBW.out.size alW)
        have HO2W := Lib.hid (own_step HO2.out alW)
        have f0' := cell_regrown ((alW.cell (p := ⟨g, (q - 1) * 2, none⟩) KG.out.lt).trans f0)
        have f1' := cell_regrown ((alW.cell (p := ⟨g, (q - 1) * 2 + 1, none⟩) KG.out.lt).trans f1)
        have KGW := Lib.hid (KG.out.below alW KG.out.lt)
        clear c0 c1 f0 f1
        obtain ⟨e0, e1⟩ := kcW.two
        have r0 := cell_regrown e0
        have r1 := cell_regrown e1
        generalize wr.alloc (.cells #[.int .i64 x, .string d] 46) = W at kcW HBW2 HO2W r0 r1 e0 e1 f0' f1' KGW ⊢
        have hgc : g < wr.heap.size := KG.out.lt
        generalize wr.heap.size = gc at kcW r0 r1 e0 e1 hgc ⊢
        clear alW
        by_cases hm9 : ex + (es.size : Int) = x
        · have heq : (ex + (es.size : Int) == x) = true := beq_iff_eq.2 hm9
          have hlast : O.getD (O.length - 1) ck0 = (ex, es) := by rw [HQ.out]; exact HE.out
          have HST := Lib.hid (show stepJ O (x, d) = O.set (q - 1) (ex, es ++ d) from by unfold stepJ; rw [if_pos ⟨by rw [HQ.out]; exact hq0, by rw [hlast]; exact hm9⟩, hlast, HQ.out])
          clear hlast
          refine wp_region_quiet_below (by kernel_rfl) (by kernel_rfl) ?_
          repeat (go_big_quiet_step ((go_at_call 34; exact Calls.regrown_of (iEnd ex es (by omega) (by omega) _))))
          refine wpQuiet_nil ?_
          intro _ hw'
          obtain ⟨⟨dq, osq⟩, hw''⟩ := hw'
          subst hw''
          have hb2 := below_regrown W dq osq
          replace f0 := f0' dq osq
          replace f1 := f1' dq osq
          replace e0 := r0 dq osq
          replace e1 := r1 dq osq
          have HB3 := Lib.hid (below_next HBW2.out HBW2.out.size hb2)
          have HO3 := Lib.hid (own_step HO2W.out hb2)
          have kg3 := KGW.out.below hb2 KGW.out.lt
          clear hb2 f0' f1' r0 r1
          generalize Sort.grow (redrawn W dq) osq = w3 at HB3 HO3 kg3 f0 f1 e0 e1 ⊢
          have fg := kg3.frozen
          have hcat : es.size + d.size ≤ 9223372036854775807 := by omega
          have hcat2 : (es.size : Int) + (d.size : Int) ≤ 9223372036854775807 := by omega
          have hcat3 : es.size ≤ 4611686018427387903 := by omega
          have hcat4 : d.size ≤ 4611686018427387903 := by omega
          go_wp2_with fail
          have HB3d := Lib.hid HB3.out.drew
          have HO3d : Hid (w3.drew.ownsRow w.heap.size 46 2 (.slice (some ⟨g, 0, none⟩) O.length cap) O.length (encC O)) := Lib.hid (by rw [HQ.out]; exact HO3.out.drew)
          have hgb := Lib.hid (HO3.out.lt g rfl).1
          have hset := own_setS (t := es ++ d) HO3d.out (show q - 1 < O.length by rw [HQ.out]; omega) HE.out
          rw [show 2 * (q - 1) + 1 = (q - 1) * 2 + 1 by omega] at hset
          have HSET := Lib.hid hset
          have HB5 := Lib.hid (HB3d.out.setCell (p := ⟨g, (q - 1) * 2 + 1, none⟩) hgb.out (.string (es ++ d)))
          clear hset HB3 HO3 kg3
          go_region
          all_goals go_wp2
          all_goals refine ⟨⟨k + 1, g, cap, by omega, by go_num, ?_, ?_, HB5.out⟩, by simp [intOf]; omega⟩
          all_goals first
            | (rw [HS.out, HST.out, List.length_set, HQ.out]; done)
            | (rw [HS.out, HST.out]; exact HSET.out)
        · have heq : (ex + (es.size : Int) == x) = false := beq_eq_false_iff_ne.2 hm9
          have hlast : O.getD (O.length - 1) ck0 = (ex, es) := by rw [HQ.out]; exact HE.out
          have HST := Lib.hid (show stepJ O (x, d) = O ++ [(x, d)] from by unfold stepJ; rw [if_neg (fun h => hm9 (by have := h.2; rw [hlast] at this; exact this))])
          clear hlast
          refine wp_region_quiet_below (by kernel_rfl) (by kernel_rfl) ?_
          repeat (go_big_quiet_step ((go_at_call 34; exact Calls.regrown_of (iEnd ex es (by omega) (by omega) _))))
          refine wpQuiet_nil ?_
          intro _ hw'
          obtain ⟨⟨dq, osq⟩, hw''⟩ := hw'
          subst hw''
          have hb2 := below_regrown W dq osq
          replace f0 := f0' dq osq
          replace f1 := f1' dq osq
          clear f0' f1' r0 r1 e0 e1
          have hLm : q + 1 ≤ 3000001 := by omega
          have HB3 := Lib.hid (below_next HBW2.out HBW2.out.size hb2)
          have HO3 := Lib.hid (own_step HO2W.out hb2)
          have kc3 := kcW.below hb2 kcW.lt
          generalize Sort.grow (redrawn W dq) osq = w3 at HB3 HO3 kc3 f0 f1 ⊢
          obtain ⟨e0, e1⟩ := kc3.two
          have HLM := Lib.hid hLm
          clear hLm
          have HSZ3 := Lib.hid (show w.heap.size ≤ (w3.alloc (.cells #[.int .i64 x, .string d] 46)).heap.size from Nat.le_trans HB3.out.size (by simp))
          go_wp2_with (at_builtin; refine wpList_append_own _ rfl _ _ 26 rfl w.heap.size 46 i0 (.agg #[.int .i64 0, .string ⟨#[]⟩]) 2 24 Try.underlying26 HI.out HZ0.out HZ1.out HZ2.out rfl (by decide) _ _ _ rfl (HO3.out.alloc _) ⟨w3.heap.size, 0, none⟩ 1 1 [.int .i64 x, .string d] rfl rfl (World.news_of_block (cs := #[.int .i64 x, .string d]) (t := 46) (fr := (0, 0)) (heap_alloc_new w3 _)) (by simp [Value.oneCell']) (by have := HLM.out; unfold maxLen; omega) (by have := HLM.out; omega) HSZ3.out ?_)
          intro v4 w4 hown4 hgrow4 hnil4
          obtain ⟨g4, cap4, rfl, hg4, _⟩ := hown4.form (by omega)
          have HB4 := Lib.hid (below_only (below_next HB3.out HB3.out.size ((Below.refl w3.heap.size w3).alloc (Nat.le_refl _) (.cells #[.int .i64 x, .string d] 46))) hgrow4 HSZ3.out (fun k hk => (HO3.out.lt k hk).1))
          have HO4 := Lib.hid hown4
          clear hown4 hgrow4 hnil4
          go_wp2
          refine ⟨⟨k + 1, g4, cap4, by omega, by go_num, ?_, ?_, HB4.out⟩, by simp [intOf]; omega⟩
          · rw [HS.out, HST.out, List.length_append, HQ.out]; rfl
          · rw [HS.out, HST.out, List.length_append, HQ.out, encC_snoc]; exact HO4.out
    · have hkn : k = n := by omega
      subst hkn
      have hall : L.take k = L := List.take_of_length_le (by rw [HL.out]; exact Nat.le_refl _)
      rw [hall] at ho ⊢
      go_wp2
      go_ret
      exact ⟨some ⟨g, 0, none⟩, cap, rfl, hbw, ho⟩
end Go.Proofs.Ytnndhkdigmkddaa
