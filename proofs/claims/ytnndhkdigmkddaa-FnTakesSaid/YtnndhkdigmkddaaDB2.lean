/- What the law draws from a code: a buffer and a number of bytes to take. No conditions. -/
import Derived.Test.YtnndhkdigmkddaaDB1
namespace Go.Proofs.Ytnndhkdigmkddaa
open Go.ChangeShapes Go.WideShapes Go.ChangeAt Go.RowKit Go.Sort
set_option linter.unusedVariables false
set_option linter.unusedSimpArgs false
/-- What is drawn. -/
def DrawTB (w : World) (e : Ending) (w' : World) : Prop := ∃ nx A c L mo, e = .returned (.tuple #[.agg #[.int .i64 nx, .slice A (L : List Ck).length c], .int .i64 mo]) ∧ (Lit.int .i64 nx).wf = true ∧ L.length ≤ 16 ∧ SmB L ∧ -1 ≤ mo ∧ mo ≤ 7 ∧ w'.ownsRow w.heap.size 46 2 (.slice A L.length c) L.length (encC L) ∧ Below w.heap.size w w'
theorem results_bft {fn : Func} {p u : Tmp} (h : fn.results = #[.cell p 28, .tmp u]) (tmps : Array Value) (w : World) (g : Nat) (cs : Array Value)
    (hp : tmps.getD p undef = .pointer (some ⟨g, 0, none⟩)) (hg : Bk w g 28 cs) (hs : cs.size = 2) :
    (results fn tmps).run Try.prog w = .ok (.tuple #[.agg cs, tmps.getD u undef]) w := by
  have hp' : tmps[p]?.getD undef = .pointer (some ⟨g, 0, none⟩) := by simpa using hp
  have hl := run_loadVar_row (P := Try.prog) w g 28 28 cs (0, 0) _ hg Try.underlying28 rfl (by rw [hs]; kernel_rfl)
  simp [results, h, hp', asAddr, hl]
set_option maxRecDepth 20000 in
set_option maxHeartbeats 4000000 in
theorem drawTB {A : Option Addr} {c n : Nat} {w : World} {l : List Int} (hr : Rd w w.heap.size A (bys l)) (hm : n ≤ 1048576) (HL : Hid (l.length = n)) :
    Calls Try.prog 16 #[.slice A n c] w (DrawTB w) := by
  have k1 : Bk (w.alloc (.cells #[.int .i64 0, .slice none 0 0] 28)) w.heap.size 28 #[.int .i64 0, .slice none 0 0] := heap_alloc_new w _
  have a1 := bbox w (.int .i64 0) (.slice none 0 0) 28
  have HK1 := Lib.hid k1; have HA1 := Lib.hid a1
  clear k1 a1
  go_enter Try.func16, Try.ntmps16
  go_upto_region 1 with (fail)
  have k1 := HK1.out; have a1 := HA1.out
  clear HK1 HA1
  generalize w.alloc (.cells #[.int .i64 0, .slice none 0 0] 28) = w1 at k1 a1 ⊢
  go_wp2_with fail
  refine (l1New_any ((hr.below a1 (Nat.le_refl _)).more a1.size) hm HL).mono ?_
  rintro e w2 ⟨g, rfl, hc2, hb2, hg2⟩
  have hk1l := k1.lt
  replace k1 := k1.below hb2 k1.lt
  replace a1 := below_next a1 a1.size hb2
  have hgw : w.heap.size < g := Nat.lt_of_lt_of_le hk1l hg2
  have hk2l := k1.lt
  go_wp2_with fail
  refine (l6Buffer_any hc2).mono ?_
  rintro e w3 ⟨nx, A3, c3, L, rfl, hwx, hlen, hsm, ho3, hc3, hg3⟩
  have hgl := hc2.lt
  replace k1 := k1.grown hg3 (fun e => by injection e; omega)
  have hb3 : Below w.heap.size w w3 := below_only a1 hg3 a1.size (fun k hk => by injection hk; omega)
  have hg3l := hc3.lt
  clear a1 hg3 hc2
  go_upto_region 3 with (fail)
  have al := bbox w3 (.int .i64 nx) (.slice A3 L.length c3) 28
  have kb : Bk (w3.alloc (.cells #[.int .i64 nx, .slice A3 L.length c3] 28)) w3.heap.size 28 #[.int .i64 nx, .slice A3 L.length c3] := heap_alloc_new w3 _
  replace k1 := k1.below al k1.lt
  replace ho3 := own_step ho3 al
  replace hc3 := cur_step hc3 al
  replace hb3 := below_next hb3 hb3.size al
  have hkb3 := hg3l
  generalize w3.alloc (.cells #[.int .i64 nx, .slice A3 L.length c3] 28) = w4 at k1 kb ho3 hc3 hb3 ⊢
  generalize w3.heap.size = gb at kb hg3l ⊢
  obtain ⟨b0, b1⟩ := kb.two
  have hgb : (gb = w.heap.size) = False := by have := hgw; simp; omega
  have hgb' : (w.heap.size = gb) = False := by have := hgw; simp; omega
  have HCD := Lib.hid (show Cur w4.drew g from hc3)
  have hKD := Lib.hid (show Bk w4.drew gb 28 #[.int .i64 nx, .slice A3 L.length c3] from kb)
  have hRD := Lib.hid (show Bk w4.drew w.heap.size 28 #[.int .i64 0, .slice none 0 0] from k1)
  have hOD := Lib.hid ho3.drew
  have hBD := Lib.hid hb3.drew
  clear k1 ho3 hb3 hc3 hgw
  go_region_law (first
    | (go_simp; go_at_call 40; refine (l1Below_any 8 (by decide) (by decide) HCD.out).mono ?_; rintro e w5 ⟨⟨mo, ⟨hmo0, hmo1⟩, rfl⟩, hc5, hg5⟩; have kb5 := hKD.out.grown hg5 (fun e => by injection e; omega); have kr5 := hRD.out.grown hg5 (fun e => by injection e; omega); have fr := kr5.frozen; obtain ⟨r0, r1⟩ := kr5.two; obtain ⟨d0, d1⟩ := kb5.two; have ho5 := own_other hOD.out hg5 (fun k hk e => by injection hk with hk; have := (hOD.out.lt k e).1; omega); have hb5 := below_only hBD.out hg5 hBD.out.size (fun k hk => by injection hk; omega))
    | fail)
  all_goals have hmw : IntKind.i64.wrap (mo - 1) = mo - 1 := IntWalk.i64_in _ (by omega)
  all_goals go_wp2
  all_goals have ho6 := own_lower (own_other ho5 (only_setCell (only_setCell (grown_refl w5 (some w.heap.size)) 0 (.int .i64 nx)) 1 (.slice A3 L.length c3)) (fun k hk e => by injection hk with hk; have := (ho5.lt k e).1; omega)) (Nat.le_of_lt hk2l)
  all_goals exact bodyPost_ret (results_bft rfl _ _ w.heap.size #[.int .i64 nx, .slice A3 L.length c3] rfl (kr5.set2 (.int .i64 nx) (.slice A3 L.length c3)) rfl) rfl ⟨nx, A3, c3, L, IntKind.i64.wrap (mo - 1), rfl, hwx, hlen, hsm, by rw [hmw]; omega, by rw [hmw]; omega, ho6, below_set2 hb5 (Nat.le_refl _) (.int .i64 nx) (.slice A3 L.length c3)⟩
end Go.Proofs.Ytnndhkdigmkddaa
