/- What FnRanges draws from its code. No conditions. -/
import Derived.Test.YtaackmiodkpnoaaDoorDq3
namespace Go.Proofs.YtaackmiodkpnoaaDoor
open Go.ChangeShapes Go.WideShapes Go.ChangeAt Go.RowKit Go.Sort RM
set_option linter.unusedVariables false
set_option linter.unusedSimpArgs false
theorem results_rngs_rng {fn : Func} {u p : Tmp} (h : fn.results = #[.tmp u, .cell p 32]) (tmps : Array Value) (w : World) (g : Nat) (cs : Array Value)
    (hp : tmps.getD p undef = .pointer (some ⟨g, 0, none⟩)) (hg : Bk w g 32 cs) (hs : cs.size = 2) :
    (results fn tmps).run Tryd.prog w = .ok (.tuple #[tmps.getD u undef, .agg cs]) w := by
  have hp' : tmps[p]?.getD undef = .pointer (some ⟨g, 0, none⟩) := by simpa using hp
  have hl := run_loadVar_row (P := Tryd.prog) w g 32 32 cs (0, 0) _ hg Tryd.underlying32 rfl (by rw [hs]; kernel_rfl)
  simp [results, h, hp', asAddr, hl]
/-- Ranges and a range are drawn. -/
def DrawRr (w : World) (e : Ending) (w' : World) : Prop := ∃ A c L x y, e = .returned (.tuple #[.slice A (L : List R).length c, .agg #[.int .i64 x, .int .i64 y]]) ∧ L.length ≤ 5 ∧ (Sm x ∧ Sm y) ∧ w'.ownsRow w.heap.size 32 2 (.slice A L.length c) L.length (encR L) ∧ Below w.heap.size w w'
set_option maxRecDepth 20000 in
theorem drawAdd {A : Option Addr} {c n : Nat} {w : World} {l : List Int} (hr : Rd w w.heap.size A (bys l)) (hm : n ≤ 1048576) (HL : Hid (l.length = n)) :
    Calls Tryd.prog 11 #[.slice A n c] w (DrawRr w) := by
  have al := (Below.refl w.heap.size w).alloc (Nat.le_refl _) (.cells #[.int .i64 0, .int .i64 0] 32)
  have k0 : Bk (w.alloc (.cells #[.int .i64 0, .int .i64 0] 32)) w.heap.size 32 #[.int .i64 0, .int .i64 0] := heap_alloc_new w _
  have hrc := (hr.below al (Nat.le_refl _)).more al.size
  go_enter Tryd.func11, Tryd.ntmps11
  go_wp2_with fail
  generalize w.alloc (.cells #[.int .i64 0, .int .i64 0] 32) = w0 at k0 al hrc ⊢
  refine (l1New_any hrc hm HL).mono ?_
  rintro e w1 ⟨g, rfl, hc1, hb1, hg⟩
  have hgl := hc1.lt
  have hk0l := k0.lt
  replace k0 := k0.below hb1 k0.lt
  have h01 := below_next al al.size hb1
  go_wp2_with fail
  refine (l3Any_any hc1).mono ?_
  rintro e w2 ⟨A2, c2, L2, rfl, hl2, hs2, ho2, hc2, hg2⟩
  replace k0 := k0.grown hg2 (fun e => by injection e; omega)
  have h02 := below_only h01 hg2 h01.size (fun k hk => by injection hk; omega)
  go_wp2_with fail
  refine (l3Range_any hc2).mono ?_
  rintro e w3 ⟨⟨x, y, hxy, rfl⟩, hc3, hg3⟩
  replace k0 := k0.grown hg3 (fun e => by injection e; omega)
  have hs1 := hg2.size
  have ho2' := own_lower (base := w.heap.size) (own_keepG ho2 hg3 hgl) (Nat.le_trans h01.size (Nat.le_refl _))
  have h03 := below_only h02 hg3 h02.size (fun k hk => by injection hk; omega)
  have c0 := k0.cell 0
  have c1 := k0.cell 1
  have cf := k0.frozen
  have hob : ∀ k, (Value.slice A2 L2.length c2).ownBlock = some k → w1.heap.size ≤ k := fun k hk => ((own_keepG ho2 hg3 hgl).lt k hk).1
  have hoS := own_other (w' := (w3.setCell ⟨w.heap.size, 0, none⟩ (.int .i64 x)).setCell ⟨w.heap.size, 1, none⟩ (.int .i64 y)) ho2' (row := some w.heap.size) (only_setCell (only_setCell ⟨rfl, rfl, rfl, Nat.le_refl _, fun _ _ _ => rfl⟩ _ _) _ _) (fun k hk e => by injection hk with hk; have := hob k e; omega)
  go_wp2
  refine bodyPost_ret (results_rngs_rng rfl _ _ w.heap.size #[.int .i64 x, .int .i64 y] rfl ((k0.set_ 0 (.int .i64 x)).set_ 1 (.int .i64 y)) rfl) rfl ?_
  exact ⟨A2, c2, L2, x, y, by exact rfl, hl2, hxy, hoS, (h03.setCell (p := ⟨w.heap.size, 0, none⟩) (Nat.le_refl _) _).setCell (p := ⟨w.heap.size, 1, none⟩) (Nat.le_refl _) _⟩
/-- A slice of ranges and a number are drawn. -/
def DrawRn (w : World) (e : Ending) (w' : World) : Prop := ∃ A c L x, e = .returned (.tuple #[.slice A (L : List R).length c, .int .i64 x]) ∧ L.length ≤ 5 ∧ -1 ≤ x ∧ x ≤ 255 ∧ w'.ownsRow w.heap.size 32 2 (.slice A L.length c) L.length (encR L) ∧ Below w.heap.size w w'
theorem drawHas {A : Option Addr} {c n : Nat} {w : World} {l : List Int} (hr : Rd w w.heap.size A (bys l)) (hm : n ≤ 1048576) (HL : Hid (l.length = n)) :
    Calls Tryd.prog 21 #[.slice A n c] w (DrawRn w) := by
  go_enter Tryd.func21, Tryd.ntmps21
  go_wp2_with fail
  refine (l1New_any hr hm HL).mono ?_
  rintro e w1 ⟨g, rfl, hc1, hb1, hg⟩
  have hgl := hc1.lt
  go_wp2_with fail
  refine (l3Any_any hc1).mono ?_
  rintro e w2 ⟨A2, c2, L2, rfl, hl2, _, ho2, hc2, hg2⟩
  replace hb1 := below_only hb1 hg2 hb1.size (fun k hk => by injection hk; omega)
  go_wp2_with fail
  refine (l1Below_any 28 (by decide) (by decide) hc2).mono ?_
  rintro e w3 ⟨⟨x, ⟨hx0, hx1⟩, rfl⟩, hc3, hg3⟩
  have hs1 := hg2.size
  have ho2' := own_lower (base := w.heap.size) (own_keepG ho2 hg3 hgl) (by omega)
  replace hb1 := below_only hb1 hg3 hb1.size (fun k hk => by injection hk; omega)
  go_wp2
  go_ret2
  exact ⟨A2, c2, L2, _, rfl, hl2, by omega, by omega, ho2', hb1⟩
/-- A slice of small ranges is drawn. -/
def DrawOne (w : World) (e : Ending) (w' : World) : Prop := ∃ A c L, e = .returned (.slice A (L : List R).length c) ∧ L.length ≤ 5 ∧ SmR L ∧ w'.ownsRow w.heap.size 32 2 (.slice A L.length c) L.length (encR L) ∧ Below w.heap.size w w'
theorem drawFmt {A : Option Addr} {c n : Nat} {w : World} {l : List Int} (hr : Rd w w.heap.size A (bys l)) (hm : n ≤ 1048576) (HL : Hid (l.length = n)) :
    Calls Tryd.prog 25 #[.slice A n c] w (DrawOne w) := by
  go_enter Tryd.func25, Tryd.ntmps25
  go_wp2_with fail
  refine (l1New_any hr hm HL).mono ?_
  rintro e w1 ⟨g, rfl, hc1, hb1, hg⟩
  have hgl := hc1.lt
  go_wp2_with fail
  refine (l3Any_any hc1).mono ?_
  rintro e w2 ⟨A2, c2, L2, rfl, hl2, hs2, ho2, hc2, hg2⟩
  have hs1 := hg2.size
  have ho2' := own_lower (base := w.heap.size) ho2 (by omega)
  replace hb1 := below_only hb1 hg2 hb1.size (fun k hk => by injection hk; omega)
  go_wp2
  go_ret
  exact ⟨A2, c2, L2, rfl, hl2, hs2, ho2', hb1⟩
/-- Two slices of ranges are drawn. -/
def DrawTwo (w : World) (e : Ending) (w' : World) : Prop := ∃ A c L A' c' L', e = .returned (.tuple #[.slice A (L : List R).length c, .slice A' (L' : List R).length c']) ∧ L.length ≤ 5 ∧ L'.length ≤ 5 ∧ w'.ownsRow w.heap.size 32 2 (.slice A L.length c) L.length (encR L) ∧ w'.ownsRow w.heap.size 32 2 (.slice A' L'.length c') L'.length (encR L') ∧ Below w.heap.size w w'
theorem drawEq {A : Option Addr} {c n : Nat} {w : World} {l : List Int} (hr : Rd w w.heap.size A (bys l)) (hm : n ≤ 1048576) (HL : Hid (l.length = n)) :
    Calls Tryd.prog 26 #[.slice A n c] w (DrawTwo w) := by
  go_enter Tryd.func26, Tryd.ntmps26
  go_wp2_with fail
  refine (l1New_any hr hm HL).mono ?_
  rintro e w1 ⟨g, rfl, hc1, hb1, hg⟩
  have hgl := hc1.lt
  go_wp2_with fail
  refine (l3Any_any hc1).mono ?_
  rintro e w2 ⟨A2, c2, L2, rfl, hl2, _, ho2, hc2, hg2⟩
  replace hb1 := below_only hb1 hg2 hb1.size (fun k hk => by injection hk; omega)
  go_wp2_with fail
  refine (l1Once_any 2 (by decide) (by decide) hc2).mono ?_
  rintro e w3 ⟨⟨b, rfl⟩, hc3, hg3⟩
  have hs1 := hg2.size
  have hs2 := hg3.size
  replace ho2 := own_keepG ho2 hg3 hgl
  replace hb1 := below_only hb1 hg3 hb1.size (fun k hk => by injection hk; omega)
  cases b
  · go_wp2_with fail
    refine (l3Any_any hc3).mono ?_
    rintro e w4 ⟨A3, c3, L3, rfl, hl3, _, ho3, hc4, hg4⟩
    have ho2' := own_lower (base := w.heap.size) (own_keepG ho2 hg4 hgl) (by omega)
    have ho3' := own_lower (base := w.heap.size) ho3 (by omega)
    replace hb1 := below_only hb1 hg4 hb1.size (fun k hk => by injection hk; omega)
    go_wp2
    go_ret2
    exact ⟨A2, c2, L2, A3, c3, L3, rfl, hl2, hl3, ho2', ho3', hb1⟩
  · go_wp2_with fail
    refine (sCopy (B := w3.heap.size) (Nat.le_refl _) (own_rd ho2) (by omega) (Lib.hid rfl)).mono ?_
    rintro e w4 ⟨A3, c3, rfl, hb3, ho3⟩
    have ho2' := own_lower (base := w.heap.size) (own_step ho2 hb3) (by omega)
    have ho3' := own_lower (base := w.heap.size) ho3 hb1.size
    have h04 := below_next hb1 hb1.size hb3
    go_wp2
    go_ret2
    exact ⟨A2, c2, L2, A3, c3, L2, rfl, hl2, hl2, ho2', ho3', h04⟩
end Go.Proofs.YtaackmiodkpnoaaDoor
