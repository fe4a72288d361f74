/- Copies of buffers. No conditions. -/
import Derived.Test.YtnndhkdigmkddaaE6
import Derived.Test.YtnndhkdigmkddaaE10
import Derived.Laws.AppendOwnNone
import Derived.Deep.RegionHeld3
import Derived.Deep.AppendLies
namespace Go.Proofs.Ytnndhkdigmkddaa
open Go.ChangeShapes Go.WideShapes Go.ChangeAt Go.RowKit Go.Sort
set_option linter.unusedVariables false
set_option linter.unusedSimpArgs false
/-- A buffer whose chunks lie in the call's own memory. -/
def OutBf (w : World) (nx : Int) (L : List Ck) (e : Ending) (w' : World) : Prop := ∃ A c, e = .returned (.agg #[.int .i64 nx, .slice A L.length c]) ∧ Below w.heap.size w w' ∧ w'.ownsRow w.heap.size 46 2 (.slice A L.length c) L.length (encC L)
theorem cown_empty (w : World) (base : Nat) (T : TypeId) (size : Nat) (hb : base ≤ w.heap.size) : (w.alloc (.cells #[] T)).ownsRow base T size (.slice (some ⟨w.heap.size, 0, none⟩) 0 0) 0 [] :=
  World.ownsRow_made w #[] 0 hb (by unfold maxLen; omega) (by simp)
theorem encC_one (l : List Ck) : ∀ u ∈ encC l, u.oneCell' = true := by
  intro u hu; simp only [encC, List.mem_flatMap, List.mem_cons, List.mem_nil_iff, or_false] at hu
  obtain ⟨r, _, rfl | rfl⟩ := hu <;> rfl
/-- Appending in a region that draws its order, whatever the number. -/
theorem step_append_any {P : Program} {w : World} {ops : Array Oper} {o : Oper} {a : Act} {K : Act → World → Prop} {Q : Exit → Act → World → Prop} {E : Prop} (hgd : o.guard = none) (s x : Operand) (t : TypeId)
    (ho : o.op = .call { callee := .builtin .append, args := #[s, x], argTypes := #[t, t] })
    (base : Nat) (e : TypeId) (i : TypeInfo) (z : Value) (size bytes : Nat) (ht : P.underlying t = some (.slice e)) (hi : P.info? e = some i) (hz : i.zero = some z)
    (hsize : i.size = size) (hby : i.bytes = bytes) (hzs : z.cells.size = size) (hsz : 0 < size)
    (v : Value) (n : Nat) (xs : List Value) (hs : a.eval s = v) (hown : w.ownsRow base e size v n xs)
    (ad : Addr) (m c : Nat) (news : List Value) (hx : a.eval x = .slice (some ad) m c) (hl : news.length = m * size) (hnews : ∀ j u, news[j]? = some u → w.cell? (ad.add j) = some u) (h1 : ∀ u ∈ news, u.oneCell' = true)
    (h63 : n + m ≤ maxLen) (hbytes : (n + m) * bytes ≤ 140737488355328) (hbase : base ≤ w.heap.size)
    (h : ∀ v' w', w'.ownsRow base e size v' (n + m) (xs ++ news) → w.grownBy w' v.ownBlock → K (a.put o.dst v') w') :
    if Region.wanted o (yielded ops a.tmps) = true then Oper.wp P o a w K Q else E := by
  have hw : Region.wanted o (yielded ops a.tmps) = true := by simp [Region.wanted, hgd]
  rw [if_pos hw]
  exact wp_append_own w s x t ho base e i z size bytes ht hi hz hsize hby hzs hsz v n xs hs hown ad m c news hx hl hnews h1 h63 hbytes hbase fun v' w' h2 h3 _ => h v' w' h2 h3
theorem step_append_none {P : Program} {w : World} {ops : Array Oper} {o : Oper} {a : Act} {K : Act → World → Prop} {Q : Exit → Act → World → Prop} {E : Prop} (hgd : o.guard = none) (s x : Operand) (t : TypeId)
    (ho : o.op = .call { callee := .builtin .append, args := #[s, x], argTypes := #[t, t] })
    (base : Nat) (e : TypeId) (i : TypeInfo) (size : Nat) (ht : P.underlying t = some (.slice e)) (hi : P.info? e = some i)
    (v : Value) (n : Nat) (xs : List Value) (hs : a.eval s = v) (hown : w.ownsRow base e size v n xs) (hx : a.eval x = .slice none 0 0)
    (h : ∀ w', w = w' → K (a.put o.dst v) w') :
    if Region.wanted o (yielded ops a.tmps) = true then Oper.wp P o a w K Q else E := by
  have hw : Region.wanted o (yielded ops a.tmps) = true := by simp [Region.wanted, hgd]
  rw [if_pos hw]
  have hrun := run_append_owned_none (P := P) (w := w) base t o.type e i size ht hi v n xs hown
  unfold Oper.wp
  simp [execOp, ho, resolve, invoke, builtin, hs, hx, hrun, Result.andThen]
  exact h _ rfl
theorem results_bf {fn : Func} {p : Tmp} (h : fn.results = #[.cell p 28]) (tmps : Array Value) (w : World) (g : Nat) (cs : Array Value)
    (hp : tmps.getD p undef = .pointer (some ⟨g, 0, none⟩)) (hg : Bk w g 28 cs) (hs : cs.size = 2) :
    (results fn tmps).run Try.prog w = .ok (.agg cs) w := by
  have hp' : tmps[p]?.getD undef = .pointer (some ⟨g, 0, none⟩) := by simpa using hp
  have hl := run_loadVar_row (P := Try.prog) w g 28 28 cs (0, 0) _ hg Try.underlying28 rfl (by rw [hs]; kernel_rfl)
  simp [results, h, hp', asAddr, hl]
theorem Bk.set2 {w : World} {g : Nat} {T : TypeId} {x0 x1 : Value} (h : Bk w g T #[x0, x1]) (y0 y1 : Value) : Bk ((w.setCell ⟨g, 0, none⟩ y0).setCell ⟨g, 1, none⟩ y1) g T #[y0, y1] := by
  have h0 : Bk (w.setCell ⟨g, 0, none⟩ y0) g T #[y0, x1] := h.set_ 0 y0
  exact h0.set_ 1 y1
theorem below_set2 {a w : World} {B g' : Nat} (h : Below B a w) (hg : B ≤ g') (y0 y1 : Value) : Below B a ((w.setCell ⟨g', 0, none⟩ y0).setCell ⟨g', 1, none⟩ y1) := (h.setCell (p := ⟨g', 0, none⟩) hg y0).setCell (p := ⟨g', 1, none⟩) hg y1
theorem OutBf.of_own {w w' : World} {nx : Int} {L : List Ck} {A : Option Addr} {n c base : Nat} (hb : Below w.heap.size w w') (h : w'.ownsRow base 46 2 (.slice A n c) n (encC L)) (hbase : w.heap.size ≤ base) (hn : L.length = n) : OutBf w nx L (.returned (.agg #[.int .i64 nx, .slice A n c])) w' := by
  subst hn
  exact ⟨A, c, rfl, hb, own_lower h hbase⟩
set_option maxRecDepth 20000 in
set_option maxHeartbeats 4000000 in
theorem sCopyB {A : Option Addr} {c n : Nat} {w : World} {B : Nat} {l : List Ck} (nx : Int) (hB : B ≤ w.heap.size) (hr : Rd w B A (encC l)) (hm : n ≤ 1048577) (HL : Hid (l.length = n)) (hca : A = none → c = 0) :
    Calls Try.prog 24 #[.agg #[.int .i64 nx, .slice A n c]] w (OutBf w nx l) := by
  obtain ⟨i0, hi, hz0, hz1, hz2⟩ := info_parts info_chk
  have hb0 := bbox w (.int .i64 nx) (.slice A n c) 28
  have hk0 : Bk (w.alloc (.cells #[.int .i64 nx, .slice A n c] 28)) w.heap.size 28 #[.int .i64 nx, .slice A n c] := heap_alloc_new w _
  have hs0 : (w.alloc (.cells #[.int .i64 nx, .slice A n c] 28)).heap.size = w.heap.size + 1 := by simp
  have HB0 := Lib.hid hb0; have HK0 := Lib.hid hk0; have HS0 := Lib.hid hs0
  clear hb0 hk0 hs0
  go_enter Try.func24, Try.ntmps24
  go_wp2_with fail
  have hb0 := HB0.out; have hk0 := HK0.out; have hs0 := HS0.out
  clear HB0 HK0 HS0
  generalize w.alloc (.cells #[.int .i64 nx, .slice A n c] 28) = w0 at hb0 hk0 hs0 ⊢
  have kr : Bk (w0.alloc (.cells #[.int .i64 0, .slice none 0 0] 28)) (w.heap.size + 1) 28 #[.int .i64 0, .slice none 0 0] := by rw [← hs0]; exact heap_alloc_new w0 _
  have al := bbox w0 (.int .i64 0) (.slice none 0 0) 28
  have kb := hk0.below al hk0.lt
  have hb := below_next hb0 hb0.size al
  clear al hk0 hb0
  generalize w0.alloc (.cells #[.int .i64 0, .slice none 0 0] 28) = w1 at kr kb hb ⊢
  clear hs0
  have hown := (cown_empty w1 w1.heap.size 46 2 (Nat.le_refl _)).drew
  have al : Below w1.heap.size w1 ((w1.alloc (.cells #[] 46)).drew) := ((Below.refl w1.heap.size w1).alloc (Nat.le_refl _) _).drew
  have hal : ((w1.alloc (.cells #[] 46)).drew).heap.size = w1.heap.size + 1 := by show (w1.heap.push _).size = _; simp
  have hll := encC_len l
  rw [HL.out] at hll
  obtain ⟨b0, b1⟩ := kb.two
  have u0 := (al.cell (p := ⟨w.heap.size, 0, none⟩) kb.lt).trans b0
  have u1 := (al.cell (p := ⟨w.heap.size, 1, none⟩) kb.lt).trans b1
  have hr1 := (hr.below (below_next hb hb.size al) hB)
  have hlt1 := kb.lt
  have hltr := kr.lt
  rcases A with _ | ad
  · have hl0 : l = [] := by
      cases h : encC l with
      | nil => have := encC_len l; rw [h] at this; simp only [List.length_nil] at this; exact List.eq_nil_of_length_eq_zero (by omega)
      | cons u t => obtain ⟨b, off, e, _⟩ := hr 0 u (by rw [h]; rfl); cases e
    subst hl0
    obtain rfl : n = 0 := by rw [← HL.out]; rfl
    obtain rfl := hca rfl
    have kr1 : Bk ((w1.alloc (.cells #[] 46)).drew) (w.heap.size + 1) 28 #[.int .i64 0, .slice none 0 0] := kr.below al hltr
    have hb1 := below_next hb hb.size al
    go_region_held3 (fun w' => w'.cell? ⟨w.heap.size, 0, none⟩ = some (.int .i64 nx) ∧ w'.cell? ⟨w.heap.size, 1, none⟩ = some (.slice none 0 0))
      (first | exact ⟨b0, b1⟩ | exact ⟨u0, u1⟩ | exact ⟨v0, v1⟩ | go_keep)
      (first
        | (refine step_append_none (by rfl) _ _ 26 (by rfl) w1.heap.size 46 i0 2 Try.underlying26 hi _ _ _ (by rfl) hown (by rfl) ?_; intro w3 hw3; have hown3 := hown; have kr3 := kr1; have hb3 := hb1; have v0 := u0; have v1 := u1; rw [hw3] at hown3 kr3 hb3 v0 v1; have fr := kr3.frozen; obtain ⟨r0, r1⟩ := kr3.two))
    clear v0 v1 u0 u1 b0 b1 r0 r1
    go_wp2
    have ho := own_other hown3 (only_setCell (only_setCell (grown_refl w3 (some (w.heap.size + 1))) 0 (.int .i64 nx)) 1 (.slice (some ⟨w1.heap.size, 0, none⟩) 0 0)) (fun k hk e => by injection hk with hk; have := (hown3.lt k e).1; omega)
    exact bodyPost_ret (results_bf rfl _ _ (w.heap.size + 1) #[.int .i64 nx, .slice (some ⟨w1.heap.size, 0, none⟩) 0 0] rfl (kr3.set2 (.int .i64 nx) (.slice (some ⟨w1.heap.size, 0, none⟩) 0 0)) rfl) rfl (OutBf.of_own (below_set2 hb3 (Nat.le_succ _) (.int .i64 nx) (.slice (some ⟨w1.heap.size, 0, none⟩) 0 0)) (ho) (by omega) HL.out)
  · have kr1 : Bk ((w1.alloc (.cells #[] 46)).drew) (w.heap.size + 1) 28 #[.int .i64 0, .slice none 0 0] := kr.below al hltr
    have kb1 : Bk ((w1.alloc (.cells #[] 46)).drew) w.heap.size 28 #[.int .i64 nx, .slice (some ad) n c] := kb.below al hlt1
    have hb1 := below_next hb hb.size al
    go_region_held3 (fun w' => w'.cell? ⟨w.heap.size, 0, none⟩ = some (.int .i64 nx) ∧ w'.cell? ⟨w.heap.size, 1, none⟩ = some (.slice (some ad) n c))
      (first | exact ⟨b0, b1⟩ | exact ⟨u0, u1⟩ | exact ⟨v0, v1⟩ | go_keep)
      (first
        | (refine step_append_any (by rfl) _ _ 26 (by rfl) w1.heap.size 46 i0 (.agg #[.int .i64 0, .string ⟨#[]⟩]) 2 24 Try.underlying26 hi hz0 hz1 hz2 rfl (by omega) _ _ _ (by rfl) hown ad n c (encC l) (by rfl) (by rw [hll, Nat.mul_comm]) (fun j u hj => by
            obtain ⟨b, off, e, _, hc⟩ := hr1 j u hj
            injection e with e
            subst e
            have : (⟨b, off, none⟩ : Addr).add j = ⟨b, off + j, none⟩ := by unfold Addr.add; split <;> simp_all
            rw [this]; exact hc) (encC_one l) (by unfold maxLen; omega) (by omega) (by rw [hal]; omega) ?_; intro vv w3 hown3 hgrow3; obtain ⟨A3, c3, rfl, _, _⟩ := Rd.of_own hown3; have v0 := hgrow3.cell (a := ⟨w.heap.size, 0, none⟩) u0 (fun e => by injection e with e; have : w1.heap.size = w.heap.size := e.symm; omega); have v1 := hgrow3.cell (a := ⟨w.heap.size, 1, none⟩) u1 (fun e => by injection e with e; have : w1.heap.size = w.heap.size := e.symm; omega); have kr3 := kr1.grown hgrow3 (fun e => by injection e with e; have : w.heap.size + 1 = w1.heap.size := e; omega); have hb3 : Below w.heap.size w w3 := hb1.grown hgrow3 (by rw [hal]; have := hb.size; omega) (fun k hk => by injection hk with hk; have : w1.heap.size = k := hk; have := hb.size; omega); have fr := kr3.frozen; obtain ⟨r0, r1⟩ := kr3.two))
    clear v0 v1 u0 u1 b0 b1 r0 r1
    go_wp2
    have ho := own_other hown3 (only_setCell (only_setCell (grown_refl w3 (some (w.heap.size + 1))) 0 (.int .i64 nx)) 1 (.slice A3 n c3)) (fun k hk e => by injection hk with hk; have := (hown3.lt k e).1; omega)
    exact bodyPost_ret (results_bf rfl _ _ (w.heap.size + 1) #[.int .i64 nx, .slice A3 n c3] rfl (kr3.set2 (.int .i64 nx) (.slice A3 n c3)) rfl) rfl (OutBf.of_own (below_set2 hb3 (Nat.le_succ _) (.int .i64 nx) (.slice A3 n c3)) (by simpa using ho) (by omega) HL.out)
set_option maxRecDepth 20000 in
set_option maxHeartbeats 4000000 in
theorem iCopyB {A : Option Addr} {c n : Nat} {w : World} {B : Nat} {l : List Ck} (nx : Int) (hB : B ≤ w.heap.size) (hr : Rd w B A (encC l)) (hm : n ≤ 1048577) (HL : Hid (l.length = n)) (hca : A = none → c = 0) :
    Calls Try.prog 26 #[.agg #[.int .i64 nx, .slice A n c]] w (OutBf w nx l) := by
  obtain ⟨i0, hi, hz0, hz1, hz2⟩ := info_parts info_chk
  have hb0 := bbox w (.int .i64 nx) (.slice A n c) 28
  have hk0 : Bk (w.alloc (.cells #[.int .i64 nx, .slice A n c] 28)) w.heap.size 28 #[.int .i64 nx, .slice A n c] := heap_alloc_new w _
  have hs0 : (w.alloc (.cells #[.int .i64 nx, .slice A n c] 28)).heap.size = w.heap.size + 1 := by simp
  have HB0 := Lib.hid hb0; have HK0 := Lib.hid hk0; have HS0 := Lib.hid hs0
  clear hb0 hk0 hs0
  go_enter Try.func26, Try.ntmps26
  go_wp2_with fail
  have hb0 := HB0.out; have hk0 := HK0.out; have hs0 := HS0.out
  clear HB0 HK0 HS0
  generalize w.alloc (.cells #[.int .i64 nx, .slice A n c] 28) = w0 at hb0 hk0 hs0 ⊢
  have kr : Bk (w0.alloc (.cells #[.int .i64 0, .slice none 0 0] 28)) (w.heap.size + 1) 28 #[.int .i64 0, .slice none 0 0] := by rw [← hs0]; exact heap_alloc_new w0 _
  have al := bbox w0 (.int .i64 0) (.slice none 0 0) 28
  have kb := hk0.below al hk0.lt
  have hb := below_next hb0 hb0.size al
  clear al hk0 hb0
  generalize w0.alloc (.cells #[.int .i64 0, .slice none 0 0] 28) = w1 at kr kb hb ⊢
  clear hs0
  have hown := (cown_empty w1 w1.heap.size 46 2 (Nat.le_refl _)).drew
  have al : Below w1.heap.size w1 ((w1.alloc (.cells #[] 46)).drew) := ((Below.refl w1.heap.size w1).alloc (Nat.le_refl _) _).drew
  have hal : ((w1.alloc (.cells #[] 46)).drew).heap.size = w1.heap.size + 1 := by show (w1.heap.push _).size = _; simp
  have hll := encC_len l
  rw [HL.out] at hll
  obtain ⟨b0, b1⟩ := kb.two
  have u0 := (al.cell (p := ⟨w.heap.size, 0, none⟩) kb.lt).trans b0
  have u1 := (al.cell (p := ⟨w.heap.size, 1, none⟩) kb.lt).trans b1
  have hr1 := (hr.below (below_next hb hb.size al) hB)
  have hlt1 := kb.lt
  have hltr := kr.lt
  rcases A with _ | ad
  · have hl0 : l = [] := by
      cases h : encC l with
      | nil => have := encC_len l; rw [h] at this; simp only [List.length_nil] at this; exact List.eq_nil_of_length_eq_zero (by omega)
      | cons u t => obtain ⟨b, off, e, _⟩ := hr 0 u (by rw [h]; rfl); cases e
    subst hl0
    obtain rfl : n = 0 := by rw [← HL.out]; rfl
    obtain rfl := hca rfl
    have kr1 : Bk ((w1.alloc (.cells #[] 46)).drew) (w.heap.size + 1) 28 #[.int .i64 0, .slice none 0 0] := kr.below al hltr
    have hb1 := below_next hb hb.size al
    go_region_held3 (fun w' => w'.cell? ⟨w.heap.size, 0, none⟩ = some (.int .i64 nx) ∧ w'.cell? ⟨w.heap.size, 1, none⟩ = some (.slice none 0 0))
      (first | exact ⟨b0, b1⟩ | exact ⟨u0, u1⟩ | exact ⟨v0, v1⟩ | go_keep)
      (first
        | (refine step_append_none (by rfl) _ _ 26 (by rfl) w1.heap.size 46 i0 2 Try.underlying26 hi _ _ _ (by rfl) hown (by rfl) ?_; intro w3 hw3; have hown3 := hown; have kr3 := kr1; have hb3 := hb1; have v0 := u0; have v1 := u1; rw [hw3] at hown3 kr3 hb3 v0 v1; have fr := kr3.frozen; obtain ⟨r0, r1⟩ := kr3.two))
    clear v0 v1 u0 u1 b0 b1 r0 r1
    go_wp2
    have ho := own_other hown3 (only_setCell (only_setCell (grown_refl w3 (some (w.heap.size + 1))) 0 (.int .i64 nx)) 1 (.slice (some ⟨w1.heap.size, 0, none⟩) 0 0)) (fun k hk e => by injection hk with hk; have := (hown3.lt k e).1; omega)
    exact bodyPost_ret (results_bf rfl _ _ (w.heap.size + 1) #[.int .i64 nx, .slice (some ⟨w1.heap.size, 0, none⟩) 0 0] rfl (kr3.set2 (.int .i64 nx) (.slice (some ⟨w1.heap.size, 0, none⟩) 0 0)) rfl) rfl (OutBf.of_own (below_set2 hb3 (Nat.le_succ _) (.int .i64 nx) (.slice (some ⟨w1.heap.size, 0, none⟩) 0 0)) (ho) (by omega) HL.out)
  · have kr1 : Bk ((w1.alloc (.cells #[] 46)).drew) (w.heap.size + 1) 28 #[.int .i64 0, .slice none 0 0] := kr.below al hltr
    have kb1 : Bk ((w1.alloc (.cells #[] 46)).drew) w.heap.size 28 #[.int .i64 nx, .slice (some ad) n c] := kb.below al hlt1
    have hb1 := below_next hb hb.size al
    go_region_held3 (fun w' => w'.cell? ⟨w.heap.size, 0, none⟩ = some (.int .i64 nx) ∧ w'.cell? ⟨w.heap.size, 1, none⟩ = some (.slice (some ad) n c))
      (first | exact ⟨b0, b1⟩ | exact ⟨u0, u1⟩ | exact ⟨v0, v1⟩ | go_keep)
      (first
        | (refine step_append_any (by rfl) _ _ 26 (by rfl) w1.heap.size 46 i0 (.agg #[.int .i64 0, .string ⟨#[]⟩]) 2 24 Try.underlying26 hi hz0 hz1 hz2 rfl (by omega) _ _ _ (by rfl) hown ad n c (encC l) (by rfl) (by rw [hll, Nat.mul_comm]) (fun j u hj => by
            obtain ⟨b, off, e, _, hc⟩ := hr1 j u hj
            injection e with e
            subst e
            have : (⟨b, off, none⟩ : Addr).add j = ⟨b, off + j, none⟩ := by unfold Addr.add; split <;> simp_all
            rw [this]; exact hc) (encC_one l) (by unfold maxLen; omega) (by omega) (by rw [hal]; omega) ?_; intro vv w3 hown3 hgrow3; obtain ⟨A3, c3, rfl, _, _⟩ := Rd.of_own hown3; have v0 := hgrow3.cell (a := ⟨w.heap.size, 0, none⟩) u0 (fun e => by injection e with e; have : w1.heap.size = w.heap.size := e.symm; omega); have v1 := hgrow3.cell (a := ⟨w.heap.size, 1, none⟩) u1 (fun e => by injection e with e; have : w1.heap.size = w.heap.size := e.symm; omega); have kr3 := kr1.grown hgrow3 (fun e => by injection e with e; have : w.heap.size + 1 = w1.heap.size := e; omega); have hb3 : Below w.heap.size w w3 := hb1.grown hgrow3 (by rw [hal]; have := hb.size; omega) (fun k hk => by injection hk with hk; have : w1.heap.size = k := hk; have := hb.size; omega); have fr := kr3.frozen; obtain ⟨r0, r1⟩ := kr3.two))
    clear v0 v1 u0 u1 b0 b1 r0 r1
    go_wp2
    have ho := own_other hown3 (only_setCell (only_setCell (grown_refl w3 (some (w.heap.size + 1))) 0 (.int .i64 nx)) 1 (.slice A3 n c3)) (fun k hk e => by injection hk with hk; have := (hown3.lt k e).1; omega)
    exact bodyPost_ret (results_bf rfl _ _ (w.heap.size + 1) #[.int .i64 nx, .slice A3 n c3] rfl (kr3.set2 (.int .i64 nx) (.slice A3 n c3)) rfl) rfl (OutBf.of_own (below_set2 hb3 (Nat.le_succ _) (.int .i64 nx) (.slice A3 n c3)) (by simpa using ho) (by omega) HL.out)
end Go.Proofs.Ytnndhkdigmkddaa
