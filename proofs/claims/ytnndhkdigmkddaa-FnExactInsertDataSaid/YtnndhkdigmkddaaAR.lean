/- AddRange of the reference. No conditions. -/
import Derived.Test.YtnndhkdigmkddaaE11
import Derived.Test.YtnndhkdigmkddaaE12
import Derived.Test.YtnndhkdigmkddaaRMath
import Derived.Laws.AppendOwnNone
import Derived.StillTailTactics
namespace Go.Proofs.Ytnndhkdigmkddaa
open Go.ChangeShapes Go.WideShapes Go.ChangeAt Go.RowKit Go.Sort RM
set_option linter.unusedVariables false
set_option linter.unusedSimpArgs false
theorem isR_if (r : R) : isR r = (decide (0 ≤ r.1) && decide (r.1 < r.2) && decide (r.2 ≤ 4611686018427387903)) := rfl
theorem l3Fine_any (a b : Int) (w : World) : Calls Try.prog 48 #[.agg #[.int .i64 a, .int .i64 b]] w fun e w' => e = .returned (.bool (isR (a, b))) ∧ Below w.heap.size w w' := by
  go_enter Try.func48, Try.ntmps48
  go_wp2
  all_goals go_ret
  all_goals exact ⟨ret_bool (by simp [isR_if]; try omega), (Below.refl _ _).alloc (Nat.le_refl _) _⟩
theorem okAt_hid {l : List R} {k : Nat} {x y : Int} (h : l.getD k (0, 0) = (x, y)) (hf : isR (x, y) = false) : okAt l k = false := by
  unfold okAt; rw [h, hf]; rfl
theorem okAt_first {l : List R} {x y : Int} (h : l.getD 0 (0, 0) = (x, y)) (hf : isR (x, y) = true) : okAt l 0 = true := by
  unfold okAt; rw [h, hf]; rfl
theorem okAt_next {l : List R} {k : Nat} {x y px py : Int} (h0 : 0 < k) (h : l.getD k (0, 0) = (x, y)) (hp : l.getD (k - 1) (0, 0) = (px, py)) (hf : isR (x, y) = true) : okAt l k = decide (py < x) := by
  unfold okAt; rw [h, hp, hf]
  have : (k == 0) = false := by rw [beq_eq_false_iff_ne]; omega
  rw [this]; simp
theorem sIs {A : Option Addr} {c n : Nat} {w : World} {B : Nat} {l : List R} (hB : B ≤ w.heap.size) (hr : Rd w B A (encR l)) (hm : n ≤ 9223372036854775807) (HL : Hid (l.length = n)) :
    Calls Try.prog 47 #[.slice A n c] w fun e w' => e = .returned (.bool (isRs l)) ∧ Below w.heap.size w w' := by
  go_enter Try.func47, Try.ntmps47
  go_wp2
  go_loopw [3] (fun i wr => ∃ k : Nat, k ≤ n ∧ i = .int .i64 k ∧ (∀ j, j < k → okAt l j = true) ∧ Below w.heap.size w wr) (fun i _ => n - (intOf i).toNat)
  case atStart => exact ⟨0, Nat.zero_le _, rfl, fun j hj => by omega, Below.refl _ _⟩
  case round =>
    obtain ⟨k, hk, rfl, he, hbw⟩ := hrel
    have HE := Lib.hid he; clear he
    by_cases hlt : k < n
    · obtain ⟨b, off, x, y, rfl, hb, HX, c0, c1⟩ := (hr.below hbw hB).rng (k := k) (by rw [HL.out]; exact hlt)
      have k0 := cell_regrown c0
      have k1 := cell_regrown c1
      cases hf : isR (x, y)
      · go_wp2
        refine wp_region_quiet_below (by kernel_rfl) (by kernel_rfl) ?_
        repeat (go_big_quiet_step ((go_at_call 48; exact Calls.regrown_of (l3Fine_any _ _ _))))
        refine wpQuiet_nil ?_
        intro _ hw'
        obtain ⟨⟨dq, osq⟩, hw''⟩ := hw'
        subst hw''
        have hb2 := below_next hbw hbw.size (below_regrown _ dq osq)
        generalize grow (redrawn _ dq) osq = w2 at hb2 ⊢
        clear k0 k1 c0 c1 hbw
        go_wp2
        go_ret
        exact ⟨ret_bool (isRs_false (by rw [HL.out]; exact hlt) (okAt_hid HX.out hf)).symm, hb2⟩
      · by_cases hk0 : k = 0
        · have hkz : k ≤ 0 := by omega
          have hd : decide (0 < k) = false := by simp; omega
          have hd1 : decide ((0 : Int) < (k : Int)) = false := by simp; omega
          have HK := Lib.hid hk0; clear hk0
          go_wp2
          refine wp_region_quiet_below (by kernel_rfl) (by kernel_rfl) ?_
          repeat (go_big_quiet_step ((go_at_call 48; exact Calls.regrown_of (l3Fine_any _ _ _))))
          refine wpQuiet_nil ?_
          intro _ hw'
          obtain ⟨⟨dq, osq⟩, hw''⟩ := hw'
          subst hw''
          have hb2 := below_next hbw hbw.size (below_regrown _ dq osq)
          generalize grow (redrawn _ dq) osq = w2 at hb2 ⊢
          clear k0 k1 c0 c1 hbw
          go_wp2
          go_roundw
          case rel => exact ⟨k + 1, by omega, by go_num, fun j hj => by
            obtain rfl : j = k := by omega
            obtain rfl := HK.out
            exact okAt_first HX.out hf, hb2⟩
          case measure => simp [intOf]; omega
        · obtain ⟨b', off', px, py, e', hb', HP, p0, p1⟩ := (hr.below hbw hB).rng (k := k - 1) (by rw [HL.out]; omega)
          injection e' with e'
          injection e' with e1 e2
          subst e1 e2
          have q1 := cell_regrown p1
          have hpos : 0 < k := by omega
          have hd : decide (0 < k) = true := by simpa using hpos
          have hi0 : 0 ≤ (k : Int) - 1 := by omega
          have hi1 : (k : Int) - 1 < (n : Int) := by omega
          have hi2 : IntKind.i64.wrap ((k : Int) - 1) = (k : Int) - 1 := IntWalk.i64_in _ (by omega)
          have hi3 : ((k : Int) - 1).toNat = k - 1 := by omega
          by_cases hp : py < x
          · go_wp2
            refine wp_region_quiet_below (by kernel_rfl) (by kernel_rfl) ?_
            repeat (go_big_quiet_step ((go_at_call 48; exact Calls.regrown_of (l3Fine_any _ _ _))))
            refine wpQuiet_nil ?_
            intro _ hw'
            obtain ⟨⟨dq, osq⟩, hw''⟩ := hw'
            subst hw''
            have hb2 := below_next hbw hbw.size (below_regrown _ dq osq)
            generalize grow (redrawn _ dq) osq = w2 at hb2 ⊢
            clear k0 k1 c0 c1 q1 p0 p1 hbw
            go_wp2
            go_roundw
            case rel => exact ⟨k + 1, by omega, by go_num, fun j hj => by
              by_cases hj' : j < k
              · exact HE.out j hj'
              · obtain rfl : j = k := by omega
                rw [okAt_next hpos HX.out HP.out hf]; simpa using hp, hb2⟩
            case measure => simp [intOf]; omega
          · go_wp2
            refine wp_region_quiet_below (by kernel_rfl) (by kernel_rfl) ?_
            repeat (go_big_quiet_step ((go_at_call 48; exact Calls.regrown_of (l3Fine_any _ _ _))))
            refine wpQuiet_nil ?_
            intro _ hw'
            obtain ⟨⟨dq, osq⟩, hw''⟩ := hw'
            subst hw''
            have hb2 := below_next hbw hbw.size (below_regrown _ dq osq)
            generalize grow (redrawn _ dq) osq = w2 at hb2 ⊢
            clear k0 k1 c0 c1 q1 p0 p1 hbw
            go_wp2
            go_ret
            exact ⟨ret_bool (isRs_false (by rw [HL.out]; exact hlt) (by rw [okAt_next hpos HX.out HP.out hf]; simpa using hp)).symm, hb2⟩
    · go_wp2
      go_ret
      exact ⟨ret_bool (by symm; rw [isRs_iff, HL.out]; exact fun i hi => HE.out i (by omega)), hbw⟩
theorem cell_alloc {w : World} {a : Addr} {v : Value} (h : w.cell? a = some v) (o : Obj) : (w.alloc o).cell? a = some v := by
  have hb : Below w.heap.size w (w.alloc o) := (Below.refl _ _).alloc (Nat.le_refl _) _
  rw [hb.cell (World.block_lt_of_cell? w a h)]; exact h
theorem getD_get {l : List R} {k : Nat} {x y : Int} (hk : k < l.length) (h : l.getD k (0, 0) = (x, y)) : l[k] = (x, y) := by
  rw [List.getD_eq_getElem?_getD, List.getElem?_eq_getElem hk] at h; exact h
theorem take_snoc {l : List R} {k : Nat} {x y : Int} (hk : k < l.length) (h : l.getD k (0, 0) = (x, y)) : l.take (k + 1) = l.take k ++ [(x, y)] := by
  rw [List.take_succ_eq_append_getElem hk, getD_get hk h]
theorem gap_all {l : List R} {n k : Nat} (hl : l.length = n) (hk : n ≤ k) : l.take k = l := List.take_of_length_le (by omega)
/-- A new slice of ranges is handed back, which lies in the call's own memory. -/
def OutR (w : World) (L : List R) (e : Ending) (w' : World) : Prop := ∃ A c, e = .returned (.slice A L.length c) ∧ Below w.heap.size w w' ∧ w'.ownsRow w.heap.size 54 2 (.slice A L.length c) L.length (encR L)
theorem own_empty (w : World) (base : Nat) (T : TypeId) (size : Nat) (hb : base ≤ w.heap.size) : (w.alloc (.cells #[] T)).ownsRow base T size (.slice (some ⟨w.heap.size, 0, none⟩) 0 0) 0 [] :=
  World.ownsRow_made w #[] 0 hb (by unfold maxLen; omega) (by simp)
theorem OutR.of_own {w w' : World} {L : List R} {v : Value} {n : Nat} (hb : Below w.heap.size w w') (h : w'.ownsRow w.heap.size 54 2 v n (encR L)) (hn : n = L.length) : OutR w L (.returned v) w' := by
  obtain ⟨A, c, rfl, _, _⟩ := Rd.of_own h
  subst hn
  exact ⟨A, c, rfl, hb, h⟩
theorem own_any_nil {w : World} {base : Nat} {e : TypeId} {size n : Nat} {v : Value} {xs : List Value} (h : w.ownsRow base e size v n xs) : ∀ k, v.ownBlock = some k → base ≤ k := fun k hk => (h.lt k hk).1
set_option maxRecDepth 20000 in
theorem sCopy {A : Option Addr} {c n : Nat} {w : World} {B : Nat} {l : List R} (hB : B ≤ w.heap.size) (hr : Rd w B A (encR l)) (hm : n ≤ 1048577) (HL : Hid (l.length = n)) :
    Calls Try.prog 49 #[.slice A n c] w (OutR w l) := by
  obtain ⟨i0, hi, hz0, hz1, hz2⟩ := info_parts info_rng
  have hown := own_empty w w.heap.size 54 2 (Nat.le_refl _)
  have hb1 : Below w.heap.size w (w.alloc (.cells #[] 54)) := (Below.refl _ _).alloc (Nat.le_refl _) _
  have HR := Lib.hid (hr.below hb1 hB)
  have hone : ∀ u ∈ encR l, u.oneCell' = true := by
    intro u hu; simp only [encR, List.mem_flatMap, List.mem_cons, List.mem_nil_iff, or_false] at hu
    obtain ⟨r, _, rfl | rfl⟩ := hu <;> rfl
  have hll := encR_len l
  rw [HL.out] at hll
  have HO := Lib.hid hone; clear hone
  have HLL := Lib.hid hll; clear hll
  have HW := Lib.hid hown; clear hown
  rcases A with _ | ad
  · have hl0 : encR l = [] := by
      cases h : encR l with
      | nil => rfl
      | cons u t => obtain ⟨b, off, e, _⟩ := hr 0 u (by rw [h]; rfl); cases e
    have hn0 : l = [] := by have := encR_len l; rw [hl0] at this; simp only [List.length_nil] at this; exact List.eq_nil_of_length_eq_zero (by omega)
    subst hn0
    obtain rfl : n = 0 := by rw [← HL.out]; rfl
    go_enter Try.func49, Try.ntmps49
    go_wp2
    go_ret
    exact OutR.of_own (L := []) hb1 HW.out rfl
  · go_enter Try.func49, Try.ntmps49
    go_wp2_with (at_builtin; refine wpList_append_own _ rfl _ _ 50 rfl w.heap.size 54 i0 (.agg #[.int .i64 0, .int .i64 0]) 2 16 Try.underlying50 hi hz0 hz1 hz2 rfl (by decide) _ _ _ rfl HW.out ad n c (encR l) rfl (by rw [HLL.out, Nat.mul_comm]) ?c1 HO.out ?c3 ?c4 hb1.size ?_)
    case c3 => unfold maxLen; omega
    case c4 => omega
    case c1 =>
      intro j u hj
      obtain ⟨b, off, e, _, hc⟩ := HR.out j u hj
      injection e with e
      subst e
      have : (⟨b, off, none⟩ : Addr).add j = ⟨b, off + j, none⟩ := by unfold Addr.add; split <;> simp_all
      rw [this]; exact hc
    · intro v' w1 hown1 hgrow _
      have hb2 : Below w.heap.size w w1 := hb1.grown hgrow (by simp) (fun k hk => by simp [Value.ownBlock] at hk; omega)
      try simp only [Nat.zero_add, List.nil_append] at hown1
      have HW1 := Lib.hid hown1; clear hown1 hgrow
      go_wp2
      go_ret
      exact OutR.of_own hb2 HW1.out HL.out.symm
theorem news2 {w : World} {g : Nat} {T : TypeId} (u v : Value) (hg : g = w.heap.size) : ∀ (j : Nat) (x : Value), [u, v][j]? = some x → (w.alloc (.cells #[u, v] T)).cell? ((⟨g, 0, none⟩ : Addr).add j) = some x := by
  subst hg
  intro j x hj
  match j, hj with
  | 0, hj => simp at hj; subst hj; simp [Addr.add, go_sem]
  | 1, hj => simp at hj; subst hj; simp [Addr.add, go_sem]
  | j + 2, hj => simp at hj
theorem one2 (a b : Int) : ∀ u ∈ [Value.int .i64 a, Value.int .i64 b], u.oneCell' = true := by intro u hu; simp at hu; rcases hu with rfl | rfl <;> rfl
/-- The state of a call that builds a slice of ranges, with the boxed range (a, b) in its first block. -/
structure Inv (w wr : World) (a b : Int) (v : Value) (L : List R) : Prop where
  own : wr.ownsRow (w.heap.size + 1) 54 2 v L.length (encR L)
  box : Bk wr w.heap.size 54 #[.int .i64 a, .int .i64 b]
  bel : Below w.heap.size w wr
theorem Inv.lt {w wr : World} {a b : Int} {v : Value} {L : List R} (h : Inv w wr a b v L) : w.heap.size + 1 ≤ wr.heap.size := h.box.lt
theorem Inv.below {w wr w1 : World} {a b : Int} {v : Value} {L : List R} (h : Inv w wr a b v L) (hb : Below wr.heap.size wr w1) : Inv w w1 a b v L :=
  ⟨own_step h.own hb, h.box.below hb h.box.lt, below_next h.bel h.bel.size hb⟩
theorem Inv.app {w wr Wp w1 : World} {a b x y : Int} {v v' : Value} {L : List R} {m : Nat} (h : Inv w wr a b v L) (hp : Below wr.heap.size wr Wp) (hm : m = L.length + 1) (ho : w1.ownsRow (w.heap.size + 1) 54 2 v' m (encR L ++ [.int .i64 x, .int .i64 y])) (hg : Wp.grownBy w1 v.ownBlock) : Inv w w1 a b v' (L ++ [(x, y)]) := by
  have h1 := h.below hp
  subst hm
  refine ⟨by rw [encR_snoc]; simpa using ho, h1.box.grown hg (fun e => ?_), h1.bel.grown hg h1.bel.size (fun k hk => ?_)⟩
  · have := (h.own.lt _ e.symm).1; omega
  · have := (h.own.lt _ hk).1; omega
theorem Inv.far {w wr Wp w1 : World} {a b : Int} {v : Value} {L : List R} (h : Inv w wr a b v L) (hg : Wp.grownBy w1 v.ownBlock) {g i : Nat} {u : Value} (hgb : wr.heap.size ≤ g) (hc : Wp.cell? ⟨g, i, none⟩ = some u) : w1.cell? ⟨g, i, none⟩ = some u :=
  hg.cell hc (fun e => by have := (h.own.lt _ e.symm).2; simp only at this; omega)
theorem Inv.fin {w wr : World} {a b : Int} {v : Value} {L : List R} (h : Inv w wr a b v L) : OutR w L (.returned v) wr := OutR.of_own h.bel (own_lower h.own (by omega)) rfl
theorem min_if (y a : Int) : min y a = if a < y then a else y := by split <;> omega
theorem max_if (x b : Int) : max x b = if x < b then b else x := by split <;> omega
theorem as_lo {o : List R} {p : Bool} {a b x y : Int} (h : y < a) : addStep ⟨o, p, (a, b)⟩ (x, y) = ⟨o ++ [(x, y)], p, (a, b)⟩ := by simp [addStep, h]
theorem as_hi {o : List R} {a b x y : Int} (h : ¬ y < a) (h1 : b < x) : addStep ⟨o, true, (a, b)⟩ (x, y) = ⟨o ++ [(x, y)], true, (a, b)⟩ := by simp [addStep, h, h1]
theorem as_put {o : List R} {a b x y : Int} (h : ¬ y < a) (h1 : b < x) : addStep ⟨o, false, (a, b)⟩ (x, y) = ⟨o ++ [(a, b)] ++ [(x, y)], true, (a, b)⟩ := by simp [addStep, h, h1]
theorem as_mid {o : List R} {p : Bool} {a b x y : Int} (h : ¬ y < a) (h1 : ¬ b < x) : addStep ⟨o, p, (a, b)⟩ (x, y) = ⟨o, p, (min a x, max b y)⟩ := by simp [addStep, h, h1]
theorem add_snoc {l : List R} {k : Nat} {x y : Int} (s : AS) (hk : k < l.length) (h : l.getD k (0, 0) = (x, y)) : (l.take (k + 1)).foldl addStep s = addStep ((l.take k).foldl addStep s) (x, y) := by
  rw [take_snoc hk h, List.foldl_append]; rfl
theorem add_len {l : List R} {k n : Nat} {a b a' b' : Int} {o : List R} {p : Bool} (hl : l.length = n) (h : (l.take k).foldl addStep ⟨[], false, (a, b)⟩ = ⟨o, p, (a', b')⟩) : o.length ≤ n + 1 := by
  have h1 := addFold_len (l.take k) ⟨[], false, (a, b)⟩
  rw [h] at h1
  have h2 : (l.take k).length ≤ n := by rw [List.length_take]; omega
  simp [AS.sz] at h1
  omega
theorem Inv.store {w wr : World} {a b : Int} {v : Value} {L : List R} (h : Inv w wr a b v L) (a' b' : Int) : Inv w ((wr.setCell ⟨w.heap.size, 0, none⟩ (.int .i64 a')).setCell ⟨w.heap.size, 1, none⟩ (.int .i64 b')) a' b' v L :=
  ⟨ownsRow_setCell_below (ownsRow_setCell_below h.own (by show w.heap.size < _; omega) _) (by show w.heap.size < _; omega) _, by simpa using (h.box.set_ 0 (.int .i64 a')).set_ 1 (.int .i64 b'), (h.bel.setCell (p := ⟨w.heap.size, 0, none⟩) (Nat.le_refl _) _).setCell (p := ⟨w.heap.size, 1, none⟩) (Nat.le_refl _) _⟩
theorem Inv.store1 {w wr : World} {a b : Int} {v : Value} {L : List R} (h : Inv w wr a b v L) (a' : Int) : Inv w (wr.setCell ⟨w.heap.size, 0, none⟩ (.int .i64 a')) a' b v L :=
  ⟨ownsRow_setCell_below h.own (by show w.heap.size < _; omega) _, by simpa using h.box.set_ 0 (.int .i64 a'), h.bel.setCell (p := ⟨w.heap.size, 0, none⟩) (Nat.le_refl _) _⟩
theorem Inv.store2 {w wr : World} {a b : Int} {v : Value} {L : List R} (h : Inv w wr a b v L) (b' : Int) : Inv w (wr.setCell ⟨w.heap.size, 1, none⟩ (.int .i64 b')) a b' v L :=
  ⟨ownsRow_setCell_below h.own (by show w.heap.size < _; omega) _, by simpa using h.box.set_ 1 (.int .i64 b'), h.bel.setCell (p := ⟨w.heap.size, 1, none⟩) (Nat.le_refl _) _⟩
theorem Inv.drew {w wr : World} {a b : Int} {v : Value} {L : List R} (h : Inv w wr a b v L) : Inv w wr.drew a b v L := ⟨h.own, h.box, h.bel.drew⟩
theorem cell_far_set {w : World} {p q : Addr} {u v : Value} (h : w.cell? q = some v) (hne : q.block ≠ p.block) : (w.setCell p u).drew.cell? q = some v := by
  show (w.setCell p u).cell? q = some v
  rw [World.cell?_setCell_other w p q u (fun e => hne (by rw [e]))]; exact h
theorem cell_far_set0 {w : World} {g : Nat} {u v : Value} (h : w.cell? ⟨g, 1, none⟩ = some v) : (w.setCell ⟨g, 0, none⟩ u).drew.cell? ⟨g, 1, none⟩ = some v := by
  show (w.setCell ⟨g, 0, none⟩ u).cell? ⟨g, 1, none⟩ = some v
  rw [World.cell?_setCell_other w _ _ u (fun e => by injection e with _ e; cases e)]; exact h
set_option maxRecDepth 20000 in
set_option maxHeartbeats 4000000 in
theorem sAdd {A : Option Addr} {c n : Nat} {w : World} {B : Nat} {l : List R} (hB : B ≤ w.heap.size) (hr : Rd w B A (encR l)) (hm : n ≤ 1048576) (HL : Hid (l.length = n)) (a b : Int) :
    Calls Try.prog 30 #[.slice A n c, .agg #[.int .i64 a, .int .i64 b]] w (OutR w (addR l (a, b))) := by
  obtain ⟨i0, hi, hz0, hz1, hz2⟩ := info_parts info_rng
  have hb1 : Below w.heap.size w (w.alloc (.cells #[.int .i64 a, .int .i64 b] 54)) := (Below.refl _ _).alloc (Nat.le_refl _) _
  have hk1 : Bk (w.alloc (.cells #[.int .i64 a, .int .i64 b] 54)) w.heap.size 54 #[.int .i64 a, .int .i64 b] := heap_alloc_new w _
  cases hI : isRs l
  · have HR := Lib.hid (show addR l (a, b) = l by unfold addR; rw [hI]; rfl)
    go_enter Try.func30, Try.ntmps30
    go_wp2_with fail
    generalize w.alloc (.cells #[.int .i64 a, .int .i64 b] 54) = w1 at hb1 hk1 ⊢
    refine (sIs (B := B) (by have := hb1.size; omega) (hr.below hb1 hB) (by omega) HL).mono ?_
    rintro e w2 ⟨rfl, hb2⟩
    have h02 := below_next hb1 hb1.size hb2
    rw [hI]
    go_wp2_with fail
    refine (sCopy (B := B) (by have := h02.size; omega) (hr.below h02 hB) (by omega) HL).mono ?_
    rintro e w3 ⟨A', c', rfl, hb3, ho3⟩
    go_wp2
    go_ret
    rw [HR.out]
    exact ⟨A', c', rfl, below_next h02 h02.size hb3, own_lower ho3 h02.size⟩
  · cases hf : isR (a, b)
    · have HR := Lib.hid (show addR l (a, b) = l by unfold addR; rw [hI, hf]; rfl)
      go_enter Try.func30, Try.ntmps30
      go_wp2_with fail
      generalize w.alloc (.cells #[.int .i64 a, .int .i64 b] 54) = w1 at hb1 hk1 ⊢
      refine (sIs (B := B) (by have := hb1.size; omega) (hr.below hb1 hB) (by omega) HL).mono ?_
      rintro e w2 ⟨rfl, hb2⟩
      have h02 := below_next hb1 hb1.size hb2
      rw [hI]
      have hk2 := hk1.below hb2 hk1.lt
      have c0 := hk2.cell 0
      have c1 := hk2.cell 1
      go_wp2_with fail
      refine (l3Fine_any a b _).mono ?_
      rintro e w3 ⟨rfl, hb3⟩
      have h03 := below_next h02 h02.size hb3
      rw [hf]
      go_wp2_with fail
      refine (sCopy (B := B) (by have := h03.size; omega) (hr.below h03 hB) (by omega) HL).mono ?_
      rintro e w4 ⟨A', c', rfl, hb4, ho4⟩
      go_wp2
      go_ret
      rw [HR.out]
      exact ⟨A', c', rfl, below_next h03 h03.size hb4, own_lower ho4 h03.size⟩
    · have HR := Lib.hid (show addR l (a, b) = (addFold l (a, b)).fin by unfold addR; rw [hI, hf]; rfl)
      go_enter Try.func30, Try.ntmps30
      go_wp2_with fail
      generalize w.alloc (.cells #[.int .i64 a, .int .i64 b] 54) = w1 at hb1 hk1 ⊢
      refine (sIs (B := B) (by have := hb1.size; omega) (hr.below hb1 hB) (by omega) HL).mono ?_
      rintro e w2 ⟨rfl, hb2⟩
      have h02 := below_next hb1 hb1.size hb2
      rw [hI]
      have hk2 := hk1.below hb2 hk1.lt
      have c0 := hk2.cell 0
      have c1 := hk2.cell 1
      go_wp2_with fail
      refine (l3Fine_any a b _).mono ?_
      rintro e w3 ⟨rfl, hb3⟩
      have h03 := below_next h02 h02.size hb3
      have hk3 := hk2.below hb3 hk2.lt
      rw [hf]
      clear c0 c1
      have HI := Lib.hid hI; clear hI
      have HF := Lib.hid hf; clear hf
      have hsz : w.heap.size + 1 ≤ w3.heap.size := hk3.lt
      have hown := own_empty w3 (w.heap.size + 1) 54 2 hsz
      have h04 := h03.alloc h03.size (.cells #[] 54)
      have hk4 : Bk (w3.alloc (.cells #[] 54)) w.heap.size 54 #[.int .i64 a, .int .i64 b] := (Below.heap_alloc w3 _ _ hk3.lt).trans hk3
      have HV0 : Hid (Inv w (w3.alloc (.cells #[] 54)) a b (.slice (some ⟨w3.heap.size, 0, none⟩) 0 0) []) := ⟨hown, hk4, h04⟩
      clear hk4 hk1 hk2 hk3 hown hb1 h02 h03 h04 hb2 hb3
      go_wp2
      go_loopw [5, 6, 7] (fun v pl i wr => ∃ (k : Nat) (o : List R) (p : Bool) (a' b' : Int), k ≤ n ∧ i = .int .i64 k ∧ pl = .bool p ∧ (l.take k).foldl addStep ⟨[], false, (a, b)⟩ = ⟨o, p, (a', b')⟩ ∧ Inv w wr a' b' v o) (fun v pl i _ => n - (intOf i).toNat)
      case atStart => exact ⟨0, [], false, a, b, Nat.zero_le _, rfl, rfl, rfl, HV0.out⟩
      case round =>
        obtain ⟨k, o, p, a', b', hk, rfl, rfl, hst, hinv⟩ := hrel
        clear HV0
        have HLN := Lib.hid (add_len HL.out hst)
        have HST := Lib.hid hst; clear hst
        have HV := Lib.hid hinv; clear hinv
        have e0 : wr.cell? ⟨w.heap.size, 0, none⟩ = some (.int .i64 a') := HV.out.box.cell 0
        have e1 : wr.cell? ⟨w.heap.size, 1, none⟩ = some (.int .i64 b') := HV.out.box.cell 1
        by_cases hlt : k < n
        · obtain ⟨b1, off1, x, y, rfl, hb', HX, d0, d1⟩ := (hr.below HV.out.bel hB).rng (k := k) (by rw [HL.out]; exact hlt)
          have HS := Lib.hid (add_snoc ⟨[], false, (a, b)⟩ (by rw [HL.out]; exact hlt) HX.out)
          by_cases h1 : y < a'
          · have hdt : decide (y < a') = true := by simpa using h1
            have k0 := cell_regrown d0
            have k1 := cell_regrown d1
            have g0 := cell_regrown e0
            have g1 := cell_regrown e1
            go_wp2
            refine wp_region_quiet_below (by kernel_rfl) (by kernel_rfl) ?_
            repeat (go_big_quiet_step (fail))
            refine wpQuiet_nil ?_
            intro _ hw'
            obtain ⟨⟨dq, osq⟩, hw''⟩ := hw'
            subst hw''
            have HVn := Lib.hid (HV.out.below (below_regrown _ dq osq))
            replace d0 := k0 dq osq
            replace d1 := k1 dq osq
            replace e0 := g0 dq osq
            replace e1 := g1 dq osq
            clear k0 k1 g0 g1
            generalize grow (redrawn _ dq) osq = w4 at HVn d0 d1 e0 e1 ⊢
            clear HV
            rename Hid (Inv w w4 a' b' _ _) => HV
            have hsz2 : w.heap.size < w4.heap.size := HV.out.box.lt
            have HP2 : Hid (Below w4.heap.size w4 (w4.alloc (.cells #[.int .i64 x, .int .i64 y] 54))) := (Below.refl _ _).alloc (Nat.le_refl _) _
            go_wp2_with (at_builtin; refine wpList_append_own _ rfl (.tmp 52) (.tmp 57) 50 rfl (w.heap.size + 1) 54 i0 (.agg #[.int .i64 0, .int .i64 0]) 2 16 Try.underlying50 hi hz0 hz1 hz2 rfl (by decide) _ _ _ rfl (HV.out.own.alloc _) ⟨w4.heap.size, 0, none⟩ 1 1 [.int .i64 x, .int .i64 y] rfl rfl (news2 _ _ (by simp)) (one2 _ _) (by have := HLN.out; unfold maxLen; omega) (by have := HLN.out; omega) (by simp; omega) ?_)
            intro v1 w5 hown1 hgrow1 _
            have HV1 := Lib.hid (HV.out.app HP2.out (by simp) hown1 hgrow1)
            clear hown1 hgrow1 d0 d1 e0 e1
            go_wp2
            go_roundw
            case rel => exact ⟨k + 1, _, _, a', b', by omega, by go_num, rfl, by rw [HS.out, HST.out, as_lo (by omega)], HV1.out⟩
            case measure => simp [intOf]; omega
          · have hdt : decide (y < a') = false := by simp; omega
            have k0 := cell_regrown d0
            have k1 := cell_regrown d1
            have g0 := cell_regrown e0
            have g1 := cell_regrown e1
            go_wp2
            refine wp_region_quiet_below (by kernel_rfl) (by kernel_rfl) ?_
            repeat (go_big_quiet_step (fail))
            refine wpQuiet_nil ?_
            intro _ hw'
            obtain ⟨⟨dq, osq⟩, hw''⟩ := hw'
            subst hw''
            have HVn := Lib.hid (HV.out.below (below_regrown _ dq osq))
            replace d0 := k0 dq osq
            replace d1 := k1 dq osq
            replace e0 := g0 dq osq
            replace e1 := g1 dq osq
            clear k0 k1 g0 g1
            generalize grow (redrawn _ dq) osq = w4 at HVn d0 d1 e0 e1 ⊢
            clear HV
            rename Hid (Inv w w4 a' b' _ _) => HV
            clear hdt
            by_cases h2 : b' < x
            · have hdt : decide (b' < x) = true := by simpa using h2
              have k0 := cell_regrown d0
              have k1 := cell_regrown d1
              have g0 := cell_regrown e0
              have g1 := cell_regrown e1
              go_wp2
              refine wp_region_quiet_below (by kernel_rfl) (by kernel_rfl) ?_
              repeat (go_big_quiet_step (fail))
              refine wpQuiet_nil ?_
              intro _ hw'
              obtain ⟨⟨dq, osq⟩, hw''⟩ := hw'
              subst hw''
              have HVn := Lib.hid (HV.out.below (below_regrown _ dq osq))
              replace d0 := k0 dq osq
              replace d1 := k1 dq osq
              replace e0 := g0 dq osq
              replace e1 := g1 dq osq
              clear k0 k1 g0 g1
              generalize grow (redrawn _ dq) osq = w5 at HVn d0 d1 e0 e1 ⊢
              clear HV
              rename Hid (Inv w w5 a' b' _ _) => HV
              have hsz2 : w.heap.size < w5.heap.size := HV.out.box.lt
              cases p
              · have HP3 : Hid (Below w5.heap.size w5 (w5.alloc (.cells #[.int .i64 a', .int .i64 b'] 54))) := (Below.refl _ _).alloc (Nat.le_refl _) _
                go_wp2_with (at_builtin; refine wpList_append_own _ rfl (.tmp 70) (.tmp 72) 50 rfl (w.heap.size + 1) 54 i0 (.agg #[.int .i64 0, .int .i64 0]) 2 16 Try.underlying50 hi hz0 hz1 hz2 rfl (by decide) _ _ _ rfl (HV.out.own.alloc _) ⟨w5.heap.size, 0, none⟩ 1 1 [.int .i64 a', .int .i64 b'] rfl rfl (news2 _ _ (by simp)) (one2 _ _) (by have := HLN.out; unfold maxLen; omega) (by have := HLN.out; omega) (by simp; omega) ?_)
                intro v1 w6 hown1 hgrow1 _
                have HV1 := Lib.hid (HV.out.app HP3.out (by simp) hown1 hgrow1)
                have q0 : w6.cell? ⟨b1, off1 + k * 2, none⟩ = some (.int .i64 x) := by rw [hgrow1.cell (cell_alloc d0 _) (fun e => by have := (HV.out.own.lt _ e.symm).1; simp only at this; omega)]
                have q1 : w6.cell? ⟨b1, off1 + k * 2 + 1, none⟩ = some (.int .i64 y) := by rw [hgrow1.cell (cell_alloc d1 _) (fun e => by have := (HV.out.own.lt _ e.symm).1; simp only at this; omega)]
                have hz4 := HV1.out.lt
                clear hown1 hgrow1 d0 d1 e0 e1
                have HP4 : Hid (Below w6.heap.size w6 (w6.alloc (.cells #[.int .i64 x, .int .i64 y] 54))) := (Below.refl _ _).alloc (Nat.le_refl _) _
                go_wp2_with (at_builtin; refine wpList_append_own _ rfl (.tmp 74) (.tmp 79) 50 rfl (w.heap.size + 1) 54 i0 (.agg #[.int .i64 0, .int .i64 0]) 2 16 Try.underlying50 hi hz0 hz1 hz2 rfl (by decide) _ _ _ rfl (HV1.out.own.alloc _) ⟨w6.heap.size, 0, none⟩ 1 1 [.int .i64 x, .int .i64 y] rfl rfl (news2 _ _ (by simp)) (one2 _ _) (by have := HLN.out; unfold maxLen; simp only [List.length_append, List.length_singleton]; omega) (by have := HLN.out; simp only [List.length_append, List.length_singleton]; omega) (by simp; omega) ?_)
                intro v2 w7 hown2 hgrow2 _
                have HV2 := Lib.hid (HV1.out.app HP4.out (by simp) hown2 hgrow2)
                clear hown2 hgrow2 q0 q1
                go_wp2
                go_roundw
                case rel => exact ⟨k + 1, _, true, a', b', by omega, by go_num, rfl, by rw [HS.out, HST.out, as_put (by omega) (by omega)], HV2.out⟩
                case measure => simp [intOf]; omega
              · have HP2 : Hid (Below w5.heap.size w5 (w5.alloc (.cells #[.int .i64 x, .int .i64 y] 54))) := (Below.refl _ _).alloc (Nat.le_refl _) _
                go_wp2_with (at_builtin; refine wpList_append_own _ rfl (.tmp 74) (.tmp 79) 50 rfl (w.heap.size + 1) 54 i0 (.agg #[.int .i64 0, .int .i64 0]) 2 16 Try.underlying50 hi hz0 hz1 hz2 rfl (by decide) _ _ _ rfl (HV.out.own.alloc _) ⟨w5.heap.size, 0, none⟩ 1 1 [.int .i64 x, .int .i64 y] rfl rfl (news2 _ _ (by simp)) (one2 _ _) (by have := HLN.out; unfold maxLen; omega) (by have := HLN.out; omega) (by simp; omega) ?_)
                intro v1 w6 hown1 hgrow1 _
                have HV1 := Lib.hid (HV.out.app HP2.out (by simp) hown1 hgrow1)
                clear hown1 hgrow1 d0 d1 e0 e1
                go_wp2
                go_roundw
                case rel => exact ⟨k + 1, _, true, a', b', by omega, by go_num, rfl, by rw [HS.out, HST.out, as_hi (by omega) (by omega)], HV1.out⟩
                case measure => simp [intOf]; omega
            · have hdt : decide (b' < x) = false := by simp; omega
              have k0 := cell_regrown d0
              have k1 := cell_regrown d1
              have g0 := cell_regrown e0
              have g1 := cell_regrown e1
              go_wp2
              refine wp_region_quiet_below (by kernel_rfl) (by kernel_rfl) ?_
              repeat (go_big_quiet_step (fail))
              refine wpQuiet_nil ?_
              intro _ hw'
              obtain ⟨⟨dq, osq⟩, hw''⟩ := hw'
              subst hw''
              have HVn := Lib.hid (HV.out.below (below_regrown _ dq osq))
              replace d0 := k0 dq osq
              replace d1 := k1 dq osq
              replace e0 := g0 dq osq
              replace e1 := g1 dq osq
              clear k0 k1 g0 g1
              generalize grow (redrawn _ dq) osq = w5 at HVn d0 d1 e0 e1 ⊢
              clear HV
              rename Hid (Inv w w5 a' b' _ _) => HV
              clear hdt
              have f0 : w5.frozen? ⟨w.heap.size, 0, none⟩ = false := HV.out.box.frozen 0
              have f1 : w5.frozen? ⟨w.heap.size, 1, none⟩ = false := HV.out.box.frozen 1
              have hki0 : 0 ≤ (k : Int) := Int.natCast_nonneg _
              have hki1 : (k : Int) < (n : Int) := by omega
              rcases (show (x < a' ∧ b' < y) ∨ (x < a' ∧ y ≤ b') ∨ (a' ≤ x ∧ b' < y) ∨ (a' ≤ x ∧ y ≤ b') by omega) with ⟨j1, j2⟩ | ⟨j1, j2⟩ | ⟨j1, j2⟩ | ⟨j1, j2⟩
              · have HE : Hid (((x, y) : R) = (min a' x, max b' y)) := by show ((x, y) : R) = (min a' x, max b' y); congr 1 <;> omega
                go_wp2
                go_still_tail 9, (by kernel_rfl)
                change wpList _ _ _ _ _ w5.drew
                have HV6 := Lib.hid (HV.out.store1 x).drew
                have h1' := cell_far_set (w := w5) (p := ⟨w.heap.size, 0, none⟩) (u := .int .i64 x) d1 (by show b1 ≠ w.heap.size; omega)
                have h2' := cell_far_set0 (w := w5) (u := .int .i64 x) e1
                go_wp2
                clear e0 e1 d0 d1 f0 f1
                generalize (w5.setCell ⟨w.heap.size, 0, none⟩ (.int .i64 x)).drew = w6 at HV6 h1' h2' ⊢
                have g0 : w6.cell? ⟨w.heap.size, 1, none⟩ = some (.int .i64 b') := HV6.out.box.cell 1
                have g1 : w6.frozen? ⟨w.heap.size, 1, none⟩ = false := HV6.out.box.frozen 1
                have hs6 : w.heap.size < w6.heap.size := HV6.out.box.lt
                go_still_tail 9, (by kernel_rfl)
                change wpList _ _ _ _ _ w6.drew
                have HV7 := Lib.hid (HV6.out.store2 y).drew
                go_wp2
                go_roundw
                case rel => exact ⟨k + 1, _, _, _, _, by omega, by go_num, rfl, by rw [HS.out, HST.out, as_mid (by omega) (by omega), ← HE.out], HV7.out⟩
                case measure => simp [intOf]; omega
              · have HE : Hid (((x, b') : R) = (min a' x, max b' y)) := by show ((x, b') : R) = (min a' x, max b' y); congr 1 <;> omega
                go_wp2
                go_still_tail 9, (by kernel_rfl)
                change wpList _ _ _ _ _ w5.drew
                have HV6 := Lib.hid (HV.out.store1 x).drew
                have h1' := cell_far_set (w := w5) (p := ⟨w.heap.size, 0, none⟩) (u := .int .i64 x) d1 (by show b1 ≠ w.heap.size; omega)
                have h2' := cell_far_set0 (w := w5) (u := .int .i64 x) e1
                go_wp2
                clear e0 e1 d0 d1 f0 f1
                generalize (w5.setCell ⟨w.heap.size, 0, none⟩ (.int .i64 x)).drew = w6 at HV6 h1' h2' ⊢
                have g0 : w6.cell? ⟨w.heap.size, 1, none⟩ = some (.int .i64 b') := HV6.out.box.cell 1
                have g1 : w6.frozen? ⟨w.heap.size, 1, none⟩ = false := HV6.out.box.frozen 1
                have hs6 : w.heap.size < w6.heap.size := HV6.out.box.lt
                go_still_tail 9, (by kernel_rfl)
                change wpList _ _ _ _ _ w6.drew
                have HV7 := Lib.hid (HV6.out.store2 b').drew
                go_wp2
                go_roundw
                case rel => exact ⟨k + 1, _, _, _, _, by omega, by go_num, rfl, by rw [HS.out, HST.out, as_mid (by omega) (by omega), ← HE.out], HV7.out⟩
                case measure => simp [intOf]; omega
              · have HE : Hid (((a', y) : R) = (min a' x, max b' y)) := by show ((a', y) : R) = (min a' x, max b' y); congr 1 <;> omega
                go_wp2
                go_still_tail 9, (by kernel_rfl)
                change wpList _ _ _ _ _ w5.drew
                have HV6 := Lib.hid (HV.out.store1 a').drew
                have h1' := cell_far_set (w := w5) (p := ⟨w.heap.size, 0, none⟩) (u := .int .i64 a') d1 (by show b1 ≠ w.heap.size; omega)
                have h2' := cell_far_set0 (w := w5) (u := .int .i64 a') e1
                go_wp2
                clear e0 e1 d0 d1 f0 f1
                generalize (w5.setCell ⟨w.heap.size, 0, none⟩ (.int .i64 a')).drew = w6 at HV6 h1' h2' ⊢
                have g0 : w6.cell? ⟨w.heap.size, 1, none⟩ = some (.int .i64 b') := HV6.out.box.cell 1
                have g1 : w6.frozen? ⟨w.heap.size, 1, none⟩ = false := HV6.out.box.frozen 1
                have hs6 : w.heap.size < w6.heap.size := HV6.out.box.lt
                go_still_tail 9, (by kernel_rfl)
                change wpList _ _ _ _ _ w6.drew
                have HV7 := Lib.hid (HV6.out.store2 y).drew
                go_wp2
                go_roundw
                case rel => exact ⟨k + 1, _, _, _, _, by omega, by go_num, rfl, by rw [HS.out, HST.out, as_mid (by omega) (by omega), ← HE.out], HV7.out⟩
                case measure => simp [intOf]; omega
              · have HE : Hid (((a', b') : R) = (min a' x, max b' y)) := by show ((a', b') : R) = (min a' x, max b' y); congr 1 <;> omega
                go_wp2
                go_still_tail 9, (by kernel_rfl)
                change wpList _ _ _ _ _ w5.drew
                have HV6 := Lib.hid (HV.out.store1 a').drew
                have h1' := cell_far_set (w := w5) (p := ⟨w.heap.size, 0, none⟩) (u := .int .i64 a') d1 (by show b1 ≠ w.heap.size; omega)
                have h2' := cell_far_set0 (w := w5) (u := .int .i64 a') e1
                go_wp2
                clear e0 e1 d0 d1 f0 f1
                generalize (w5.setCell ⟨w.heap.size, 0, none⟩ (.int .i64 a')).drew = w6 at HV6 h1' h2' ⊢
                have g0 : w6.cell? ⟨w.heap.size, 1, none⟩ = some (.int .i64 b') := HV6.out.box.cell 1
                have g1 : w6.frozen? ⟨w.heap.size, 1, none⟩ = false := HV6.out.box.frozen 1
                have hs6 : w.heap.size < w6.heap.size := HV6.out.box.lt
                go_still_tail 9, (by kernel_rfl)
                change wpList _ _ _ _ _ w6.drew
                have HV7 := Lib.hid (HV6.out.store2 b').drew
                go_wp2
                go_roundw
                case rel => exact ⟨k + 1, _, _, _, _, by omega, by go_num, rfl, by rw [HS.out, HST.out, as_mid (by omega) (by omega), ← HE.out], HV7.out⟩
                case measure => simp [intOf]; omega
        · have HE := Lib.hid (show addFold l (a, b) = ⟨o, p, (a', b')⟩ by have := HST.out; rw [gap_all HL.out (by omega)] at this; exact this)
          have hsz2 : w.heap.size < wr.heap.size := HV.out.box.lt
          cases p
          · have HP5 : Hid (Below wr.heap.size wr (wr.alloc (.cells #[.int .i64 a', .int .i64 b'] 54))) := (Below.refl _ _).alloc (Nat.le_refl _) _
            go_wp2_with (at_builtin; refine wpList_append_own _ rfl (.tmp 83) (.tmp 85) 50 rfl (w.heap.size + 1) 54 i0 (.agg #[.int .i64 0, .int .i64 0]) 2 16 Try.underlying50 hi hz0 hz1 hz2 rfl (by decide) _ _ _ rfl (HV.out.own.alloc _) ⟨wr.heap.size, 0, none⟩ 1 1 [.int .i64 a', .int .i64 b'] rfl rfl (news2 _ _ (by simp)) (one2 _ _) (by have := HLN.out; unfold maxLen; omega) (by have := HLN.out; omega) (by simp; omega) ?_)
            intro v1 w4 hown1 hgrow1 _
            have HV1 := Lib.hid (HV.out.app HP5.out (by simp) hown1 hgrow1)
            clear hown1 hgrow1 e0 e1
            go_wp2
            go_ret
            rw [HR.out, HE.out]
            exact HV1.out.fin
          · go_wp2
            go_ret
            rw [HR.out, HE.out]
            exact HV.out.fin
end Go.Proofs.Ytnndhkdigmkddaa
