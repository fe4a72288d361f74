/- The pieces that are put between the chunks: the closure's contract. No conditions. -/
import Derived.Test.YtnndhkdigmkddaaJ3
import Derived.Deep.RegionHeld3
namespace Go.Proofs.Ytnndhkdigmkddaa
open Go.ChangeShapes Go.WideShapes Go.ChangeAt Go.RowKit
set_option linter.unusedVariables false
set_option linter.unusedSimpArgs false
/-- What is put in ahead of a place. -/
def putK (off : Int) (d : ByteArray) (hi fr tt : Int) : List Ck := if fr < min tt hi then [(fr, d.extract (fr - off).toNat (min tt hi - off).toNat)] else []
def pcsK (off : Int) (d : ByteArray) (hi : Int) (fr : Int) : List Ck → List Ck
  | [] => putK off d hi fr hi
  | c :: l => putK off d hi fr c.1 ++ c :: pcsK off d hi (max fr (c.1 + (c.2.size : Int))) l
theorem putK_map (off : Int) (d : ByteArray) (hi fr tt : Int) (ho : off ≤ fr) : (putK off d hi fr tt).map toC = BM.put off d.data.toList hi fr tt := by
  unfold putK BM.put
  split
  · rename_i h
    simp only [List.map_cons, List.map_nil]
    unfold toC BM.sub
    simp only
    congr 2
    have e : (d.extract (fr - off).toNat (min tt hi - off).toNat).data = d.data.extract (fr - off).toNat (min tt hi - off).toNat := ByteArray.data_extract
    rw [e, Array.toList_extract, List.extract_eq_take_drop]
    congr 1
    omega
  · rfl
theorem pcsK_map (off : Int) (d : ByteArray) (hi : Int) : ∀ (l : List Ck) (fr : Int), off ≤ fr → (pcsK off d hi fr l).map toC = BM.pcs off d.data.toList hi fr (l.map toC) := by
  intro l
  induction l with
  | nil => intro fr ho; exact putK_map off d hi fr hi ho
  | cons c l ih =>
    intro fr ho
    simp only [pcsK, List.map_cons, BM.pcs, List.map_append]
    rw [putK_map _ _ _ _ _ ho, ih _ (by omega)]
    rfl
/-- Memory of InsertData of the program, ahead of the sort. -/
structure InvJ (w wr : World) (bv : Value) (nx off hi : Int) (d : ByteArray) (gf ge gl base : Nat) (fr : Int) (v : Value) (L : List Ck) : Prop where
  kb : Bk wr w.heap.size 28 #[.int .i64 nx, bv]
  ko : Bk wr (w.heap.size + 1) 3 #[.int .i64 off]
  kd : Bk wr (w.heap.size + 2) 9 #[.string d]
  kr : Bk wr (w.heap.size + 3) 28 #[.int .i64 0, .slice none 0 0]
  kf : Bk wr gf 3 #[.int .i64 fr]
  ke : Bk wr ge 3 #[.int .i64 hi]
  kl : Bk wr gl 26 #[v]
  own : wr.ownsRow base 46 2 v L.length (encC L)
  bel : Below w.heap.size w wr
  g1 : w.heap.size + 3 < gf
  g2 : w.heap.size + 3 < ge
  g3 : gf ≠ ge
  g4 : gf < base
  g5 : ge < base
  g6 : base < gl
  g7 : ∀ k, v.ownBlock = some k → k ≠ gl
theorem InvJ.below {w wr w1 : World} {bv : Value} {nx off hi : Int} {d : ByteArray} {gf ge gl base : Nat} {fr : Int} {v : Value} {L : List Ck} (h : InvJ w wr bv nx off hi d gf ge gl base fr v L) (hb : Below wr.heap.size wr w1) : InvJ w w1 bv nx off hi d gf ge gl base fr v L :=
  { h with kb := h.kb.below hb h.kb.lt, ko := h.ko.below hb h.ko.lt, kd := h.kd.below hb h.kd.lt, kr := h.kr.below hb h.kr.lt, kf := h.kf.below hb h.kf.lt, ke := h.ke.below hb h.ke.lt, kl := h.kl.below hb h.kl.lt, own := own_step h.own hb, bel := below_next h.bel h.bel.size hb }
theorem InvJ.put {w wr w1 w3 : World} {bv : Value} {nx off hi : Int} {d : ByteArray} {gf ge gl base g7 cap H : Nat} {fr : Int} {v : Value} {L : List Ck} (h : InvJ w wr bv nx off hi d gf ge gl base fr v L) (hb : Below wr.heap.size wr w1) {x : Int} {s : ByteArray}
    (ho : w3.ownsRow base 46 2 (.slice (some ⟨g7, 0, none⟩) (L.length + 1) cap) (L.length + 1) (encC L ++ [.int .i64 x, .string s])) (hg : w1.grownBy w3 v.ownBlock) (hat : v.ownBlock = some g7 ∨ g7 = H) (hH : wr.heap.size ≤ H) :
    InvJ w (w3.setCell ⟨gl, 0, none⟩ (.slice (some ⟨g7, 0, none⟩) (L.length + 1) cap)) bv nx off hi d gf ge gl base fr (.slice (some ⟨g7, 0, none⟩) (L.length + 1) cap) (L ++ [(x, s)]) := by
  have h1 := h.below hb
  have hne : ∀ k, v.ownBlock = some k → base ≤ k := fun k hk => (h.own.lt k hk).1
  have a1 := h.g1; have a2 := h.g2; have a4 := h.g4; have a5 := h.g5; have a6 := h.g6
  have hkl := h.kl.lt
  have h77 : g7 ≠ gl := by
    rcases hat with e | e
    · exact h.g7 g7 e
    · omega
  refine { h with kb := ?_, ko := ?_, kd := ?_, kr := ?_, kf := ?_, ke := ?_, kl := ?_, own := ?_, bel := ?_, g7 := ?_ }
  · exact (h1.kb.grown hg (fun e => by have := hne _ e.symm; omega)).setO (by omega) _
  · exact (h1.ko.grown hg (fun e => by have := hne _ e.symm; omega)).setO (by omega) _
  · exact (h1.kd.grown hg (fun e => by have := hne _ e.symm; omega)).setO (by omega) _
  · exact (h1.kr.grown hg (fun e => by have := hne _ e.symm; omega)).setO (by omega) _
  · exact (h1.kf.grown hg (fun e => by have := hne _ e.symm; omega)).setO (by omega) _
  · exact (h1.ke.grown hg (fun e => by have := hne _ e.symm; omega)).setO (by omega) _
  · simpa using (h1.kl.grown hg (fun e => h.g7 _ e.symm rfl)).set_ 0 (.slice (some ⟨g7, 0, none⟩) (L.length + 1) cap)
  · rw [encC_snoc, List.length_append]
    exact own_other ho (only_setCell (grown_refl w3 (some gl)) 0 (.slice (some ⟨g7, 0, none⟩) (L.length + 1) cap)) (fun k hk e => by injection hk with hk; injection e with e; exact h77 (e.trans hk.symm))
  · exact (below_only h1.bel hg h1.bel.size (fun k hk => by have := hne _ hk; omega)).setCell (p := ⟨gl, 0, none⟩) (by show w.heap.size ≤ gl; omega) _
  · intro k hk
    injection hk with hk
    subst hk
    exact h77
theorem InvJ.keep {wr w1 w3 : World} {gl : Nat} {v u : Value} (hb : Below wr.heap.size wr w1) (hg : w1.grownBy w3 v.ownBlock) : ∀ g T cs, Bk wr g T cs → g ≠ gl → v.ownBlock ≠ some g → Bk (w3.setCell ⟨gl, 0, none⟩ u) g T cs :=
  fun g T cs hk h1 h2 => ((hk.below hb hk.lt).grown hg (fun e => h2 e.symm)).setO h1 _
def OutP (w wr : World) (bv : Value) (nx off hi : Int) (d : ByteArray) (gf ge gl base : Nat) (fr : Int) (v : Value) (L L' : List Ck) (e : Ending) (w' : World) : Prop :=
  e = .returned (.tuple #[]) ∧ ∃ v', InvJ w w' bv nx off hi d gf ge gl base fr v' L' ∧ (∀ g T cs, Bk wr g T cs → g ≠ gl → v.ownBlock ≠ some g → Bk w' g T cs) ∧ wr.heap.size ≤ w'.heap.size ∧ (∀ k, v'.ownBlock = some k → v.ownBlock = some k ∨ wr.heap.size ≤ k)
set_option maxRecDepth 20000 in
set_option maxHeartbeats 4000000 in
theorem iPut {w wr : World} {bv : Value} {nx off hi : Int} {d : ByteArray} {gf ge gl base : Nat} {fr : Int} {v : Value} {L : List Ck} (tt : Int) (h : InvJ w wr bv nx off hi d gf ge gl base fr v L) (hds : d.size ≤ 1048576) (h0 : 0 ≤ off) (h1 : off ≤ fr) (h2 : fr ≤ 4611686018427387904) (hhi : hi = off + (d.size : Int)) (hhm : hi ≤ 4611686018427387903) (ht0 : 0 ≤ tt) (ht1 : tt ≤ 4611686018427387904) (hL : L.length + 1 ≤ 3000000) :
    Calls Try.prog 33 #[.int .i64 tt, .pointer (some ⟨gf, 0, none⟩), .pointer (some ⟨ge, 0, none⟩), .pointer (some ⟨gl, 0, none⟩), .pointer (some ⟨w.heap.size + 2, 0, none⟩), .pointer (some ⟨w.heap.size + 1, 0, none⟩)] wr (OutP w wr bv nx off hi d gf ge gl base fr v L (L ++ putK off d hi fr tt)) := by
  obtain ⟨i0, hi0, hz0, hz1, hz2⟩ := info_parts info_chk
  have HI := Lib.hid hi0; have HZ0 := Lib.hid hz0; have HZ1 := Lib.hid hz1; have HZ2 := Lib.hid hz2
  have H := Lib.hid h
  have hh1 : hi ≤ off + (d.size : Int) := by omega
  have hh2 : off + (d.size : Int) ≤ hi := by omega
  clear hi0 hz0 hz1 hz2 h hhi
  have cf := H.out.kf.cell 0
  have ce := H.out.ke.cell 0
  have cl := H.out.kl.cell 0
  have cd := H.out.kd.cell 0
  have co := H.out.ko.cell 0
  simp only [List.getElem?_toArray, List.getElem?_cons_zero] at cf ce cl cd co
  obtain ⟨m, hm⟩ : ∃ m : Int, min tt hi = m := ⟨_, rfl⟩
  have hmif : (if hi < tt then hi else tt) = m := by rw [← hm]; split <;> omega
  by_cases hlt : fr < m
  · have hput := Lib.hid (show putK off d hi fr tt = [(fr, d.extract (fr - off).toNat (m - off).toNat)] from by unfold putK; rw [hm, if_pos hlt])
    obtain ⟨a, ha⟩ := Int.eq_ofNat_of_zero_le (show 0 ≤ fr - off by omega)
    obtain ⟨b, hb⟩ := Int.eq_ofNat_of_zero_le (show 0 ≤ m - off by omega)
    have hw1 : IntKind.i64.wrap (fr - off) = (a : Int) := by rw [IntWalk.i64_in _ (by omega), ha]
    have hw2 : IntKind.i64.wrap (m - off) = (b : Int) := by rw [IntWalk.i64_in _ (by omega), hb]
    rw [ha, hb, Int.toNat_natCast, Int.toNat_natCast] at hput
    have p1 : a ≤ b := by omega
    have p2 : b ≤ d.size := by omega
    have p3 : (a : Int) ≤ (b : Int) := by omega
    have p4 : (b : Int) ≤ (d.size : Int) := by omega
    have p5 : (a : Int) ≤ (d.size : Int) := by omega
    have hd9 : decide (fr < m) = true := by simp; omega
    obtain ⟨S, hS⟩ : ∃ S, d.extract a b = S := ⟨_, rfl⟩
    have HS := Lib.hid hS
    have hLk := Lib.hid hL
    have alW := Lib.hid (show Below wr.heap.size wr ((wr.alloc (.cells #[.int .i64 fr, .string S] 46)).drew) from ((Below.refl wr.heap.size wr).alloc (Nat.le_refl _) _).drew)
    have alW2 := (Below.refl wr.heap.size wr).alloc (Nat.le_refl _) (.cells #[.int .i64 fr, .string S] 46)
    have u1 := (alW2.cell (p := ⟨gf, 0, none⟩) H.out.kf.lt).trans cf
    have u2 := (alW2.cell (p := ⟨ge, 0, none⟩) H.out.ke.lt).trans ce
    have u3 := (alW2.cell (p := ⟨gl, 0, none⟩) H.out.kl.lt).trans cl
    have u4 := (alW2.cell (p := ⟨w.heap.size + 2, 0, none⟩) H.out.kd.lt).trans cd
    have u5 := (alW2.cell (p := ⟨w.heap.size + 1, 0, none⟩) H.out.ko.lt).trans co
    have hbase := Lib.hid (show base ≤ ((wr.alloc (.cells #[.int .i64 fr, .string S] 46)).drew).heap.size from Nat.le_trans (by have := H.out.g6; have := H.out.kl.lt; omega) alW.out.size)
    have klW := Lib.hid (H.out.kl.below alW.out H.out.kl.lt)
    clear alW2 ha hb
    have AW := Lib.hid hw1; have BW := Lib.hid hw2
    clear hmif
    go_enter Try.func33, Try.ntmps33
    go_wp2_with fail
    rw [hS] at hput
    have ng1 : gl ≠ gf := by have := H.out.g4; have := H.out.g6; omega
    have ng2 : gl ≠ ge := by have := H.out.g5; have := H.out.g6; omega
    have ng3 : gl ≠ w.heap.size + 2 := by have := H.out.g4; have := H.out.g1; have := H.out.g6; omega
    have ng4 : gl ≠ w.heap.size + 1 := by have := H.out.g4; have := H.out.g1; have := H.out.g6; omega
    have nv1 : v.ownBlock ≠ some gf := fun e => by have := (H.out.own.lt _ e).1; have := H.out.g4; omega
    have nv2 : v.ownBlock ≠ some ge := fun e => by have := (H.out.own.lt _ e).1; have := H.out.g5; omega
    have nv3 : v.ownBlock ≠ some (w.heap.size + 2) := fun e => by have := (H.out.own.lt _ e).1; have := H.out.g4; have := H.out.g1; omega
    have nv4 : v.ownBlock ≠ some (w.heap.size + 1) := fun e => by have := (H.out.own.lt _ e).1; have := H.out.g4; have := H.out.g1; omega
    have NV1 := Lib.hid nv1; have NV2 := Lib.hid nv2; have NV3 := Lib.hid nv3; have NV4 := Lib.hid nv4
    clear nv1 nv2 nv3 nv4
    refine wp_region_held_drew (S := (fun w' => w'.cell? ⟨gf, 0, none⟩ = some (.int .i64 fr) ∧ w'.cell? ⟨ge, 0, none⟩ = some (.int .i64 hi) ∧ w'.cell? ⟨w.heap.size + 2, 0, none⟩ = some (.string d) ∧ w'.cell? ⟨w.heap.size + 1, 0, none⟩ = some (.int .i64 off))) (by kernel_rfl) (by exact ⟨cf, ce, cd, co⟩) (fun hHeld => ?_)
    refine wpAnyH_take (i := 1) (v := ?vv1) rfl (by kernel_rfl) (by kernel_rfl) (by kernel_rfl) (fun _ _ _ h => h) (Or.inl ⟨by rfl, ?hy1⟩) (by assumption) ?rest1
    case hy1 => (intro wq hSw; (try dsimp only at hSw); go_simp <;> with_reducible rfl)
    try simp only [Act.put, List.setIfInBounds_toArray, List.set_cons_zero, List.set_cons_succ]
    refine wpAnyH_take (i := 2) (v := ?vv2) rfl (by kernel_rfl) (by kernel_rfl) (by kernel_rfl) (fun _ _ _ h => h) (Or.inl ⟨by rfl, ?hy2⟩) (by assumption) ?rest2
    case hy2 => (intro wq hSw; (try dsimp only at hSw); go_simp <;> with_reducible rfl)
    try simp only [Act.put, List.setIfInBounds_toArray, List.set_cons_zero, List.set_cons_succ]
    refine wpAnyH_take (i := 3) (v := ?vv3) rfl (by kernel_rfl) (by kernel_rfl) (by kernel_rfl) (fun _ _ _ h => h) (Or.inl ⟨by rfl, ?hy3⟩) (by assumption) ?rest3
    case hy3 => (intro wq hSw; (try dsimp only at hSw); go_simp <;> with_reducible rfl)
    try simp only [Act.put, List.setIfInBounds_toArray, List.set_cons_zero, List.set_cons_succ]
    refine wpAnyH_take (i := 4) (v := ?vv4) rfl (by kernel_rfl) (by kernel_rfl) (by kernel_rfl) (fun _ _ _ h => h) (Or.inl ⟨by rfl, ?hy4⟩) (by assumption) ?rest4
    case hy4 => (intro wq hSw; (try dsimp only at hSw); go_simp <;> with_reducible rfl)
    try simp only [Act.put, List.setIfInBounds_toArray, List.set_cons_zero, List.set_cons_succ]
    refine wpAnyH_take (i := 5) (v := ?vv5) rfl (by kernel_rfl) (by kernel_rfl) (by kernel_rfl) (fun _ _ _ h => h) (Or.inl ⟨by rfl, ?hy5⟩) (by assumption) ?rest5
    case hy5 => (intro wq hSw; (try dsimp only at hSw); go_simp <;> with_reducible rfl)
    try simp only [Act.put, List.setIfInBounds_toArray, List.set_cons_zero, List.set_cons_succ]
    refine wpAnyH_take (i := 6) (v := ?vv6) rfl (by kernel_rfl) (by kernel_rfl) (by kernel_rfl) (fun _ _ _ h => h) (Or.inl ⟨by rfl, ?hy6⟩) (by assumption) ?rest6
    case hy6 => (intro wq hSw; (try dsimp only at hSw); go_simp <;> with_reducible rfl)
    try simp only [Act.put, List.setIfInBounds_toArray, List.set_cons_zero, List.set_cons_succ]
    refine wpAnyH_take (i := 7) (v := ?vv7) rfl (by kernel_rfl) (by kernel_rfl) (by kernel_rfl) (fun _ _ _ h => h) (Or.inl ⟨by rfl, ?hy7⟩) (by assumption) ?rest7
    case hy7 => (intro wq hSw; (try dsimp only at hSw); go_simp <;> with_reducible rfl)
    try simp only [Act.put, List.setIfInBounds_toArray, List.set_cons_zero, List.set_cons_succ]
    refine wpAnyH_take (i := 8) (v := ?vv8) rfl (by kernel_rfl) (by kernel_rfl) (by kernel_rfl) (fun _ _ _ h => h) (Or.inl ⟨by rfl, ?hy8⟩) (by assumption) ?rest8
    case hy8 => (intro wq hSw; (try dsimp only at hSw); go_simp <;> with_reducible rfl)
    try simp only [Act.put, List.setIfInBounds_toArray, List.set_cons_zero, List.set_cons_succ]
    refine wpAnyH_take (i := 9) (v := ?vv9) rfl (by kernel_rfl) (by kernel_rfl) (by kernel_rfl) (fun _ _ _ h => h) (Or.inl ⟨by rfl, ?hy9⟩) (by assumption) ?rest9
    case hy9 => (intro wq hSw; (try dsimp only at hSw); go_simp <;> with_reducible rfl)
    try simp only [Act.put, List.setIfInBounds_toArray, List.set_cons_zero, List.set_cons_succ]
    refine wpAnyH_take (i := 10) (v := ?vv10) rfl (by kernel_rfl) (by kernel_rfl) (by kernel_rfl) (fun _ _ _ h => h) (Or.inl ⟨by rfl, ?hy10⟩) (by assumption) ?rest10
    case hy10 => (intro wq hSw; (try dsimp only at hSw); go_simp <;> with_reducible rfl)
    try simp only [Act.put, List.setIfInBounds_toArray, List.set_cons_zero, List.set_cons_succ]
    refine wpAnyH_take (i := 11) (v := ?vv11) rfl (by kernel_rfl) (by kernel_rfl) (by kernel_rfl) (fun _ _ _ h => h) (Or.inl ⟨by rfl, ?hy11⟩) (by assumption) ?rest11
    case hy11 => (intro wq hSw; (try dsimp only at hSw); go_simp <;> with_reducible rfl)
    try simp only [Act.put, List.setIfInBounds_toArray, List.set_cons_zero, List.set_cons_succ]
    refine wpAnyH_take (i := 12) (v := ?vv12) rfl (by kernel_rfl) (by kernel_rfl) (by kernel_rfl) (fun _ _ _ h => h) (Or.inl ⟨by rfl, ?hy12⟩) (by assumption) ?rest12
    case hy12 => (intro wq hSw; (try dsimp only at hSw); go_simp <;> with_reducible rfl)
    try simp only [Act.put, List.setIfInBounds_toArray, List.set_cons_zero, List.set_cons_succ]
    refine wpAnyH_ready (rs := [0, 13]) (by kernel_rfl) (by simp) ?_
    refine AllReadyH.cons rfl (fun K hK => ?_) (AllReadyH.cons rfl (fun K hK => ?_) AllReadyH.nil)
    · go_simp
      refine hK.out _ _ (by (try dsimp only); exact ⟨cf, ce, cd, co⟩) (fun hHeld => ?_)
      clear hK K
      try simp only [Act.put, List.setIfInBounds_toArray, List.set_cons_zero, List.set_cons_succ]
      refine wpAnyH_ready (rs := [13]) (by kernel_rfl) (by simp) ?_
      refine AllReadyH.cons rfl (fun K hK => ?_) AllReadyH.nil
      go_simp
      refine hK.out _ _ (by (try dsimp only); exact ⟨u1, u2, u4, u5⟩) (fun hHeld => ?_)
      clear hK K
      try simp only [Act.put, List.setIfInBounds_toArray, List.set_cons_zero, List.set_cons_succ]
      refine wpAnyH_ready (rs := [14]) (by kernel_rfl) (by simp) ?_
      refine AllReadyH.cons rfl (fun K hK => ?_) AllReadyH.nil
      (refine step_append_lies _ (by rfl) _ _ _ (by rfl) base 46 i0 _ 2 24 Try.underlying26 HI.out HZ0.out HZ1.out HZ2.out rfl (by omega) _ _ _ (by rfl) ((H.out.own.alloc _).drew) ⟨wr.heap.size, 0, none⟩ 1 1 [.int .i64 fr, .string S] (by rfl) (by rfl) (World.news_of_block (cs := #[.int .i64 fr, .string S]) (t := 46) (fr := (0, 0)) (heap_alloc_new wr _)) (by simp [Value.oneCell']) (by omega) (by have := hLk.out; unfold maxLen; omega) (by have := hLk.out; omega) hbase.out (wr.heap.size + 1) (by simp) ?_; intro gg7 cap7 w7 hown7 hgrow7 hat7 hlt7; have kl7 := klW.out.grown hgrow7 (fun e => H.out.g7 _ e.symm rfl); have fx := kl7.frozen; have cl7 : w7.cell? ⟨gl, 0, none⟩ = some v := kl7.cell 0; have v1 := hgrow7.cell (a := ⟨gf, 0, none⟩) u1 (fun e => NV1.out e.symm); have v2 := hgrow7.cell (a := ⟨ge, 0, none⟩) u2 (fun e => NV2.out e.symm); have v3 := hgrow7.cell (a := ⟨w.heap.size + 2, 0, none⟩) u4 (fun e => NV3.out e.symm); have v4 := hgrow7.cell (a := ⟨w.heap.size + 1, 0, none⟩) u5 (fun e => NV4.out e.symm))
      refine hK.out _ _ (by (try dsimp only); exact ⟨v1, v2, v3, v4⟩) (fun hHeld => ?_)
      clear hK K
      try simp only [Act.put, List.setIfInBounds_toArray, List.set_cons_zero, List.set_cons_succ]
      refine wpAnyH_ready (rs := [15]) (by kernel_rfl) (by simp) ?_
      refine AllReadyH.cons rfl (fun K hK => ?_) AllReadyH.nil
      go_simp
      refine hK.out _ _ (by (try dsimp only); exact ⟨(World.cell?_setCell_far _ ⟨gl, 0, none⟩ ⟨gf, 0, none⟩ _ ng1).trans v1, (World.cell?_setCell_far _ ⟨gl, 0, none⟩ ⟨ge, 0, none⟩ _ ng2).trans v2, (World.cell?_setCell_far _ ⟨gl, 0, none⟩ ⟨w.heap.size + 2, 0, none⟩ _ ng3).trans v3, (World.cell?_setCell_far _ ⟨gl, 0, none⟩ ⟨w.heap.size + 1, 0, none⟩ _ ng4).trans v4⟩) (fun hHeld => ?_)
      clear hK K
      try simp only [Act.put, List.setIfInBounds_toArray, List.set_cons_zero, List.set_cons_succ]
      refine wpAnyH_done (by kernel_rfl) ?_ _
      go_end0
      exact ⟨rfl, _, by rw [hput.out]; exact H.out.put alW.out hown7 hgrow7 hat7 (Nat.le_succ _), InvJ.keep alW.out hgrow7, by have := alW.out.size; have := hgrow7.size; simp; omega, fun k hk => by
        injection hk with hk
        have hk' : gg7 = k := hk
        rcases hat7 with h9 | h9
        · exact .inl (by rw [← hk']; exact h9)
        · exact .inr (by omega)⟩
    · go_simp
      refine hK.out _ _ (by (try dsimp only); exact ⟨u1, u2, u4, u5⟩) (fun hHeld => ?_)
      clear hK K
      try simp only [Act.put, List.setIfInBounds_toArray, List.set_cons_zero, List.set_cons_succ]
      refine wpAnyH_ready (rs := [0]) (by kernel_rfl) (by simp) ?_
      refine AllReadyH.cons rfl (fun K hK => ?_) AllReadyH.nil
      go_simp
      refine hK.out _ _ (by (try dsimp only); exact ⟨u1, u2, u4, u5⟩) (fun hHeld => ?_)
      clear hK K
      try simp only [Act.put, List.setIfInBounds_toArray, List.set_cons_zero, List.set_cons_succ]
      refine wpAnyH_ready (rs := [14]) (by kernel_rfl) (by simp) ?_
      refine AllReadyH.cons rfl (fun K hK => ?_) AllReadyH.nil
      (refine step_append_lies _ (by rfl) _ _ _ (by rfl) base 46 i0 _ 2 24 Try.underlying26 HI.out HZ0.out HZ1.out HZ2.out rfl (by omega) _ _ _ (by rfl) ((H.out.own.alloc _).drew) ⟨wr.heap.size, 0, none⟩ 1 1 [.int .i64 fr, .string S] (by rfl) (by rfl) (World.news_of_block (cs := #[.int .i64 fr, .string S]) (t := 46) (fr := (0, 0)) (heap_alloc_new wr _)) (by simp [Value.oneCell']) (by omega) (by have := hLk.out; unfold maxLen; omega) (by have := hLk.out; omega) hbase.out (wr.heap.size + 1) (by simp) ?_; intro gg7 cap7 w7 hown7 hgrow7 hat7 hlt7; have kl7 := klW.out.grown hgrow7 (fun e => H.out.g7 _ e.symm rfl); have fx := kl7.frozen; have cl7 : w7.cell? ⟨gl, 0, none⟩ = some v := kl7.cell 0; have v1 := hgrow7.cell (a := ⟨gf, 0, none⟩) u1 (fun e => NV1.out e.symm); have v2 := hgrow7.cell (a := ⟨ge, 0, none⟩) u2 (fun e => NV2.out e.symm); have v3 := hgrow7.cell (a := ⟨w.heap.size + 2, 0, none⟩) u4 (fun e => NV3.out e.symm); have v4 := hgrow7.cell (a := ⟨w.heap.size + 1, 0, none⟩) u5 (fun e => NV4.out e.symm))
      refine hK.out _ _ (by (try dsimp only); exact ⟨v1, v2, v3, v4⟩) (fun hHeld => ?_)
      clear hK K
      try simp only [Act.put, List.setIfInBounds_toArray, List.set_cons_zero, List.set_cons_succ]
      refine wpAnyH_ready (rs := [15]) (by kernel_rfl) (by simp) ?_
      refine AllReadyH.cons rfl (fun K hK => ?_) AllReadyH.nil
      go_simp
      refine hK.out _ _ (by (try dsimp only); exact ⟨(World.cell?_setCell_far _ ⟨gl, 0, none⟩ ⟨gf, 0, none⟩ _ ng1).trans v1, (World.cell?_setCell_far _ ⟨gl, 0, none⟩ ⟨ge, 0, none⟩ _ ng2).trans v2, (World.cell?_setCell_far _ ⟨gl, 0, none⟩ ⟨w.heap.size + 2, 0, none⟩ _ ng3).trans v3, (World.cell?_setCell_far _ ⟨gl, 0, none⟩ ⟨w.heap.size + 1, 0, none⟩ _ ng4).trans v4⟩) (fun hHeld => ?_)
      clear hK K
      try simp only [Act.put, List.setIfInBounds_toArray, List.set_cons_zero, List.set_cons_succ]
      refine wpAnyH_done (by kernel_rfl) ?_ _
      go_end0
      exact ⟨rfl, _, by rw [hput.out]; exact H.out.put alW.out hown7 hgrow7 hat7 (Nat.le_succ _), InvJ.keep alW.out hgrow7, by have := alW.out.size; have := hgrow7.size; simp; omega, fun k hk => by
        injection hk with hk
        have hk' : gg7 = k := hk
        rcases hat7 with h9 | h9
        · exact .inl (by rw [← hk']; exact h9)
        · exact .inr (by omega)⟩
  · have hput := Lib.hid (show putK off d hi fr tt = [] from by unfold putK; rw [hm, if_neg hlt])
    have hd9 : decide (fr < m) = false := by simp; omega
    by_cases hc : hi < tt
    · have hmm : m = hi := by omega
      subst hmm
      clear hm hmif
      go_enter Try.func33, Try.ntmps33
      go_wp2
      go_end0
      exact ⟨rfl, v, by rw [hput.out, List.append_nil]; exact H.out, fun g T cs hk _ _ => hk, Nat.le_refl _, fun k hk => .inl hk⟩
    · have hmm : m = tt := by omega
      subst hmm
      clear hm hmif
      go_enter Try.func33, Try.ntmps33
      go_wp2
      go_end0
      exact ⟨rfl, v, by rw [hput.out, List.append_nil]; exact H.out, fun g T cs hk _ _ => hk, Nat.le_refl _, fun k hk => .inl hk⟩
end Go.Proofs.Ytnndhkdigmkddaa
