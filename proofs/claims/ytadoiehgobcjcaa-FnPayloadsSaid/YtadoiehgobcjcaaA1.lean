/- Memory words of mine for this seat's proofs: a slice that reads as a list of cells; what stays when only new blocks are written. No conditions. The slices of ints: toIntS, eqIntS. No conditions. The slices of ints: markIntS, heldIntS. No conditions. What the laws draw from a code: the cursor. No conditions. What the laws draw from a code: numbers out of a list, stream identities. No conditions. -/
import Derived.Test.YtadoiehgobcjcaaIds
import Derived.Laws.MakeOwn
import Derived.WalkKit
import Derived.ProofKit
import Derived.OpenShut
import Derived.Lib.QuietBelow
import Derived.BigQuiet
import Derived.Lib.Hide
import Derived.Deep.Slices
import Derived.Deep.Fields
import Derived.Deep.LoopGhost
import Derived.Deep.DeepFit
import Derived.Handy
import Derived.Laws.BitsLemmas
namespace Go.Proofs.Ytadoiehgobcjcaa
open Go.ChangeShapes Go.WideShapes Go.ChangeAt Go.RowKit Go.Sort
set_option linter.unusedVariables false

/-- Every listed cell lies at its place behind A, below block B. -/
def Rd (w : World) (B : Nat) (A : Option Addr) (xs : List Value) : Prop :=
  ∀ j u, xs[j]? = some u → ∃ b off, A = some ⟨b, off, none⟩ ∧ b < B ∧ w.cell? ⟨b, off + j, none⟩ = some u

theorem Rd.nil (w : World) (B : Nat) (A : Option Addr) : Rd w B A [] := fun _ _ h => by cases h
theorem Rd.cell {w : World} {B b off : Nat} {A : Option Addr} {xs : List Value} (h : Rd w B A xs) (hA : A = some ⟨b, off, none⟩) {j : Nat} {u : Value} (hj : xs[j]? = some u) : w.cell? ⟨b, off + j, none⟩ = some u := by
  obtain ⟨b', off', e, _, hc⟩ := h j u hj
  rw [hA] at e
  injection e with e
  injection e with e1 e2
  subst e1 e2
  exact hc
theorem Rd.below {w w' : World} {B B' : Nat} {A : Option Addr} {xs : List Value} (h : Rd w B A xs) (hb : Below B' w w') (hB : B ≤ B') : Rd w' B A xs := fun j u hu => by
  obtain ⟨b, off, e, hlt, hc⟩ := h j u hu
  refine ⟨b, off, e, hlt, ?_⟩
  rw [hb.cell (p := ⟨b, off + j, none⟩) (by show b < B'; omega)]
  exact hc
theorem Rd.more {w : World} {B B' : Nat} {A : Option Addr} {xs : List Value} (h : Rd w B A xs) (hB : B ≤ B') : Rd w B' A xs := fun j u hu => by
  obtain ⟨b, off, e, hlt, hc⟩ := h j u hu
  exact ⟨b, off, e, by omega, hc⟩
theorem Rd.of_own {w : World} {base : Nat} {e : TypeId} {size n : Nat} {v : Value} {xs : List Value} (h : w.ownsRow base e size v n xs) :
    ∃ A c, v = .slice A n c ∧ n ≤ c ∧ Rd w w.heap.size A xs := by
  rcases h.2 with ⟨rfl, rfl⟩ | ⟨g, cap, cur, rfl, hb, hh, hn, hcm, hcs, ht⟩
  · have hx : xs = [] := List.eq_nil_of_length_eq_zero (by simpa using h.1)
    subst hx
    exact ⟨none, 0, rfl, Nat.le_refl _, Rd.nil _ _ _⟩
  · refine ⟨some ⟨g, 0, none⟩, cap, rfl, hn, fun j u hu => ⟨g, 0, rfl, (h.lt g rfl).2, ?_⟩⟩
    have hc := h.cells (g := g) rfl j u hu
    have : (⟨g, 0, none⟩ : Addr).add j = ⟨g, 0 + j, none⟩ := by unfold Addr.add; split <;> simp_all
    rwa [this] at hc

/-- What lies below B is read as before. -/
theorem bcell {B : Nat} {W w1 : World} (hb : Below B W w1) : (∀ b o, b < B → w1.cell? ⟨b, o, none⟩ = W.cell? ⟨b, o, none⟩) ∧ (∀ b o, b < B → w1.frozen? ⟨b, o, none⟩ = W.frozen? ⟨b, o, none⟩) :=
  ⟨fun b o h => hb.cell (p := ⟨b, o, none⟩) h, fun b o h => hb.frozen (p := ⟨b, o, none⟩) h⟩
theorem below_drewN {B : Nat} {a w : World} (h : Below B a w) (n : Nat) : Below B a (w.drewN n) := ⟨h.os, h.tape, h.output, h.size, h.block⟩
theorem below_next {B : Nat} {a b c : World} (h : Below B a b) (hB : B ≤ b.heap.size) (k : Below b.heap.size b c) : Below B a c := h.trans (k.mono hB)
theorem below_size {B : Nat} {a b : World} (h : Below B a b) : a.heap.size ≤ b.heap.size := h.size
/-- One block, known whole, not frozen. -/
def Bk (w : World) (g : Nat) (T : TypeId) (cs : Array Value) : Prop := w.heap[g]? = some (.cells cs T (0, 0))
theorem Bk.cell {w : World} {g : Nat} {T : TypeId} {cs : Array Value} (h : Bk w g T cs) (i : Nat) : w.cell? ⟨g, i, none⟩ = cs[i]? := cell_of_row w g i cs T (0, 0) h
theorem Bk.frozen {w : World} {g : Nat} {T : TypeId} {cs : Array Value} (h : Bk w g T cs) (i : Nat) : w.frozen? ⟨g, i, none⟩ = false := by
  unfold Bk at h; simp [World.frozen?, h]
theorem Bk.lt {w : World} {g : Nat} {T : TypeId} {cs : Array Value} (h : Bk w g T cs) : g < w.heap.size := (Array.getElem?_eq_some_iff.1 h).1
theorem Bk.set_ {w : World} {g : Nat} {T : TypeId} {cs : Array Value} (h : Bk w g T cs) (i : Nat) (u : Value) : Bk (w.setCell ⟨g, i, none⟩ u) g T (cs.setIfInBounds i u) := by
  unfold Bk at h ⊢; simp [World.setCell, Array.getElem?_modify, h]
theorem Bk.below {w w' : World} {g B : Nat} {T : TypeId} {cs : Array Value} (h : Bk w g T cs) (hb : Below B w w') (hg : g < B) : Bk w' g T cs := (hb.block g hg).trans h
theorem Bk.grown {w w' : World} {g : Nat} {row : Option Nat} {T : TypeId} {cs : Array Value} (h : Bk w g T cs) (hb : w.grownBy w' row) (hg : some g ≠ row) : Bk w' g T cs := (hb.block g h.lt hg).trans h
/-- The first cells of a block are these. -/
def Hd (cs : Array Value) (k : Nat) (xs : List Value) : Prop := ∀ j, j < k → cs[j]? = xs[j]?
theorem Hd.set1 {cs : Array Value} {k : Nat} {xs : List Value} {u : Value} (h : Hd cs k xs) (hs : k < cs.size) (hu : xs[k]? = some u) :
    Hd (cs.setIfInBounds k u) (k + 1) xs := by
  intro j hj
  by_cases h2 : j = k
  · subst h2; rw [hu]; simp [Array.getElem?_setIfInBounds]; omega
  · have := h j (by omega)
    rw [← this]
    simp [Array.getElem?_setIfInBounds]
    intro e; omega
theorem Hd.set2 {cs : Array Value} {k : Nat} {xs : List Value} {u v : Value} (h : Hd cs k xs) (hs : k + 1 < cs.size) (hu : xs[k]? = some u) (hv : xs[k + 1]? = some v) :
    Hd ((cs.setIfInBounds k u).setIfInBounds (k + 1) v) (k + 2) xs := by
  intro j hj
  by_cases h1 : j = k + 1
  · subst h1; rw [hv]; simp [Array.getElem?_setIfInBounds]; omega
  · by_cases h2 : j = k
    · subst h2; rw [hu]; simp [Array.getElem?_setIfInBounds]; omega
    · have := h j (by omega)
      rw [← this]
      simp [Array.getElem?_setIfInBounds]
      rw [if_neg (by omega), if_neg (by omega)]
theorem Hd.own {w : World} {g base : Nat} {T : TypeId} {cs : Array Value} {n cap size : Nat} {xs : List Value} (hk : Bk w g T cs) (h : Hd cs (n * size) xs) (hx : xs.length = n * size) (hs : cs.size = cap * size) (hn : n ≤ cap) (hm : cap ≤ maxLen) (hb : base ≤ g) :
    w.ownsRow base T size (.slice (some ⟨g, 0, none⟩) n cap) n xs := by
  refine ⟨hx, .inr ⟨g, cap, cs, rfl, hb, hk, hn, hm, hs, ?_⟩⟩
  apply List.ext_getElem?
  intro j
  by_cases hj : j < n * size
  · rw [List.getElem?_take_of_lt hj]
    have := h j hj
    simpa using this
  · rw [List.getElem?_eq_none (by rw [List.length_take]; omega), List.getElem?_eq_none (by omega)]
theorem only_setCell {a w : World} {g : Nat} (h : a.grownBy w (some g)) (i : Nat) (u : Value) : a.grownBy (w.setCell ⟨g, i, none⟩ u) (some g) :=
  ⟨h.os, h.tape, h.output, by simpa [World.setCell] using h.size, fun k hk hne => (Below.heap_setCell w ⟨g, i, none⟩ u k (fun e => hne (by rw [e]))).trans (h.block k hk hne)⟩
theorem below_of_only {a w : World} {g B : Nat} (h : a.grownBy w (some g)) (hB : B ≤ a.heap.size) (hg : B ≤ g) : Below B a w :=
  ⟨h.os, h.tape, h.output, h.size, fun k hk => h.block k (by omega) (fun e => by injection e; omega)⟩
end Go.Proofs.Ytadoiehgobcjcaa

namespace Go.Proofs.Ytadoiehgobcjcaa
open Go.ChangeShapes Go.WideShapes Go.ChangeAt Go.RowKit Go.Sort
set_option linter.unusedVariables false
set_option linter.unusedSimpArgs false
theorem own_rd {w : World} {base : Nat} {e : TypeId} {size n c : Nat} {A : Option Addr} {xs : List Value} (h : w.ownsRow base e size (.slice A n c) n xs) : Rd w w.heap.size A xs := by
  obtain ⟨A', c', hv, _, hr⟩ := Rd.of_own h
  injection hv with e1 e2 e3
  rw [e1]; exact hr
theorem gb_of_below {w w' : World} (h : Below w.heap.size w w') (row : Option Nat) : w.grownBy w' row := ⟨h.os, h.tape, h.output, h.size, fun k hk _ => h.block k hk⟩
theorem own_step {w w' : World} {base : Nat} {e : TypeId} {size n : Nat} {v : Value} {xs : List Value} (h : w.ownsRow base e size v n xs) (hb : Below w.heap.size w w') : w'.ownsRow base e size v n xs :=
  h.kept (gb_of_below hb none) (by cases hv : v.ownBlock <;> simp)
theorem info_int : (Try.prog.info? 3).map (fun i => (i.zero, i.size, i.bytes)) = some (some (.int .i64 0), 1, 8) := by kernel_rfl
def ints (l : List Int) : List Value := l.map (fun x => .int .i64 x)
theorem ints_len (l : List Int) : (ints l).length = l.length := by simp [ints]
theorem ints_get (l : List Int) (k : Nat) (h : k < l.length) : (ints l)[k]? = some (.int .i64 (l.getD k 0)) := by
  simp [ints, List.getElem?_eq_getElem h, List.getD_eq_getElem?_getD]
theorem Rd.int {w : World} {B : Nat} {A : Option Addr} {l : List Int} (h : Rd w B A (ints l)) {k : Nat} (hk : k < l.length) : ∃ b off x, A = some ⟨b, off, none⟩ ∧ b < B ∧ Hid (l.getD k 0 = x) ∧ w.cell? ⟨b, off + k, none⟩ = some (.int .i64 x) := by
  obtain ⟨b, off, e, hb, hc⟩ := h k _ (ints_get l k hk)
  exact ⟨b, off, _, e, hb, Lib.hid rfl, hc⟩
end Go.Proofs.Ytadoiehgobcjcaa

namespace Go.Proofs.Ytadoiehgobcjcaa
open Go.ChangeShapes Go.WideShapes Go.ChangeAt Go.RowKit Go.Sort
set_option linter.unusedVariables false
set_option linter.unusedSimpArgs false
theorem own_far {w w' : World} {base : Nat} {e : TypeId} {size n : Nat} {v : Value} {xs : List Value} {row : Option Nat} (h : w.ownsRow base e size v n xs) (hg : w.grownBy w' row) (hr : ∀ k, row = some k → k < base) : w'.ownsRow base e size v n xs :=
  h.kept hg (by
    cases hv : v.ownBlock with
    | none => exact .inl rfl
    | some g => exact .inr (fun e => by have := hr g e.symm; have := (h.lt g hv).1; omega))
theorem own_other {w w' : World} {base : Nat} {e : TypeId} {size n : Nat} {v : Value} {xs : List Value} {row : Option Nat} (h : w.ownsRow base e size v n xs) (hg : w.grownBy w' row) (hr : ∀ k, row = some k → v.ownBlock ≠ some k) : w'.ownsRow base e size v n xs :=
  h.kept hg (by
    cases hv : v.ownBlock with
    | none => exact .inl rfl
    | some g => exact .inr (fun e => hr g e.symm hv))
theorem below_only {a w w' : World} {B : Nat} {row : Option Nat} (h : Below B a w) (hg : w.grownBy w' row) (hB : B ≤ w.heap.size) (hr : ∀ k, row = some k → B ≤ k) : Below B a w' := h.grown hg hB hr
theorem grown_refl (w : World) (row : Option Nat) : w.grownBy w row := ⟨rfl, rfl, rfl, Nat.le_refl _, fun _ _ _ => rfl⟩
def mkI (k0 : Int) (n : Nat) : List Int := (List.range n).map fun (i : Nat) => k0 + (i : Int)
theorem mkI_len (k0 : Int) (n : Nat) : (mkI k0 n).length = n := by simp [mkI]
theorem mkI_get (k0 : Int) (n k : Nat) (h : k < n) : (mkI k0 n).getD k 0 = k0 + (k : Int) := by simp [mkI, h]
end Go.Proofs.Ytadoiehgobcjcaa

namespace Go.Proofs.Ytadoiehgobcjcaa
open Go.ChangeShapes Go.WideShapes Go.ChangeAt Go.RowKit Go.Sort
set_option linter.unusedVariables false
set_option linter.unusedSimpArgs false
theorem and255 (x : Int) : 0 ≤ bits .and .i64 x 255 ∧ bits .and .i64 x 255 ≤ 255 := by
  have h : (BitVec.ofInt 64 x &&& BitVec.ofInt 64 255).toNat ≤ 255 := by
    rw [BitVec.toNat_and]; exact Nat.and_le_right
  show 0 ≤ IntKind.i64.wrap (((BitVec.ofInt 64 x &&& BitVec.ofInt 64 255).toNat : Nat) : Int) ∧ IntKind.i64.wrap (((BitVec.ofInt 64 x &&& BitVec.ofInt 64 255).toNat : Nat) : Int) ≤ 255
  rw [IntKind.wrap_i64]
  omega
def bys (l : List Int) : List Value := l.map fun x => .int .u8 x
theorem bys_len (l : List Int) : (bys l).length = l.length := by simp [bys]
theorem bys_get (l : List Int) (k : Nat) (h : k < l.length) : (bys l)[k]? = some (.int .u8 (l.getD k 0)) := by
  simp [bys, List.getElem?_eq_getElem h, List.getD_eq_getElem?_getD]
theorem Rd.byte {w : World} {B : Nat} {A : Option Addr} {l : List Int} (h : Rd w B A (bys l)) {k : Nat} (hk : k < l.length) : ∃ b off x, A = some ⟨b, off, none⟩ ∧ b < B ∧ w.cell? ⟨b, off + k, none⟩ = some (.int .u8 x) := by
  obtain ⟨b, off, e, hb, hc⟩ := h k _ (bys_get l k hk)
  exact ⟨b, off, _, e, hb, hc⟩
/-- Block g holds a cursor over a code. -/
def Cur (w : World) (g : Nat) : Prop := ∃ (A : Option Addr) (c n : Nat) (l : List Int) (i : Nat) (h : Int), Bk w g 74 #[.slice A n c, .int .i64 i, .int .i64 h] ∧ Rd w g A (bys l) ∧ l.length = n ∧ n ≤ 1048576 ∧ i ≤ n
theorem Cur.lt {w : World} {g : Nat} (h : Cur w g) : g < w.heap.size := by
  obtain ⟨A, c, n, l, i, h, hk, _⟩ := h; exact hk.lt
theorem Cur.below {w w' : World} {g B : Nat} (h : Cur w g) (hb : Below B w w') (hg : g < B) : Cur w' g := by
  obtain ⟨A, c, n, l, i, h, hk, hr, e⟩ := h
  exact ⟨A, c, n, l, i, h, hk.below hb hg, hr.below hb (by omega), e⟩
/-- A number is drawn; block g alone was written. -/
def DrawI (w : World) (g : Nat) (P : Int → Prop) (e : Ending) (w' : World) : Prop := (∃ x : Int, P x ∧ e = .returned (.int .i64 x)) ∧ Cur w' g ∧ w.grownBy w' (some g)
theorem grown_trans {a b c : World} {row : Option Nat} (h : a.grownBy b row) (k : b.grownBy c row) : a.grownBy c row :=
  ⟨k.os.trans h.os, k.tape.trans h.tape, k.output.trans h.output, Nat.le_trans h.size k.size, fun i hi hne => (k.block i (Nat.lt_of_lt_of_le hi h.size) hne).trans (h.block i hi hne)⟩
theorem grown_drew {a b : World} {row : Option Nat} (h : a.grownBy b row) : a.grownBy b.drew row := ⟨h.os, h.tape, h.output, h.size, h.block⟩
theorem grown_drewN {a b : World} {row : Option Nat} (h : a.grownBy b row) (n : Nat) : a.grownBy (b.drewN n) row := ⟨h.os, h.tape, h.output, h.size, h.block⟩
theorem Bk.three {w : World} {g : Nat} {T : TypeId} {x y z : Value} (h : Bk w g T #[x, y, z]) : w.cell? ⟨g, 0, none⟩ = some x ∧ w.cell? ⟨g, 1, none⟩ = some y ∧ w.cell? ⟨g, 2, none⟩ = some z := ⟨h.cell 0, h.cell 1, h.cell 2⟩
set_option maxHeartbeats 1000000 in
theorem l1Byte_any {w : World} {g : Nat} (hc : Cur w g) : Calls Try.prog 70 #[.pointer (some ⟨g, 0, none⟩)] w (DrawI w g fun x => 0 ≤ x ∧ x ≤ 255) := by
  obtain ⟨A, c, n, l, i, h, hk, hr, hl, hn, hi⟩ := hc
  obtain ⟨c0, c1, c2⟩ := hk.three
  have f0 := hk.frozen
  go_enter Try.func70, Try.ntmps70
  go_wp2_with fail
  have hk1 := hk.set_ 2 (.int .i64 (wrap64 (wrap64 (h * 6364136223846793005) + 1442695040888963407)))
  have hg1 : w.grownBy (w.setCell ⟨g, 2, none⟩ (.int .i64 (wrap64 (wrap64 (h * 6364136223846793005) + 1442695040888963407)))) (some g) := only_setCell (grown_refl _ _) 2 _
  have hr1 := hr.below (below_of_only hg1 (Nat.le_of_lt hk.lt) (Nat.le_refl _)) (Nat.le_refl _)
  generalize wrap64 (wrap64 (h * 6364136223846793005) + 1442695040888963407) = h' at hk1 hg1 hr1 ⊢
  generalize w.setCell ⟨g, 2, none⟩ (.int .i64 h') = w1 at hk1 hg1 hr1 ⊢
  clear c0 c1 c2 f0 hk hr
  have hk1 : Bk w1 g 74 #[.slice A n c, .int .i64 i, .int .i64 h'] := hk1
  obtain ⟨c0, c1, c2⟩ := hk1.three
  have f0 := hk1.frozen
  go_quiet (fail)
  go_wp2_with fail
  have hx := and255 (bits .xor .i64 (h' / 8589934592) (h' / 35184372088832))
  generalize bits .and .i64 (bits .xor .i64 (h' / 8589934592) (h' / 35184372088832)) 255 = x at hx ⊢
  obtain ⟨hx0, hx1⟩ := hx
  by_cases hlt : i < n
  · obtain ⟨b, off, y, rfl, hb, d0⟩ := hr1.byte (k := i) (by omega)
    have hi0 : (0 : Int) ≤ (i : Int) := by omega
    have hi1 : (i : Int) < (n : Int) := by omega
    go_quiet (fail)
    go_wp2_with fail
    go_quiet (fail)
    go_wp2_with fail
    have hy := and255 (wrap64 (x + wrap64 y))
    generalize bits .and .i64 (wrap64 (x + wrap64 y)) 255 = z at hy ⊢
    go_ret
    refine ⟨⟨z, hy, rfl⟩, ⟨_, c, n, l, i + 1, h', (show Bk (w1.drewN _) g _ _ from hk1).set_ 1 (.int .i64 ((i + 1 : Nat) : Int)), ?_, hl, hn, by omega⟩, only_setCell (grown_drewN hg1 _) _ _⟩
    exact hr1.below (below_of_only (only_setCell (grown_drewN (grown_refl w1 _) _) 1 _) (Nat.le_of_lt hk1.lt) (Nat.le_refl _)) (Nat.le_refl _)
  · have hd : decide ((i : Int) < (n : Int)) = false := by simp; omega
    go_quiet (fail)
    go_wp2_with fail
    go_ret
    exact ⟨⟨x, ⟨hx0, hx1⟩, rfl⟩, ⟨A, c, n, l, i, h', hk1, hr1, hl, hn, hi⟩, grown_drewN (grown_drewN hg1 _) _⟩
set_option maxHeartbeats 1000000 in
theorem l1Below_any {w : World} {g : Nat} (n : Nat) (h0 : 0 < n) (h1 : n ≤ 256) (hc : Cur w g) : Calls Try.prog 53 #[.pointer (some ⟨g, 0, none⟩), .int .i64 n] w (DrawI w g fun x => 0 ≤ x ∧ x < n) := by
  have hd0 : decide ((n : Int) ≤ 0) = false := by simp; omega
  have hd1 : decide ((n : Int) ≤ 256) = true := by simp; omega
  have hz : ((n : Int) == 0) = false := by simp; omega
  go_enter Try.func53, Try.ntmps53
  go_wp2_with fail
  refine (l1Byte_any hc).mono ?_
  rintro e w1 ⟨⟨x, ⟨hx0, hx1⟩, rfl⟩, hc1, hg1⟩
  go_wp2
  go_ret
  exact ⟨⟨_, ⟨Int.emod_nonneg _ (by omega), Int.emod_lt_of_pos _ (by omega)⟩, rfl⟩, hc1, hg1⟩
set_option maxHeartbeats 1000000 in
theorem l1Below_big {w : World} {g : Nat} (n : Nat) (h0 : 256 < n) (h1 : n ≤ 4611686018427387904) (hc : Cur w g) : Calls Try.prog 53 #[.pointer (some ⟨g, 0, none⟩), .int .i64 n] w (DrawI w g fun x => 0 ≤ x ∧ x < n) := by
  have hd0 : decide ((n : Int) ≤ 0) = false := by simp; omega
  have hd1 : decide ((n : Int) ≤ 256) = false := by simp; omega
  have hz : ((n : Int) == 0) = false := by simp; omega
  go_enter Try.func53, Try.ntmps53
  go_wp2_with fail
  refine (l1Byte_any hc).mono ?_
  rintro e w1 ⟨⟨x, ⟨hx0, hx1⟩, rfl⟩, hc1, hg1⟩
  go_wp2_with fail
  refine (l1Byte_any hc1).mono ?_
  rintro e w2 ⟨⟨y, ⟨hy0, hy1⟩, rfl⟩, hc2, hg2⟩
  go_wp2_with fail
  refine (l1Byte_any hc2).mono ?_
  rintro e w3 ⟨⟨z, ⟨hz0, hz1⟩, rfl⟩, hc3, hg3⟩
  go_wp2_with fail
  refine (l1Byte_any hc3).mono ?_
  rintro e w4 ⟨⟨v, ⟨hv0, hv1⟩, rfl⟩, hc4, hg4⟩
  go_wp2
  go_ret
  exact ⟨⟨_, ⟨Int.emod_nonneg _ (by omega), Int.emod_lt_of_pos _ (by omega)⟩, rfl⟩, hc4, grown_trans (grown_trans (grown_trans hg1 hg2) hg3) hg4⟩
/-- A yes or no is drawn. -/
def DrawB (w : World) (g : Nat) (e : Ending) (w' : World) : Prop := (∃ b : Bool, e = .returned (.bool b)) ∧ Cur w' g ∧ w.grownBy w' (some g)
theorem l1Once_any {w : World} {g : Nat} (n : Nat) (h0 : 0 < n) (h1 : n ≤ 256) (hc : Cur w g) : Calls Try.prog 51 #[.pointer (some ⟨g, 0, none⟩), .int .i64 n] w (DrawB w g) := by
  go_enter Try.func51, Try.ntmps51
  go_wp2_with fail
  refine (l1Below_any n h0 h1 hc).mono ?_
  rintro e w1 ⟨⟨x, hx, rfl⟩, hc1, hg1⟩
  clear hx
  go_wp2_with fail
  go_ret
  exact ⟨⟨_, rfl⟩, hc1, hg1⟩
/-- A new cursor. -/
def NewC (w : World) (e : Ending) (w' : World) : Prop := ∃ g, e = .returned (.pointer (some ⟨g, 0, none⟩)) ∧ Cur w' g ∧ Below w.heap.size w w' ∧ w.heap.size ≤ g
set_option maxRecDepth 20000 in
set_option maxHeartbeats 1000000 in
theorem l1New_any {A : Option Addr} {c n : Nat} {w : World} {l : List Int} (hr : Rd w w.heap.size A (bys l)) (hm : n ≤ 1048576) (HL : Hid (l.length = n)) : Calls Try.prog 46 #[.slice A n c] w (NewC w) := by
  go_enter Try.func46, Try.ntmps46
  go_wp2_with fail
  go_loopw [3, 4] (fun h i wr => ∃ (k : Nat) (z : Int), k ≤ n ∧ i = .int .i64 k ∧ h = .int .i64 z ∧ Below w.heap.size w wr) (fun h i _ => n - (intOf i).toNat)
  case atStart => exact ⟨0, _, Nat.zero_le _, rfl, rfl, Below.refl _ _⟩
  case round =>
    obtain ⟨k, z, hk, rfl, rfl, hbw⟩ := hrel
    have fin : ∀ zz : Int, NewC w (.returned (.pointer (some ⟨wr.heap.size, 0, none⟩))) (wr.alloc (.cells #[.slice A n c, .int .i64 0, .int .i64 zz] 74)) := fun zz => by
      have al := (Below.refl wr.heap.size wr).alloc (Nat.le_refl _) (.cells #[.slice A n c, .int .i64 0, .int .i64 zz] 74)
      exact ⟨_, rfl, ⟨A, c, n, l, 0, zz, heap_alloc_new wr _, (((hr.below hbw (Nat.le_refl _)).more hbw.size).below al (Nat.le_refl _)), HL.out, hm, Nat.zero_le _⟩, below_next hbw hbw.size al, hbw.size⟩
    by_cases hlt : k < n
    · by_cases h4 : (k : Int) < 4000
      · have d4 : decide ((k : Int) < 4000) = true := by simp; omega
        have d4n : decide (k < 4000) = true := by simp; omega
        clear h4
        obtain ⟨b, off, x, rfl, hb, c0⟩ := (hr.below hbw (Nat.le_refl _)).byte (k := k) (by rw [HL.out]; exact hlt)
        clear fin
        go_wp2
        go_roundw
        case rel => exact ⟨k + 1, _, by omega, by go_num, rfl, hbw⟩
        case measure => simp [intOf]; omega
      · have d4 : decide ((k : Int) < 4000) = false := by simp; omega
        have d4n : decide (k < 4000) = false := by simp; omega
        clear h4
        go_wp2
        go_ret
        exact fin _
    · go_wp2
      go_ret
      exact fin _
end Go.Proofs.Ytadoiehgobcjcaa

namespace Go.Proofs.Ytadoiehgobcjcaa
open Go.ChangeShapes Go.WideShapes Go.ChangeAt Go.RowKit Go.Sort
set_option linter.unusedVariables false
set_option linter.unusedSimpArgs false
theorem DrawI.weak {w : World} {g : Nat} {P Q : Int → Prop} {e : Ending} {w' : World} (h : DrawI w g P e w') (hpq : ∀ x, P x → Q x) : DrawI w g Q e w' := by
  obtain ⟨⟨x, hx, he⟩, r⟩ := h
  exact ⟨⟨x, hpq x hx, he⟩, r⟩
theorem Rd.grown {w w' : World} {B : Nat} {A : Option Addr} {xs : List Value} {g : Nat} (h : Rd w B A xs) (hg : w.grownBy w' (some g)) (hne : ∀ b o, A = some ⟨b, o, none⟩ → b ≠ g) : Rd w' B A xs := fun j u hu => by
  obtain ⟨b, off, e, hlt, hc⟩ := h j u hu
  exact ⟨b, off, e, hlt, hg.cell hc (fun e' => by injection e' with e'; exact hne b off e e')⟩
theorem lit_rd (w : World) (T : TypeId) (xs : List Value) : Rd (w.alloc (.cells xs.toArray T)) (w.heap.size + 1) (some ⟨w.heap.size, 0, none⟩) xs := fun j u hu =>
  ⟨w.heap.size, 0, rfl, Nat.lt_succ_self _, by rw [Nat.zero_add]; have hk : Bk (w.alloc (.cells xs.toArray T)) w.heap.size T xs.toArray := heap_alloc_new w _; exact (hk.cell j).trans (by simpa using hu)⟩
theorem l1PickInt_any {w : World} {g B : Nat} {A : Option Addr} {c n : Nat} {L : List Int} (hr : Rd w B A (ints L)) (hne : ∀ b o, A = some ⟨b, o, none⟩ → b ≠ g) (hl : L.length = n) (h0 : 0 < n) (h1 : n ≤ 256) (hc : Cur w g) :
    Calls Try.prog 68 #[.pointer (some ⟨g, 0, none⟩), .slice A n c] w (DrawI w g fun x => x ∈ L) := by
  go_enter Try.func68, Try.ntmps68
  go_wp2_with fail
  refine (l1Below_any n h0 h1 hc).mono ?_
  rintro e w1 ⟨⟨x, ⟨hx0, hx1⟩, rfl⟩, hc1, hg1⟩
  obtain ⟨k, rfl⟩ := Int.eq_ofNat_of_zero_le hx0
  have hk : k < n := by omega
  have hr1 := hr.grown hg1 hne
  obtain ⟨b, off, x, rfl, hb, HX, c0⟩ := hr1.int (k := k) (by rw [hl]; exact hk)
  have hmem : x ∈ L := by
    have := HX.out
    rw [List.getD_eq_getElem?_getD, List.getElem?_eq_getElem (by rw [hl]; exact hk), Option.getD_some] at this
    rw [← this]; exact List.getElem_mem _
  clear hr hr1 HX
  go_wp2
  go_ret
  exact ⟨⟨x, hmem, rfl⟩, hc1, hg1⟩
/-- Whatever is drawn from a code: a value with the property P; memory grows. -/
def Drawn (w : World) (P : Value → Prop) (e : Ending) (w' : World) : Prop := ∃ v, e = .returned v ∧ P v ∧ Below w.heap.size w w'
end Go.Proofs.Ytadoiehgobcjcaa
