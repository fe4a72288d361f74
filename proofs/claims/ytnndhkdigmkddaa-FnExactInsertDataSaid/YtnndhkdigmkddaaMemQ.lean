/- Memory words of mine for this seat's proofs: a slice that reads as a list of cells; what stays when only new blocks are written. No conditions. -/
import Derived.Test.YtnndhkdigmkddaaIds
import Derived.Laws.MakeOwn
import Derived.WalkKit
import Derived.ProofKit
import Derived.OpenShut
import Derived.Lib.QuietBelow
import Derived.BigQuiet
import Derived.Lib.Hide
import Derived.Deep.Slices
import Derived.Deep.Fields
import Derived.Deep.LoopGhost
import Derived.Deep.DeepFit
import Derived.Handy
namespace Go.Proofs.Ytnndhkdigmkddaa
open Go.ChangeShapes Go.WideShapes Go.ChangeAt Go.RowKit Go.Sort
set_option linter.unusedVariables false

/-- Every listed cell lies at its place behind A, below block B. -/
def Rd (w : World) (B : Nat) (A : Option Addr) (xs : List Value) : Prop :=
  ∀ j u, xs[j]? = some u → ∃ b off, A = some ⟨b, off, none⟩ ∧ b < B ∧ w.cell? ⟨b, off + j, none⟩ = some u

theorem Rd.nil (w : World) (B : Nat) (A : Option Addr) : Rd w B A [] := fun _ _ h => by cases h
theorem Rd.cell {w : World} {B b off : Nat} {A : Option Addr} {xs : List Value} (h : Rd w B A xs) (hA : A = some ⟨b, off, none⟩) {j : Nat} {u : Value} (hj : xs[j]? = some u) : w.cell? ⟨b, off + j, none⟩ = some u := by
  obtain ⟨b', off', e, _, hc⟩ := h j u hj
  rw [hA] at e
  injection e with e
  injection e with e1 e2
  subst e1 e2
  exact hc
theorem Rd.below {w w' : World} {B B' : Nat} {A : Option Addr} {xs : List Value} (h : Rd w B A xs) (hb : Below B' w w') (hB : B ≤ B') : Rd w' B A xs := fun j u hu => by
  obtain ⟨b, off, e, hlt, hc⟩ := h j u hu
  refine ⟨b, off, e, hlt, ?_⟩
  rw [hb.cell (p := ⟨b, off + j, none⟩) (by show b < B'; omega)]
  exact hc
theorem Rd.more {w : World} {B B' : Nat} {A : Option Addr} {xs : List Value} (h : Rd w B A xs) (hB : B ≤ B') : Rd w B' A xs := fun j u hu => by
  obtain ⟨b, off, e, hlt, hc⟩ := h j u hu
  exact ⟨b, off, e, by omega, hc⟩
theorem Rd.of_own {w : World} {base : Nat} {e : TypeId} {size n : Nat} {v : Value} {xs : List Value} (h : w.ownsRow base e size v n xs) :
    ∃ A c, v = .slice A n c ∧ n ≤ c ∧ Rd w w.heap.size A xs := by
  rcases h.2 with ⟨rfl, rfl⟩ | ⟨g, cap, cur, rfl, hb, hh, hn, hcm, hcs, ht⟩
  · have hx : xs = [] := List.eq_nil_of_length_eq_zero (by simpa using h.1)
    subst hx
    exact ⟨none, 0, rfl, Nat.le_refl _, Rd.nil _ _ _⟩
  · refine ⟨some ⟨g, 0, none⟩, cap, rfl, hn, fun j u hu => ⟨g, 0, rfl, (h.lt g rfl).2, ?_⟩⟩
    have hc := h.cells (g := g) rfl j u hu
    have : (⟨g, 0, none⟩ : Addr).add j = ⟨g, 0 + j, none⟩ := by unfold Addr.add; split <;> simp_all
    rwa [this] at hc

/-- What lies below B is read as before. -/
theorem bcell {B : Nat} {W w1 : World} (hb : Below B W w1) : (∀ b o, b < B → w1.cell? ⟨b, o, none⟩ = W.cell? ⟨b, o, none⟩) ∧ (∀ b o, b < B → w1.frozen? ⟨b, o, none⟩ = W.frozen? ⟨b, o, none⟩) :=
  ⟨fun b o h => hb.cell (p := ⟨b, o, none⟩) h, fun b o h => hb.frozen (p := ⟨b, o, none⟩) h⟩
theorem below_drewN {B : Nat} {a w : World} (h : Below B a w) (n : Nat) : Below B a (w.drewN n) := ⟨h.os, h.tape, h.output, h.size, h.block⟩
theorem below_next {B : Nat} {a b c : World} (h : Below B a b) (hB : B ≤ b.heap.size) (k : Below b.heap.size b c) : Below B a c := h.trans (k.mono hB)
theorem below_size {B : Nat} {a b : World} (h : Below B a b) : a.heap.size ≤ b.heap.size := h.size
/-- One block, known whole, not frozen. -/
def Bk (w : World) (g : Nat) (T : TypeId) (cs : Array Value) : Prop := w.heap[g]? = some (.cells cs T (0, 0))
theorem Bk.cell {w : World} {g : Nat} {T : TypeId} {cs : Array Value} (h : Bk w g T cs) (i : Nat) : w.cell? ⟨g, i, none⟩ = cs[i]? := cell_of_row w g i cs T (0, 0) h
theorem Bk.frozen {w : World} {g : Nat} {T : TypeId} {cs : Array Value} (h : Bk w g T cs) (i : Nat) : w.frozen? ⟨g, i, none⟩ = false := by
  unfold Bk at h; simp [World.frozen?, h]
theorem Bk.lt {w : World} {g : Nat} {T : TypeId} {cs : Array Value} (h : Bk w g T cs) : g < w.heap.size := (Array.getElem?_eq_some_iff.1 h).1
theorem Bk.set_ {w : World} {g : Nat} {T : TypeId} {cs : Array Value} (h : Bk w g T cs) (i : Nat) (u : Value) : Bk (w.setCell ⟨g, i, none⟩ u) g T (cs.setIfInBounds i u) := by
  unfold Bk at h ⊢; simp [World.setCell, Array.getElem?_modify, h]
theorem Bk.below {w w' : World} {g B : Nat} {T : TypeId} {cs : Array Value} (h : Bk w g T cs) (hb : Below B w w') (hg : g < B) : Bk w' g T cs := (hb.block g hg).trans h
theorem Bk.grown {w w' : World} {g : Nat} {row : Option Nat} {T : TypeId} {cs : Array Value} (h : Bk w g T cs) (hb : w.grownBy w' row) (hg : some g ≠ row) : Bk w' g T cs := (hb.block g h.lt hg).trans h
/-- The first cells of a block are these. -/
def Hd (cs : Array Value) (k : Nat) (xs : List Value) : Prop := ∀ j, j < k → cs[j]? = xs[j]?
theorem Hd.set1 {cs : Array Value} {k : Nat} {xs : List Value} {u : Value} (h : Hd cs k xs) (hs : k < cs.size) (hu : xs[k]? = some u) :
    Hd (cs.setIfInBounds k u) (k + 1) xs := by
  intro j hj
  by_cases h2 : j = k
  · subst h2; rw [hu]; simp [Array.getElem?_setIfInBounds]; omega
  · have := h j (by omega)
    rw [← this]
    simp [Array.getElem?_setIfInBounds]
    intro e; omega
theorem Hd.set2 {cs : Array Value} {k : Nat} {xs : List Value} {u v : Value} (h : Hd cs k xs) (hs : k + 1 < cs.size) (hu : xs[k]? = some u) (hv : xs[k + 1]? = some v) :
    Hd ((cs.setIfInBounds k u).setIfInBounds (k + 1) v) (k + 2) xs := by
  intro j hj
  by_cases h1 : j = k + 1
  · subst h1; rw [hv]; simp [Array.getElem?_setIfInBounds]; omega
  · by_cases h2 : j = k
    · subst h2; rw [hu]; simp [Array.getElem?_setIfInBounds]; omega
    · have := h j (by omega)
      rw [← this]
      simp [Array.getElem?_setIfInBounds]
      rw [if_neg (by omega), if_neg (by omega)]
theorem Hd.own {w : World} {g base : Nat} {T : TypeId} {cs : Array Value} {n cap size : Nat} {xs : List Value} (hk : Bk w g T cs) (h : Hd cs (n * size) xs) (hx : xs.length = n * size) (hs : cs.size = cap * size) (hn : n ≤ cap) (hm : cap ≤ maxLen) (hb : base ≤ g) :
    w.ownsRow base T size (.slice (some ⟨g, 0, none⟩) n cap) n xs := by
  refine ⟨hx, .inr ⟨g, cap, cs, rfl, hb, hk, hn, hm, hs, ?_⟩⟩
  apply List.ext_getElem?
  intro j
  by_cases hj : j < n * size
  · rw [List.getElem?_take_of_lt hj]
    have := h j hj
    simpa using this
  · rw [List.getElem?_eq_none (by rw [List.length_take]; omega), List.getElem?_eq_none (by omega)]
theorem only_setCell {a w : World} {g : Nat} (h : a.grownBy w (some g)) (i : Nat) (u : Value) : a.grownBy (w.setCell ⟨g, i, none⟩ u) (some g) :=
  ⟨h.os, h.tape, h.output, by simpa [World.setCell] using h.size, fun k hk hne => (Below.heap_setCell w ⟨g, i, none⟩ u k (fun e => hne (by rw [e]))).trans (h.block k hk hne)⟩
theorem below_of_only {a w : World} {g B : Nat} (h : a.grownBy w (some g)) (hB : B ≤ a.heap.size) (hg : B ≤ g) : Below B a w :=
  ⟨h.os, h.tape, h.output, h.size, fun k hk => h.block k (by omega) (fun e => by injection e; omega)⟩
end Go.Proofs.Ytnndhkdigmkddaa
