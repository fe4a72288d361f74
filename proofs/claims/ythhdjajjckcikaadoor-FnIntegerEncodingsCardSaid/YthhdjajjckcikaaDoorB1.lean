/- Rows of bytes that the code builds, and the text they become. No conditions. -/
import Derived.Test.YthhdjajjckcikaaDoorMemQ
import Derived.Test.YthhdjajjckcikaaDoorQ3
import Derived.Test.YthhdjajjckcikaaDoorVMath
import Derived.Laws.IdiomStrings
namespace Go.Proofs.YthhdjajjckcikaaDoor
open Go.ChangeShapes Go.WideShapes Go.ChangeAt Go.RowKit Go.Sort QM
set_option linter.unusedVariables false
set_option linter.unusedSimpArgs false
theorem info_byte : (Tryd.prog.info? 5).map (fun i => (i.zero, i.size, i.bytes)) = some (some (.int .u8 0), 1, 1) := by kernel_rfl
/-- The cells of a list of bytes. -/
def bys (l : List UInt8) : List Value := l.map (fun b => .int .u8 (b.toNat : Int))
theorem bys_len (l : List UInt8) : (bys l).length = l.length := by simp [bys]
theorem bys_snoc (l : List UInt8) (m : Nat) (c : Int) (hc : c = (m : Int)) (hm : m < 256) : bys l ++ [.int .u8 c] = bys (l ++ [UInt8.ofNat m]) := by
  subst hc
  have e : (UInt8.ofNat m).toNat = m := by rw [ofNat_toNat]; omega
  simp only [bys, List.map_append, List.map_cons, List.map_nil, e]
theorem bys_snoc2 (l : List UInt8) (x y : UInt8) : bys l ++ [.int .u8 (x.toNat : Int), .int .u8 (y.toNat : Int)] = bys (l ++ [x, y]) := by simp [bys]
theorem conv_own {w : World} {base n : Nat} {v : Value} {l : List UInt8} (h : w.ownsRow base 5 1 v n (bys l)) (hne : v ≠ .slice none 0 0) :
    (convert 22 9 v).run Tryd.prog w = .ok (.string ⟨l.toArray⟩) w := by
  have hl : l.length = n := by have := h.1; simpa [bys] using this
  rcases h.2 with ⟨e, _⟩ | ⟨g, cap, cur, rfl, hb, hh, hn, hcm, hcs, ht⟩
  · exact absurd e hne
  · have h2 := run_convert_bytes_back (P := Tryd.prog) w 22 9 5 ⟨g, 0, none⟩ cap l Tryd.underlying22 Tryd.underlying5 Tryd.underlying9 (fun j hj => by
      exact h.cells (g := g) rfl j (.int .u8 (l[j].toNat : Int)) (by simp [bys, hj]))
    rw [hl] at h2
    exact h2
theorem bown_empty (w : World) (base : Nat) (T : TypeId) (size : Nat) (hb : base ≤ w.heap.size) : (w.alloc (.cells #[] T)).ownsRow base T size (.slice (some ⟨w.heap.size, 0, none⟩) 0 0) 0 [] :=
  World.ownsRow_made w #[] 0 hb (by unfold maxLen; omega) (by simp)
theorem bnews1 {w : World} {g : Nat} {T : TypeId} (u : Value) (hg : g = w.heap.size) : ∀ (j : Nat) (x : Value), [u][j]? = some x → (w.alloc (.cells #[u] T)).cell? ((⟨g, 0, none⟩ : Addr).add j) = some x := by
  subst hg
  intro j x hj
  match j, hj with
  | 0, hj => simp at hj; subst hj; simp [Addr.add, go_sem]
  | j + 1, hj => simp at hj
theorem bnews2 {w : World} {g : Nat} {T : TypeId} (u v : Value) (hg : g = w.heap.size) : ∀ (j : Nat) (x : Value), [u, v][j]? = some x → (w.alloc (.cells #[u, v] T)).cell? ((⟨g, 0, none⟩ : Addr).add j) = some x := by
  subst hg
  intro j x hj
  match j, hj with
  | 0, hj => simp at hj; subst hj; simp [Addr.add, go_sem]
  | 1, hj => simp at hj; subst hj; simp [Addr.add, go_sem]
  | j + 2, hj => simp at hj
theorem bone_1 (a : Int) : ∀ u ∈ [Value.int .u8 a], u.oneCell' = true := by intro u hu; simp at hu; subst hu; rfl
theorem bone_2 (a b : Int) : ∀ u ∈ [Value.int .u8 a, Value.int .u8 b], u.oneCell' = true := by intro u hu; simp at hu; rcases hu with rfl | rfl <;> rfl
theorem some_next {w w' : World} {base : Nat} {e : TypeId} {size n m : Nat} {v v' : Value} (h : v' = .slice none 0 0 ↔ v = .slice none 0 0 ∧ m = 0) (hm : m ≠ 0) : v' ≠ .slice none 0 0 := fun e => hm (h.1 e).2
end Go.Proofs.YthhdjajjckcikaaDoor
