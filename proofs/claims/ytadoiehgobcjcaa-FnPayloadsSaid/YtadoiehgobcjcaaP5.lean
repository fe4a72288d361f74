/- The marks that the laws write into frames. No conditions. -/
import Derived.Test.YtadoiehgobcjcaaA6
import Derived.Test.YtadoiehgobcjcaaA1
import Derived.Laws.IdiomStrings
namespace Go.Proofs.Ytadoiehgobcjcaa
open Go.ChangeShapes Go.WideShapes Go.ChangeAt Go.RowKit Go.Sort
set_option linter.unusedVariables false
set_option linter.unusedSimpArgs false
/-- The digits of a number, k places in front of what stands there. -/
def mD : Nat → Nat → ByteArray → ByteArray
  | 0, _, s => s
  | f + 1, n, s => if n = 0 then s else mD f (n / 10) (⟨#[UInt8.ofNat (48 + n % 10)]⟩ ++ s)
theorem mD_zero (f : Nat) (s : ByteArray) : mD f 0 s = s := by cases f <;> rfl
theorem mD_succ (f n : Nat) (s : ByteArray) (h : 0 < n) : mD (f + 1) n s = mD f (n / 10) (⟨#[UInt8.ofNat (48 + n % 10)]⟩ ++ s) := by
  show (if n = 0 then s else _) = _
  rw [if_neg (by omega)]
theorem mD_size : ∀ (f n : Nat) (s : ByteArray), (mD f n s).size ≤ s.size + f := by
  intro f
  induction f with
  | zero => intro n s; exact Nat.le_refl _
  | succ f ih =>
    intro n s
    show (if n = 0 then s else _).size ≤ _
    split
    · omega
    · have := ih (n / 10) (⟨#[UInt8.ofNat (48 + n % 10)]⟩ ++ s)
      rw [ByteArray.size_append] at this
      have e : (⟨#[UInt8.ofNat (48 + n % 10)]⟩ : ByteArray).size = 1 := rfl
      omega
/-- What markText returns. -/
def mT (k : Int) : ByteArray := (⟨#[109]⟩ : ByteArray) ++ (if k ≤ 0 then ⟨#[48]⟩ else mD 20 k.toNat ⟨#[]⟩)
theorem mT_size (k : Int) : (mT k).size ≤ 30 := by
  unfold mT
  rw [ByteArray.size_append]
  have e : (⟨#[109]⟩ : ByteArray).size = 1 := rfl
  split
  · have e2 : (⟨#[48]⟩ : ByteArray).size = 1 := rfl
    omega
  · have := mD_size 20 k.toNat ⟨#[]⟩
    have e3 : (⟨#[]⟩ : ByteArray).size = 0 := rfl
    omega
theorem mconv (w : World) (c : Int) (q : Nat) (hc : c = (q : Int)) (h1 : q < 256) :
    (convert 22 9 (.slice (some ⟨w.heap.size, 0, none⟩) 1 1)).run Try.prog (w.alloc (.cells #[.int .u8 c] 5)) = .ok (.string ⟨#[UInt8.ofNat q]⟩) (w.alloc (.cells #[.int .u8 c] 5)) := by
  subst hc
  have h := run_convert_bytes_back (P := Try.prog) (w.alloc (.cells #[.int .u8 (q : Int)] 5)) 22 9 5 ⟨w.heap.size, 0, none⟩ 1 [UInt8.ofNat q] Try.underlying22 Try.underlying5 Try.underlying9 (fun j hj => by
    obtain rfl : j = 0 := by simpa using hj
    have e : (([UInt8.ofNat q] : List UInt8)[0].toNat : Int) = (q : Int) := by show ((UInt8.ofNat q).toNat : Int) = q; simp; omega
    rw [e]
    exact (World.cell?_alloc_new (w := w) _ _ 0).trans rfl)
  exact h
theorem gb_below {a w w' : World} {row : Option Nat} (h : a.grownBy w row) (hb : Below w.heap.size w w') : a.grownBy w' row :=
  ⟨hb.os.trans h.os, hb.tape.trans h.tape, hb.output.trans h.output, Nat.le_trans h.size hb.size, fun k hk hne => (hb.block k (Nat.lt_of_lt_of_le hk h.size)).trans (h.block k hk hne)⟩
def mkFr (K : Nat) : Fr := ⟨((K : Nat) : Int), ((K + 1 : Nat) : Int), ((K + 2 : Nat) : Int), mT ((K + 3 : Nat) : Int), decide ((K + 4) % 3 = 0), ((K + 5 : Nat) : Int), ((K + 6 : Nat) : Int), ((K + 7 : Nat) : Int), decide ((K + 8) % 3 = 0)⟩
/-- What the marking writes into frames. -/
def mkF (k0 : Nat) (n : Nat) : List Fr := (List.range n).map fun (i : Nat) => mkFr (k0 + 9 * i)
theorem mkF_len (k0 : Nat) (n : Nat) : (mkF k0 n).length = n := by simp [mkF]
theorem mkF_get (k0 : Nat) (n k : Nat) (h : k < n) : (mkF k0 n).getD k fr0 = mkFr (k0 + 9 * k) := by simp [mkF, h]
theorem Hd.set9 {cs : Array Value} {k : Nat} {xs : List Value} {u0 u1 u2 u3 u4 u5 u6 u7 u8 : Value} (h : Hd cs k xs) (hs : k + 8 < cs.size) (h0 : xs[k]? = some u0) (h1 : xs[k + 1]? = some u1) (h2 : xs[k + 2]? = some u2) (h3 : xs[k + 3]? = some u3) (h4 : xs[k + 4]? = some u4) (h5 : xs[k + 5]? = some u5) (h6 : xs[k + 6]? = some u6) (h7 : xs[k + 7]? = some u7) (h8 : xs[k + 8]? = some u8) :
    Hd ((((((((((cs.setIfInBounds k u0).setIfInBounds (k + 1) u1).setIfInBounds (k + 2) u2).setIfInBounds (k + 3) u3).setIfInBounds (k + 4) u4).setIfInBounds (k + 5) u5).setIfInBounds (k + 6) u6).setIfInBounds (k + 7) u7).setIfInBounds (k + 8) u8)) (k + 9) xs := by
  have g1 := h.set1 (by omega) h0
  have g2 := g1.set1 (by simp; omega) h1
  have g3 := g2.set1 (by simp; omega) h2
  have g4 := g3.set1 (by simp; omega) h3
  have g5 := g4.set1 (by simp; omega) h4
  have g6 := g5.set1 (by simp; omega) h5
  have g7 := g6.set1 (by simp; omega) h6
  have g8 := g7.set1 (by simp; omega) h7
  have g9 := g8.set1 (by simp; omega) h8
  exact g9
theorem mod3 (K : Nat) : decide (((K : Nat) : Int) % 3 = 0) = decide (K % 3 = 0) := by
  by_cases h : K % 3 = 0
  · rw [decide_eq_true h]; simp; omega
  · rw [decide_eq_false h]; simp; omega
end Go.Proofs.Ytadoiehgobcjcaa
