/- The marks that the laws write into frames. No conditions. -/
import Derived.Test.YtgeicojnjagboaaP2
import Derived.Test.YtgeicojnjagboaaQ8
import Derived.Laws.IdiomStrings
namespace Go.Proofs.Ytgeicojnjagboaa
open Go.ChangeShapes Go.WideShapes Go.ChangeAt Go.RowKit Go.Sort
set_option linter.unusedVariables false
set_option linter.unusedSimpArgs false
/-- The digits of a number, k places in front of what stands there. -/
def mD : Nat → Nat → ByteArray → ByteArray
  | 0, _, s => s
  | f + 1, n, s => if n = 0 then s else mD f (n / 10) (⟨#[UInt8.ofNat (48 + n % 10)]⟩ ++ s)
theorem mD_zero (f : Nat) (s : ByteArray) : mD f 0 s = s := by cases f <;> rfl
theorem mD_succ (f n : Nat) (s : ByteArray) (h : 0 < n) : mD (f + 1) n s = mD f (n / 10) (⟨#[UInt8.ofNat (48 + n % 10)]⟩ ++ s) := by
  show (if n = 0 then s else _) = _
  rw [if_neg (by omega)]
theorem mD_size : ∀ (f n : Nat) (s : ByteArray), (mD f n s).size ≤ s.size + f := by
  intro f
  induction f with
  | zero => intro n s; exact Nat.le_refl _
  | succ f ih =>
    intro n s
    show (if n = 0 then s else _).size ≤ _
    split
    · omega
    · have := ih (n / 10) (⟨#[UInt8.ofNat (48 + n % 10)]⟩ ++ s)
      rw [ByteArray.size_append] at this
      have e : (⟨#[UInt8.ofNat (48 + n % 10)]⟩ : ByteArray).size = 1 := rfl
      omega
/-- What markText returns. -/
def mT (k : Int) : ByteArray := (⟨#[109]⟩ : ByteArray) ++ (if k ≤ 0 then ⟨#[48]⟩ else mD 20 k.toNat ⟨#[]⟩)
theorem mT_size (k : Int) : (mT k).size ≤ 30 := by
  unfold mT
  rw [ByteArray.size_append]
  have e : (⟨#[109]⟩ : ByteArray).size = 1 := rfl
  split
  · have e2 : (⟨#[48]⟩ : ByteArray).size = 1 := rfl
    omega
  · have := mD_size 20 k.toNat ⟨#[]⟩
    have e3 : (⟨#[]⟩ : ByteArray).size = 0 := rfl
    omega
theorem mconv (w : World) (c : Int) (q : Nat) (hc : c = (q : Int)) (h1 : q < 256) :
    (convert 34 9 (.slice (some ⟨w.heap.size, 0, none⟩) 1 1)).run Try.prog (w.alloc (.cells #[.int .u8 c] 5)) = .ok (.string ⟨#[UInt8.ofNat q]⟩) (w.alloc (.cells #[.int .u8 c] 5)) := by
  subst hc
  have h := run_convert_bytes_back (P := Try.prog) (w.alloc (.cells #[.int .u8 (q : Int)] 5)) 34 9 5 ⟨w.heap.size, 0, none⟩ 1 [UInt8.ofNat q] Try.underlying34 Try.underlying5 Try.underlying9 (fun j hj => by
    obtain rfl : j = 0 := by simpa using hj
    have e : (([UInt8.ofNat q] : List UInt8)[0].toNat : Int) = (q : Int) := by show ((UInt8.ofNat q).toNat : Int) = q; simp; omega
    rw [e]
    exact (World.cell?_alloc_new (w := w) _ _ 0).trans rfl)
  exact h
set_option maxHeartbeats 1000000 in
theorem markText_any (k : Nat) (hk : 0 < k) (hk1 : k ≤ 4611686018427387904) (w : World) : Calls Try.prog 74 #[.int .i64 k] w fun e w' => e = .returned (.string (mT k)) ∧ Below w.heap.size w w' := by
  have hmt : mT k = (⟨#[109]⟩ : ByteArray) ++ mD 20 k ⟨#[]⟩ := by unfold mT; rw [if_neg (by omega), Int.toNat_natCast]
  have hms := mD_size 20 k ⟨#[]⟩
  have hz : (mD 20 k ⟨#[]⟩).size ≤ 20 := by have e3 : (⟨#[]⟩ : ByteArray).size = 0 := rfl; omega
  rw [hmt]
  obtain ⟨X, hX⟩ : ∃ X, mD 20 k ⟨#[]⟩ = X := ⟨_, rfl⟩
  rw [hX] at hz ⊢
  have HX := Lib.hid hX; clear hX hms hmt
  go_enter Try.func74, Try.ntmps74
  go_wp2
  go_loopw [0, 3] (fun x o wr => ∃ (f n : Nat) (s : ByteArray), x = .int .i64 n ∧ o = .string s ∧ n < 10 ^ f ∧ f ≤ 20 ∧ s.size + f ≤ 20 ∧ n ≤ 4611686018427387904 ∧ mD f n s = X ∧ Below w.heap.size w wr) (fun x _ _ => (intOf x).toNat)
  case atStart => exact ⟨20, k, ⟨#[]⟩, rfl, rfl, by have : (10 : Nat) ^ 20 = 100000000000000000000 := by decide
                                                    omega, by omega, by show 0 + 20 ≤ 20; omega, hk1, HX.out, Below.refl _ _⟩
  case round =>
    obtain ⟨f, n, s, rfl, rfl, hn, hf, hs, hn1, hm, hbw⟩ := hrel
    have HM := Lib.hid hm; clear hm
    clear HX
    have HNF := Lib.hid hn; clear hn
    by_cases h0 : 0 < n
    · cases f with
      | zero => have := HNF.out; simp at this; omega
      | succ f =>
        have hc := mconv wr (48 + (n : Int) % 10) (48 + n % 10) (by omega) (by omega)
        have HS := Lib.hid (mD_succ f n s h0)
        obtain ⟨D, hD⟩ : ∃ D : ByteArray, (⟨#[UInt8.ofNat (48 + n % 10)]⟩ : ByteArray) = D := ⟨_, rfl⟩
        have hDs : D.size = 1 := by rw [← hD]; rfl
        rw [hD] at hc
        have HSD := Lib.hid (show mD (f + 1) n s = mD f (n / 10) (D ++ s) by rw [HS.out, hD])
        clear HS hD
        have hd10 := Lib.hid (show n / 10 < 10 ^ f by have := HNF.out; rw [Nat.pow_succ] at this; omega)
        have hsz2 : (D ++ s).size = 1 + s.size := by rw [ByteArray.size_append, hDs]
        go_wp2
        go_roundw
        case rel => exact ⟨f, n / 10, D ++ s, by go_num, rfl, hd10.out, by omega, by omega, by omega, by rw [← HSD.out]; exact HM.out, hbw.alloc hbw.size _⟩
        case measure => simp [intOf]; omega
    · have HE := Lib.hid (show X = s by rw [← HM.out, show n = 0 by omega, mD_zero])
      go_wp2
      go_ret
      exact ⟨ret_str (by rw [HE.out]), hbw⟩
theorem markText_int (z : Int) (k : Nat) (hz : z = (k : Int)) (hk : 0 < k) (hk1 : k ≤ 4611686018427387904) (w : World) : Calls Try.prog 74 #[.int .i64 z] w fun e w' => e = .returned (.string (mT (k : Int))) ∧ Below w.heap.size w w' := by
  subst hz; exact markText_any k hk hk1 w
theorem gb_below {a w w' : World} {row : Option Nat} (h : a.grownBy w row) (hb : Below w.heap.size w w') : a.grownBy w' row :=
  ⟨hb.os.trans h.os, hb.tape.trans h.tape, hb.output.trans h.output, Nat.le_trans h.size hb.size, fun k hk hne => (hb.block k (Nat.lt_of_lt_of_le hk h.size)).trans (h.block k hk hne)⟩
def mkFr (K : Nat) : Fr := ⟨((K : Nat) : Int), ((K + 1 : Nat) : Int), ((K + 2 : Nat) : Int), mT ((K + 3 : Nat) : Int), decide ((K + 4) % 3 = 0), ((K + 5 : Nat) : Int), ((K + 6 : Nat) : Int), ((K + 7 : Nat) : Int), decide ((K + 8) % 3 = 0)⟩
/-- What the marking writes into frames. -/
def mkF (k0 : Nat) (n : Nat) : List Fr := (List.range n).map fun (i : Nat) => mkFr (k0 + 9 * i)
theorem mkF_len (k0 : Nat) (n : Nat) : (mkF k0 n).length = n := by simp [mkF]
theorem mkF_get (k0 : Nat) (n k : Nat) (h : k < n) : (mkF k0 n).getD k fr0 = mkFr (k0 + 9 * k) := by simp [mkF, h]
theorem Hd.set9 {cs : Array Value} {k : Nat} {xs : List Value} {u0 u1 u2 u3 u4 u5 u6 u7 u8 : Value} (h : Hd cs k xs) (hs : k + 8 < cs.size) (h0 : xs[k]? = some u0) (h1 : xs[k + 1]? = some u1) (h2 : xs[k + 2]? = some u2) (h3 : xs[k + 3]? = some u3) (h4 : xs[k + 4]? = some u4) (h5 : xs[k + 5]? = some u5) (h6 : xs[k + 6]? = some u6) (h7 : xs[k + 7]? = some u7) (h8 : xs[k + 8]? = some u8) :
    Hd ((((((((((cs.setIfInBounds k u0).setIfInBounds (k + 1) u1).setIfInBounds (k + 2) u2).setIfInBounds (k + 3) u3).setIfInBounds (k + 4) u4).setIfInBounds (k + 5) u5).setIfInBounds (k + 6) u6).setIfInBounds (k + 7) u7).setIfInBounds (k + 8) u8)) (k + 9) xs := by
  have g1 := h.set1 (by omega) h0
  have g2 := g1.set1 (by simp; omega) h1
  have g3 := g2.set1 (by simp; omega) h2
  have g4 := g3.set1 (by simp; omega) h3
  have g5 := g4.set1 (by simp; omega) h4
  have g6 := g5.set1 (by simp; omega) h5
  have g7 := g6.set1 (by simp; omega) h6
  have g8 := g7.set1 (by simp; omega) h7
  have g9 := g8.set1 (by simp; omega) h8
  exact g9
theorem mod3 (K : Nat) : decide (((K : Nat) : Int) % 3 = 0) = decide (K % 3 = 0) := by
  by_cases h : K % 3 = 0
  · rw [decide_eq_true h]; simp; omega
  · rw [decide_eq_false h]; simp; omega
end Go.Proofs.Ytgeicojnjagboaa
