/- The slices of ints: markIntS, heldIntS. No conditions. -/
import Derived.Test.YthobnpifndnopaaQ5
namespace Go.Proofs.Ythobnpifndnopaa
open Go.ChangeShapes Go.WideShapes Go.ChangeAt Go.RowKit Go.Sort
set_option linter.unusedVariables false
set_option linter.unusedSimpArgs false
theorem own_far {w w' : World} {base : Nat} {e : TypeId} {size n : Nat} {v : Value} {xs : List Value} {row : Option Nat} (h : w.ownsRow base e size v n xs) (hg : w.grownBy w' row) (hr : ∀ k, row = some k → k < base) : w'.ownsRow base e size v n xs :=
  h.kept hg (by
    cases hv : v.ownBlock with
    | none => exact .inl rfl
    | some g => exact .inr (fun e => by have := hr g e.symm; have := (h.lt g hv).1; omega))
theorem own_other {w w' : World} {base : Nat} {e : TypeId} {size n : Nat} {v : Value} {xs : List Value} {row : Option Nat} (h : w.ownsRow base e size v n xs) (hg : w.grownBy w' row) (hr : ∀ k, row = some k → v.ownBlock ≠ some k) : w'.ownsRow base e size v n xs :=
  h.kept hg (by
    cases hv : v.ownBlock with
    | none => exact .inl rfl
    | some g => exact .inr (fun e => hr g e.symm hv))
theorem below_only {a w w' : World} {B : Nat} {row : Option Nat} (h : Below B a w) (hg : w.grownBy w' row) (hB : B ≤ w.heap.size) (hr : ∀ k, row = some k → B ≤ k) : Below B a w' := h.grown hg hB hr
theorem grown_refl (w : World) (row : Option Nat) : w.grownBy w row := ⟨rfl, rfl, rfl, Nat.le_refl _, fun _ _ _ => rfl⟩
def mkI (k0 : Int) (n : Nat) : List Int := (List.range n).map fun (i : Nat) => k0 + (i : Int)
theorem mkI_len (k0 : Int) (n : Nat) : (mkI k0 n).length = n := by simp [mkI]
theorem mkI_get (k0 : Int) (n k : Nat) (h : k < n) : (mkI k0 n).getD k 0 = k0 + (k : Int) := by simp [mkI, h]
theorem markIntS_any {A : Option Addr} {c n base : Nat} {w : World} {l : List Int} (k0 : Int) (hown : w.ownsRow base 3 1 (.slice A n c) n (ints l)) (hk0 : 0 ≤ k0) (hk1 : k0 ≤ 1152921504606846976) (hm : n ≤ 1152921504606846976) :
    Calls Try.prog 27 #[.slice A n c, .int .i64 k0] w fun e w' => e = .returned (.int .i64 (k0 + n)) ∧ w'.ownsRow base 3 1 (.slice A n c) n (ints (mkI k0 n)) ∧ w.grownBy w' (Value.slice A n c).ownBlock := by
  rcases hown.2 with ⟨hv, hn⟩ | ⟨g, cap, cur, hv, hbg, hg, hnc, hcm, hcs, _⟩
  · injection hv with e1 e2 e3
    subst hn e1 e3
    have hownn := World.ownsRow_nil w base 3 1
    clear hown
    go_enter Try.func27, Try.ntmps27
    go_wp2
    go_loop [1, 5] (fun s i => s = .int .i64 k0 ∧ i = .int .i64 0) (fun _ _ => 0)
    case atStart => exact ⟨rfl, rfl⟩
    case round =>
      obtain ⟨rfl, rfl⟩ := hrel
      go_wp2
      go_ret
      exact ⟨ret_int (by simp), hownn, grown_refl _ _⟩
  · injection hv with e1 e2 e3
    subst e1 e3
    clear hown
    have HCS0 := Lib.hid hcs; clear hcs
    have HG := Lib.hid (show Bk w g 3 cur from hg); clear hg
    go_enter Try.func27, Try.ntmps27
    go_wp2
    go_loopw [1, 5] (fun s i wr => ∃ (k : Nat) (cs : Array Value), k ≤ n ∧ i = .int .i64 k ∧ s = .int .i64 (k0 + (k : Int)) ∧ Bk wr g 3 cs ∧ cs.size = c * 1 ∧ Hd cs k (ints (mkI k0 n)) ∧ w.grownBy wr (some g)) (fun s i _ => n - (intOf i).toNat)
    case atStart => exact ⟨0, cur, Nat.zero_le _, rfl, by simp, HG.out, HCS0.out, fun j hj => by omega, grown_refl _ _⟩
    case round =>
      obtain ⟨k, cs, hk, rfl, rfl, hbk, hcs, hh, hgr⟩ := hrel
      have HBK := Lib.hid hbk; clear hbk
      have HCS := Lib.hid hcs; clear hcs
      have HH := Lib.hid hh; clear hh
      by_cases hlt : k < n
      · have hg1 : k < cs.size := by rw [HCS.out]; omega
        have hlo := ints_get (mkI k0 n) k (by rw [mkI_len]; exact hlt)
        rw [mkI_get _ _ _ hlt] at hlo
        have HLO := Lib.hid hlo; clear hlo
        have d0 : wr.cell? ⟨g, k, none⟩ = some (cs[k]'hg1) := by rw [HBK.out.cell, Array.getElem?_eq_getElem]
        have f0 := HBK.out.frozen k
        generalize cs[k]'hg1 = o0 at d0
        have HBK3 := Lib.hid (HBK.out.set_ k (.int .i64 (k0 + (k : Int))))
        have hgr3 := only_setCell hgr k (.int .i64 (k0 + (k : Int)))
        have HH3 := Lib.hid (HH.out.set1 (u := .int .i64 (k0 + (k : Int))) hg1 HLO.out)
        go_wp2
        go_roundw
        case rel => exact ⟨k + 1, _, by omega, by go_num, by go_num, HBK3.out, by simp [HCS.out], HH3.out, hgr3⟩
        case measure => simp [intOf]; omega
      · go_wp2
        go_ret
        obtain rfl : k = n := by omega
        exact ⟨rfl, Hd.own HBK.out (by simpa using HH.out) (by rw [ints_len, mkI_len, Nat.mul_one]) HCS.out hnc hcm hbg, hgr⟩
theorem heldIntS_any {A : Option Addr} {c n B : Nat} {w : World} (k0 : Int) (hr : Rd w B A (ints (mkI k0 n))) (hk0 : 0 ≤ k0) (hk1 : k0 ≤ 1152921504606846976) (hm : n ≤ 1152921504606846976) :
    Calls Try.prog 28 #[.slice A n c, .int .i64 k0] w fun e w' => e = .returned (.int .i64 (k0 + n)) ∧ w = w' := by
  go_enter Try.func28, Try.ntmps28
  go_wp2
  go_loop [1, 5] (fun s i => ∃ (k : Nat), k ≤ n ∧ i = .int .i64 k ∧ s = .int .i64 (k0 + (k : Int))) (fun s i => n - (intOf i).toNat)
  case atStart => exact ⟨0, Nat.zero_le _, rfl, by simp⟩
  case round =>
    obtain ⟨k, hk, rfl, rfl⟩ := hrel
    by_cases hlt : k < n
    · obtain ⟨b, off, x, rfl, hb, HX, c0⟩ := hr.int (k := k) (by rw [mkI_len]; exact hlt)
      have hxy := HX.out
      rw [mkI_get _ _ _ hlt] at hxy
      subst hxy
      go_wp2
      go_round
      case rel => exact ⟨k + 1, by omega, by go_num, by go_num⟩
      case measure => simp [intOf]; omega
    · go_wp2
      go_ret
      obtain rfl : k = n := by omega
      exact ⟨rfl, rfl⟩
end Go.Proofs.Ythobnpifndnopaa
