/- Chunks that lie anywhere in a block of the call's own memory; the marks written into them. No conditions. -/
import Derived.Test.YtnndhkdigmkddaaE12
namespace Go.Proofs.Ytnndhkdigmkddaa
open Go.ChangeShapes Go.WideShapes Go.ChangeAt Go.RowKit Go.Sort
set_option linter.unusedVariables false
set_option linter.unusedSimpArgs false
/-- The chunks l lie at A, in a block from base on. -/
def OwR (w : World) (base : Nat) (A : Option Addr) (n : Nat) (l : List Ck) : Prop :=
  l.length = n ∧ ((A = none ∧ n = 0) ∨ ∃ g o cs, A = some ⟨g, o, none⟩ ∧ base ≤ g ∧ Bk w g 46 cs ∧ o + n * 2 ≤ cs.size ∧ ∀ j u, (encC l)[j]? = some u → cs[o + j]? = some u)
theorem OwR.rd {w : World} {base : Nat} {A : Option Addr} {n : Nat} {l : List Ck} (h : OwR w base A n l) : Rd w w.heap.size A (encC l) := by
  obtain ⟨hl, ⟨rfl, rfl⟩ | ⟨g, o, cs, rfl, hb, hk, hs, hc⟩⟩ := h
  · obtain rfl := List.eq_nil_of_length_eq_zero hl
    exact Rd.nil _ _ _
  · exact fun j u hu => ⟨g, o, rfl, hk.lt, (hk.cell _).trans (hc j u hu)⟩
theorem OwR.of_own {w : World} {base n c : Nat} {A : Option Addr} {l : List Ck} (h : w.ownsRow base 46 2 (.slice A n c) n (encC l)) : OwR w base A n l := by
  have hl : l.length = n := by have := h.1; rw [encC_len] at this; omega
  refine ⟨hl, ?_⟩
  rcases h.2 with ⟨hv, hn⟩ | ⟨g, cap, cur, hv, hbg, hg, hnc, hcm, hcs, ht⟩
  · injection hv with e1 e2 e3; exact .inl ⟨e1, hn⟩
  · injection hv with e1 e2 e3
    subst e1 e3
    have hk : Bk w g 46 cur := hg
    refine .inr ⟨g, 0, cur, rfl, hbg, hk, ?_, fun j u hu => ?_⟩
    · have := Nat.mul_le_mul_right 2 hnc; omega
    · have hc := h.cells (g := g) rfl j u hu
      have : (⟨g, 0, none⟩ : Addr).add j = ⟨g, 0 + j, none⟩ := by unfold Addr.add; split <;> simp_all
      rw [this, hk.cell] at hc
      exact hc
theorem OwR.below {w w' : World} {base n : Nat} {A : Option Addr} {l : List Ck} (h : OwR w base A n l) (hb : Below w.heap.size w w') : OwR w' base A n l := by
  obtain ⟨hl, ⟨rfl, rfl⟩ | ⟨g, o, cs, rfl, hbg, hk, hs, hc⟩⟩ := h
  · exact ⟨hl, .inl ⟨rfl, rfl⟩⟩
  · exact ⟨hl, .inr ⟨g, o, cs, rfl, hbg, hk.below hb hk.lt, hs, hc⟩⟩
theorem OwR.lower {w : World} {base base' n : Nat} {A : Option Addr} {l : List Ck} (h : OwR w base A n l) (hb : base' ≤ base) : OwR w base' A n l := by
  obtain ⟨hl, h | ⟨g, o, cs, e, hbg, r⟩⟩ := h
  · exact ⟨hl, .inl h⟩
  · exact ⟨hl, .inr ⟨g, o, cs, e, Nat.le_trans hb hbg, r⟩⟩
/-- The block that an address lies in. -/
def blk (A : Option Addr) : Option Nat := A.map (·.block)
theorem OwR.at_ {w : World} {base n : Nat} {A : Option Addr} {l : List Ck} (h : OwR w base A n l) {k : Nat} (hk : blk A = some k) : base ≤ k ∧ k < w.heap.size := by
  obtain ⟨hl, ⟨rfl, rfl⟩ | ⟨g, o, cs, rfl, hbg, hb, hs, hc⟩⟩ := h
  · cases hk
  · injection hk with hk; subst hk; exact ⟨hbg, hb.lt⟩
theorem OwR.other {w w' : World} {base n : Nat} {A : Option Addr} {l : List Ck} {row : Option Nat} (h : OwR w base A n l) (hg : w.grownBy w' row) (hr : ∀ k, row = some k → blk A ≠ some k) : OwR w' base A n l := by
  obtain ⟨hl, ⟨rfl, rfl⟩ | ⟨g, o, cs, rfl, hbg, hk, hs, hc⟩⟩ := h
  · exact ⟨hl, .inl ⟨rfl, rfl⟩⟩
  · exact ⟨hl, .inr ⟨g, o, cs, rfl, hbg, hk.grown hg (fun e => hr g e.symm rfl), hs, hc⟩⟩
/-- The cells from o on begin as xs does. -/
def HdO (cs : Array Value) (o k : Nat) (xs : List Value) : Prop := ∀ j, j < k → cs[o + j]? = xs[j]?
theorem HdO.set2 {cs : Array Value} {o k : Nat} {xs : List Value} {u v : Value} (h : HdO cs o k xs) (hs : o + k + 1 < cs.size) (hu : xs[k]? = some u) (hv : xs[k + 1]? = some v) :
    HdO ((cs.setIfInBounds (o + k) u).setIfInBounds (o + k + 1) v) o (k + 2) xs := by
  intro j hj
  by_cases h1 : j = k + 1
  · subst h1
    rw [hv, show o + (k + 1) = o + k + 1 by omega, Array.getElem?_setIfInBounds, if_pos rfl, if_pos (by simp; omega)]
  · by_cases h2 : j = k
    · subst h2
      rw [hu, Array.getElem?_setIfInBounds, if_neg (by omega), Array.getElem?_setIfInBounds, if_pos rfl, if_pos (by omega)]
    · rw [Array.getElem?_setIfInBounds, if_neg (by omega), Array.getElem?_setIfInBounds, if_neg (by omega)]
      exact h j (by omega)
set_option maxHeartbeats 2000000 in
theorem markChunkS_off {A : Option Addr} {c n base : Nat} {w : World} {l : List Ck} (k0 : Nat) (hown : OwR w base A n l) (hk0 : 0 < k0) (hk1 : k0 ≤ 1152921504606846976) (hm : n ≤ 1152921504606846976) :
    Calls Try.prog 28 #[.slice A n c, .int .i64 k0] w fun e w' => e = .returned (.int .i64 ((k0 + 2 * n : Nat) : Int)) ∧ OwR w' base A n (mkC k0 n) ∧ w.grownBy w' (blk A) := by
  obtain ⟨hl, ⟨rfl, rfl⟩ | ⟨g, o, cur, rfl, hbg, hg, hsz, _⟩⟩ := hown
  · go_enter Try.func28, Try.ntmps28
    go_wp2
    go_loop [1, 5] (fun s i => s = .int .i64 k0 ∧ i = .int .i64 0) (fun _ _ => 0)
    case atStart => exact ⟨rfl, rfl⟩
    case round =>
      obtain ⟨rfl, rfl⟩ := hrel
      go_wp2
      go_ret
      exact ⟨ret_int (by simp), ⟨mkC_len _ _, .inl ⟨rfl, rfl⟩⟩, grown_refl _ _⟩
  · have HG := Lib.hid hg; clear hg
    have HSZ := Lib.hid hsz; clear hsz
    go_enter Try.func28, Try.ntmps28
    go_wp2
    go_loopw [1, 5] (fun s i wr => ∃ (k : Nat) (cs : Array Value), k ≤ n ∧ i = .int .i64 k ∧ s = .int .i64 ((k0 + 2 * k : Nat) : Int) ∧ Bk wr g 46 cs ∧ o + n * 2 ≤ cs.size ∧ HdO cs o (k * 2) (encC (mkC k0 n)) ∧ w.grownBy wr (some g)) (fun s i _ => n - (intOf i).toNat)
    case atStart => exact ⟨0, cur, Nat.zero_le _, rfl, by simp, HG.out, HSZ.out, fun j hj => by omega, grown_refl _ _⟩
    case round =>
      obtain ⟨k, cs, hk, rfl, rfl, hbk, hcs, hh, hgr⟩ := hrel
      have HBK := Lib.hid hbk; clear hbk
      have HCS := Lib.hid hcs; clear hcs
      have HH := Lib.hid hh; clear hh
      by_cases hlt : k < n
      · have hg1 : o + k * 2 + 1 < cs.size := by have := HCS.out; omega
        have hlo := encC_lo (mkC k0 n) k (by rw [mkC_len]; exact hlt)
        have hhi := encC_hi (mkC k0 n) k (by rw [mkC_len]; exact hlt)
        rw [mkC_get _ _ _ hlt] at hlo hhi
        have HLO := Lib.hid hlo; clear hlo
        have HHI := Lib.hid hhi; clear hhi
        have d0 : wr.cell? ⟨g, o + k * 2, none⟩ = some (cs[o + k * 2]'(by omega)) := by rw [HBK.out.cell, Array.getElem?_eq_getElem]
        have f0 := HBK.out.frozen (o + k * 2)
        generalize cs[o + k * 2]'(by omega) = o0 at d0
        have hbk1 := HBK.out.set_ (o + k * 2) (.int .i64 ((k0 : Int) + 2 * (k : Int)))
        have hgr1 := only_setCell hgr (o + k * 2) (.int .i64 ((k0 : Int) + 2 * (k : Int)))
        go_wp2_with fail
        refine (markText_int _ (k0 + 2 * k + 1) (by omega) (by omega) (by omega) _).mono ?_
        rintro e w1 ⟨rfl, hb1⟩
        have hbk2 := hbk1.below hb1 hbk1.lt
        have hgr2 := gb_below hgr1 hb1
        clear d0 f0 hbk1 hgr1
        have d1 : w1.cell? ⟨g, o + k * 2 + 1, none⟩ = some ((cs.setIfInBounds (o + k * 2) (.int .i64 ((k0 : Int) + 2 * (k : Int))))[o + k * 2 + 1]'(by simp; omega)) := by rw [hbk2.cell, Array.getElem?_eq_getElem]
        have f1 := hbk2.frozen (o + k * 2 + 1)
        generalize (cs.setIfInBounds (o + k * 2) (.int .i64 ((k0 : Int) + 2 * (k : Int))))[o + k * 2 + 1]'(by simp; omega) = o1 at d1
        obtain ⟨M, hM⟩ : ∃ M, mT ((k0 + 2 * k + 1 : Nat) : Int) = M := ⟨_, rfl⟩
        rw [hM]
        have HBK3 := Lib.hid (hbk2.set_ (o + k * 2 + 1) (.string M))
        have hgr3 := only_setCell hgr2 (o + k * 2 + 1) (.string M)
        have HHN := Lib.hid (HH.out.set2 (u := .int .i64 ((k0 : Int) + 2 * (k : Int))) (v := .string M) hg1 (by rw [Nat.mul_comm]; exact HLO.out) (by rw [Nat.mul_comm, ← hM]; exact HHI.out))
        clear hbk2 hM
        go_wp2
        go_roundw
        case rel => exact ⟨k + 1, _, by omega, by go_num, by go_num, HBK3.out, by simpa using HCS.out, by rw [Nat.add_mul]; exact HHN.out, hgr3⟩
        case measure => simp [intOf]; omega
      · go_wp2
        go_ret
        obtain rfl : k = n := by omega
        refine ⟨rfl, ⟨mkC_len _ _, .inr ⟨g, o, cs, rfl, hbg, HBK.out, HCS.out, fun j u hu => ?_⟩⟩, hgr⟩
        have hj : j < k * 2 := by have := (List.getElem?_eq_some_iff.1 hu).1; rw [encC_len, mkC_len] at this; omega
        exact (HH.out j hj).trans hu
theorem markBuffer_off {A : Option Addr} {c n base : Nat} {w : World} {l : List Ck} (nx : Int) (k0 : Nat) (hown : OwR w base A n l) (hbase : base ≤ w.heap.size) (hk0 : 0 < k0) (hk1 : k0 ≤ 1152921504606846976) (hm : n ≤ 1152921504606846976) :
    Calls Try.prog 11 #[.agg #[.int .i64 nx, .slice A n c], .int .i64 k0] w fun e w' => e = .returned (.int .i64 ((k0 + 2 * n : Nat) : Int)) ∧ OwR w' base A n (mkC k0 n) ∧ w.grownBy w' (blk A) := by
  have hb0 := bbox w (.int .i64 nx) (.slice A n c) 28
  go_enter Try.func11, Try.ntmps11
  go_wp2_with fail
  refine (markChunkS_off k0 (hown.below hb0) hk0 hk1 hm).mono ?_
  rintro e w1 ⟨rfl, ho1, hg1⟩
  obtain ⟨z, hz⟩ : ∃ z : Int, ((k0 + 2 * n : Nat) : Int) = z := ⟨_, rfl⟩
  rw [hz]
  go_wp2
  go_ret
  refine ⟨ret_int hz.symm, ho1, ?_⟩
  exact ⟨hg1.os.trans hb0.os, hg1.tape.trans hb0.tape, hg1.output.trans hb0.output, Nat.le_trans hb0.size hg1.size, fun k hk hne => (hg1.block k (Nat.lt_of_lt_of_le hk hb0.size) hne).trans (hb0.block k hk)⟩
theorem heldBuffer_any {A : Option Addr} {c n B : Nat} {w : World} (nx : Int) (k0 : Nat) (hr : Rd w B A (encC (mkC k0 n))) (hB : B ≤ w.heap.size) (hk0 : 0 < k0) (hk1 : k0 ≤ 1152921504606846976) (hm : n ≤ 1152921504606846976) :
    Calls Try.prog 12 #[.agg #[.int .i64 nx, .slice A n c], .int .i64 k0] w fun e w' => e = .returned (.int .i64 ((k0 + 2 * n : Nat) : Int)) ∧ Below w.heap.size w w' := by
  have hb0 := bbox w (.int .i64 nx) (.slice A n c) 28
  go_enter Try.func12, Try.ntmps12
  go_wp2_with fail
  refine (heldChunkS_any k0 (hr.below hb0 hB) (Nat.le_trans hB hb0.size) hk0 hk1 hm).mono ?_
  rintro e w1 ⟨rfl, hb1⟩
  replace hb1 := below_next hb0 hb0.size hb1
  obtain ⟨z, hz⟩ : ∃ z : Int, ((k0 + 2 * n : Nat) : Int) = z := ⟨_, rfl⟩
  rw [hz]
  go_wp2
  go_ret
  exact ⟨ret_int hz.symm, hb1⟩
end Go.Proofs.Ytnndhkdigmkddaa
