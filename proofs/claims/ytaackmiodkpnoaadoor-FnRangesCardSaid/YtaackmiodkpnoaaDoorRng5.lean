/- Contracts of the functions that read a slice of ranges, third part: HasNumber, CountNumbers, FirstGap. No conditions. -/
import Derived.Test.YtaackmiodkpnoaaDoorRng4
namespace Go.Proofs.YtaackmiodkpnoaaDoor
open Go.ChangeShapes Go.WideShapes Go.ChangeAt Go.RowKit Go.Sort RM
set_option linter.unusedVariables false
theorem hasN_at {l : List R} {k : Nat} {x y v : Int} (hk : k < l.length) (h : l.getD k (0, 0) = (x, y)) (h1 : x ≤ v) (h2 : v < y) : hasN l v = true := by
  simp only [hasN, List.any_eq_true]
  refine ⟨l.getD k (0, 0), ?_, by rw [h]; simp [h1, h2]⟩
  rw [List.getD_eq_getElem?_getD, List.getElem?_eq_getElem hk]; exact List.getElem_mem hk
theorem hasN_none {l : List R} {n : Nat} {v : Int} (hl : l.length = n) (h : ∀ j, j < n → ¬ ((l.getD j (0, 0)).1 ≤ v ∧ v < (l.getD j (0, 0)).2)) : hasN l v = false := by
  rw [Bool.eq_false_iff]
  intro ht
  simp only [hasN, List.any_eq_true] at ht
  obtain ⟨r, hr, hc⟩ := ht
  obtain ⟨i, hi, rfl⟩ := List.getElem_of_mem hr
  have := h i (by omega)
  rw [List.getD_eq_getElem?_getD, List.getElem?_eq_getElem hi] at this
  exact this (by simpa using hc)
theorem not_in {l : List R} {k : Nat} {x y v : Int} (h : l.getD k (0, 0) = (x, y)) (hn : ¬ (x ≤ v ∧ v < y)) : ¬ ((l.getD k (0, 0)).1 ≤ v ∧ v < (l.getD k (0, 0)).2) := by rw [h]; exact hn
theorem sHas {A : Option Addr} {c n : Nat} {w : World} {B : Nat} {l : List R} (hB : B ≤ w.heap.size) (hr : Rd w B A (encR l)) (hm : n ≤ 9223372036854775807) (HL : Hid (l.length = n)) (v : Int) :
    Calls Tryd.prog 24 #[.slice A n c, .int .i64 v] w fun e w' => e = .returned (.bool (hasN l v)) ∧ w = w' := by
  go_enter Tryd.func24, Tryd.ntmps24
  go_wp2
  go_loop [5] (fun i => ∃ k : Nat, k ≤ n ∧ i = .int .i64 k ∧ (∀ j, j < k → ¬ ((l.getD j (0, 0)).1 ≤ v ∧ v < (l.getD j (0, 0)).2))) (fun i => n - (intOf i).toNat)
  case atStart => exact ⟨0, Nat.zero_le _, rfl, fun j hj => by omega⟩
  case round =>
    obtain ⟨k, hk, rfl, he⟩ := hrel
    have HE := Lib.hid he; clear he
    by_cases hlt : k < n
    · obtain ⟨b, off, x, y, rfl, hb, HX, c0, c1⟩ := hr.rng (k := k) (by rw [HL.out]; exact hlt)
      have hnext : ¬ (x ≤ v ∧ v < y) → ∀ j, j < k + 1 → ¬ ((l.getD j (0, 0)).1 ≤ v ∧ v < (l.getD j (0, 0)).2) := fun hn j hj => by
        by_cases hj' : j < k
        · exact HE.out j hj'
        · obtain rfl : j = k := by omega
          exact not_in HX.out hn
      have HN := Lib.hid hnext; clear hnext
      by_cases h1 : x ≤ v
      · by_cases h2 : v < y
        · go_wp2
          go_ret
          exact ⟨ret_bool (hasN_at (by rw [HL.out]; exact hlt) HX.out h1 h2).symm, rfl⟩
        · go_wp2
          go_round
          case rel => exact ⟨k + 1, by omega, by go_num, HN.out (by omega)⟩
          case measure => simp [intOf]; omega
      · go_wp2
        go_round
        case rel => exact ⟨k + 1, by omega, by go_num, HN.out (by omega)⟩
        case measure => simp [intOf]; omega
    · go_wp2
      go_ret
      exact ⟨ret_bool (hasN_none HL.out (fun j hj => HE.out j (by omega))).symm, rfl⟩
theorem lSpan {A : Option Addr} {c n : Nat} {w : World} {B : Nat} {l : List R} (hB : B ≤ w.heap.size) (hr : Rd w B A (encR l)) (hm : n ≤ 9223372036854775807) (HL : Hid (l.length = n)) (v : Int) :
    Calls Tryd.prog 20 #[.slice A n c, .int .i64 v] w fun e w' => e = .returned (.bool (hasN l v)) ∧ w = w' := by
  go_enter Tryd.func20, Tryd.ntmps20
  go_wp2
  go_loop [5] (fun i => ∃ k : Nat, k ≤ n ∧ i = .int .i64 k ∧ (∀ j, j < k → ¬ ((l.getD j (0, 0)).1 ≤ v ∧ v < (l.getD j (0, 0)).2))) (fun i => n - (intOf i).toNat)
  case atStart => exact ⟨0, Nat.zero_le _, rfl, fun j hj => by omega⟩
  case round =>
    obtain ⟨k, hk, rfl, he⟩ := hrel
    have HE := Lib.hid he; clear he
    by_cases hlt : k < n
    · obtain ⟨b, off, x, y, rfl, hb, HX, c0, c1⟩ := hr.rng (k := k) (by rw [HL.out]; exact hlt)
      have hnext : ¬ (x ≤ v ∧ v < y) → ∀ j, j < k + 1 → ¬ ((l.getD j (0, 0)).1 ≤ v ∧ v < (l.getD j (0, 0)).2) := fun hn j hj => by
        by_cases hj' : j < k
        · exact HE.out j hj'
        · obtain rfl : j = k := by omega
          exact not_in HX.out hn
      have HN := Lib.hid hnext; clear hnext
      by_cases h1 : x ≤ v
      · by_cases h2 : v < y
        · go_wp2
          go_ret
          exact ⟨ret_bool (hasN_at (by rw [HL.out]; exact hlt) HX.out h1 h2).symm, rfl⟩
        · go_wp2
          go_round
          case rel => exact ⟨k + 1, by omega, by go_num, HN.out (by omega)⟩
          case measure => simp [intOf]; omega
      · go_wp2
        go_round
        case rel => exact ⟨k + 1, by omega, by go_num, HN.out (by omega)⟩
        case measure => simp [intOf]; omega
    · go_wp2
      go_ret
      exact ⟨ret_bool (hasN_none HL.out (fun j hj => HE.out j (by omega))).symm, rfl⟩
def inB (x y v : Int) : Bool := decide (x ≤ v) && decide (v < y)
theorem has1 (x y v : Int) (g : Nat) (w : World) (hc : w.cell? ⟨g, 0, none⟩ = some (.int .i64 v)) :
    Calls Tryd.prog 40 #[.agg #[.int .i64 x, .int .i64 y], .pointer (some ⟨g, 0, none⟩)] w fun e w' => e = .returned (.bool (inB x y v)) ∧ Below w.heap.size w w' := by
  have hg : g < w.heap.size := World.block_lt_of_cell? w _ hc
  have hne : ¬ g = w.heap.size := by omega
  have hA := cell_new2 w (.int .i64 x) (.int .i64 y) 32
  have ho := cell_alloc hc (.cells #[.int .i64 x, .int .i64 y] 32)
  have hbw : Below w.heap.size w (w.alloc (.cells #[.int .i64 x, .int .i64 y] 32)) := (Below.refl _ _).alloc (Nat.le_refl _) _
  by_cases h1 : x ≤ v
  · by_cases h2 : v < y
    · have hv : inB x y v = true := by simp [inB, h1, h2]
      rw [hv]; clear hv
      go_enter Tryd.func40, Tryd.ntmps40
      go_wp2
      go_ret
      exact ⟨rfl, hbw⟩
    · have hv : inB x y v = false := by simp [inB]; omega
      have hd : decide (v < y) = false := by simp; omega
      rw [hv]; clear hv
      go_enter Tryd.func40, Tryd.ntmps40
      go_wp2
      go_ret
      exact ⟨rfl, hbw⟩
  · have hv : inB x y v = false := by simp [inB]; omega
    have hd : decide (x ≤ v) = false := by simp; omega
    rw [hv]; clear hv
    go_enter Tryd.func40, Tryd.ntmps40
    go_wp2
    go_ret
    exact ⟨rfl, hbw⟩
def IdxPost (l : List R) (v : Int) (w : World) (e : Ending) (w' : World) : Prop := ∃ i : Int, e = .returned (.int .i64 i) ∧ decide (0 ≤ i) = hasN l v ∧ Below w.heap.size w w'
theorem idxF {A : Option Addr} {c n : Nat} {w : World} {B : Nat} {l : List R} (hB : B ≤ w.heap.size) (hr : Rd w B A (encR l)) (hm : n ≤ 9223372036854775807) (HL : Hid (l.length = n)) (v : Int) (g : Nat) (hc : w.cell? ⟨g, 0, none⟩ = some (.int .i64 v)) :
    Calls Tryd.prog 47 #[.slice A n c, .func (.func 40) #[] #[.pointer (some ⟨g, 0, none⟩)]] w (IdxPost l v w) := by
  have hg : g < w.heap.size := World.block_lt_of_cell? w _ hc
  have HC := Lib.hid hc; clear hc
  go_enter Tryd.func47, Tryd.ntmps47
  go_wp2
  go_loopw [8] (fun i wr => ∃ k : Nat, k ≤ n ∧ i = .int .i64 k ∧ (∀ j, j < k → ¬ ((l.getD j (0, 0)).1 ≤ v ∧ v < (l.getD j (0, 0)).2)) ∧ Below w.heap.size w wr) (fun i _ => n - (intOf i).toNat)
  case atStart => exact ⟨0, Nat.zero_le _, rfl, fun j hj => by omega, Below.refl _ _⟩
  case round =>
    obtain ⟨k, hk, rfl, he, hbw⟩ := hrel
    have HE := Lib.hid he; clear he
    by_cases hlt : k < n
    · obtain ⟨b, off, x, y, rfl, hb, HX, c0, c1⟩ := (hr.below hbw hB).rng (k := k) (by rw [HL.out]; exact hlt)
      have hcw : wr.cell? ⟨g, 0, none⟩ = some (.int .i64 v) := by rw [hbw.cell (p := ⟨g, 0, none⟩) hg]; exact HC.out
      cases hq : inB x y v
      · go_wp2_with (go_at_call 40; refine (has1 _ _ _ _ _ hcw).mono ?_; rintro e w2 ⟨rfl, hb2⟩)
        go_roundw
        case rel => exact ⟨k + 1, by omega, by go_num, fun j hj => by
          by_cases hj' : j < k
          · exact HE.out j hj'
          · obtain rfl : j = k := by omega
            exact not_in HX.out (by simp [inB] at hq; omega), by apply below_next hbw hbw.size; assumption⟩
        case measure => simp [intOf]; omega
      · go_wp2_with (go_at_call 40; refine (has1 _ _ _ _ _ hcw).mono ?_; rintro e w2 ⟨rfl, hb2⟩)
        go_ret
        exact ⟨_, rfl, by rw [hasN_at (by rw [HL.out]; exact hlt) HX.out (by simp [inB] at hq; omega) (by simp [inB] at hq; omega)]; simp, by apply below_next hbw hbw.size; assumption⟩
    · go_wp2
      go_ret
      exact ⟨_, rfl, by rw [hasN_none HL.out (fun j hj => HE.out j (by omega))]; rfl, hbw⟩
theorem contF {A : Option Addr} {c n : Nat} {w : World} {B : Nat} {l : List R} (hB : B ≤ w.heap.size) (hr : Rd w B A (encR l)) (hm : n ≤ 9223372036854775807) (HL : Hid (l.length = n)) (v : Int) (g : Nat) (hc : w.cell? ⟨g, 0, none⟩ = some (.int .i64 v)) :
    Calls Tryd.prog 39 #[.slice A n c, .func (.func 40) #[] #[.pointer (some ⟨g, 0, none⟩)]] w fun e w' => e = .returned (.bool (hasN l v)) ∧ Below w.heap.size w w' := by
  go_enter Tryd.func39, Tryd.ntmps39
  go_wp2_with fail
  refine (idxF hB hr hm HL v g hc).mono ?_
  rintro e w' ⟨i, rfl, hi, hb2⟩
  go_wp2
  go_ret
  exact ⟨rfl, hb2⟩
theorem iHas {A : Option Addr} {c n : Nat} {w : World} {B : Nat} {l : List R} (hB : B ≤ w.heap.size) (hr : Rd w B A (encR l)) (hm : n ≤ 9223372036854775807) (HL : Hid (l.length = n)) (v : Int) :
    Calls Tryd.prog 19 #[.slice A n c, .int .i64 v] w fun e w' => e = .returned (.bool (hasN l v)) ∧ Below w.heap.size w w' := by
  have hb1 : Below w.heap.size w (w.alloc (.cells #[.int .i64 v] 3)) := (Below.refl _ _).alloc (Nat.le_refl _) _
  have hn : (w.alloc (.cells #[.int .i64 v] 3)).cell? ⟨w.heap.size, 0, none⟩ = some (.int .i64 v) := by simp [go_sem]
  go_enter Tryd.func19, Tryd.ntmps19
  go_wp2_with (go_at_call 39; refine (contF (B := B) (by simp; omega) (hr.below hb1 hB) hm HL v _ hn).mono ?_; rintro e w2 ⟨rfl, hb2⟩)
  go_ret
  exact ⟨rfl, by apply below_next hb1 hb1.size; assumption⟩
end Go.Proofs.YtaackmiodkpnoaaDoor
