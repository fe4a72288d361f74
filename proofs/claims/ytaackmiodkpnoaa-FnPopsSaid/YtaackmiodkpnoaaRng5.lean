/- Contracts of the functions that read a slice of ranges, third part: HasNumber, CountNumbers, FirstGap. No conditions. -/
import Derived.Test.YtaackmiodkpnoaaRng4
namespace Go.Proofs.Ytaackmiodkpnoaa
open Go.ChangeShapes Go.WideShapes Go.ChangeAt Go.RowKit Go.Sort RM
set_option linter.unusedVariables false
theorem hasN_at {l : List R} {k : Nat} {x y v : Int} (hk : k < l.length) (h : l.getD k (0, 0) = (x, y)) (h1 : x ≤ v) (h2 : v < y) : hasN l v = true := by
  simp only [hasN, List.any_eq_true]
  refine ⟨l.getD k (0, 0), ?_, by rw [h]; simp [h1, h2]⟩
  rw [List.getD_eq_getElem?_getD, List.getElem?_eq_getElem hk]; exact List.getElem_mem hk
theorem hasN_none {l : List R} {n : Nat} {v : Int} (hl : l.length = n) (h : ∀ j, j < n → ¬ ((l.getD j (0, 0)).1 ≤ v ∧ v < (l.getD j (0, 0)).2)) : hasN l v = false := by
  rw [Bool.eq_false_iff]
  intro ht
  simp only [hasN, List.any_eq_true] at ht
  obtain ⟨r, hr, hc⟩ := ht
  obtain ⟨i, hi, rfl⟩ := List.getElem_of_mem hr
  have := h i (by omega)
  rw [List.getD_eq_getElem?_getD, List.getElem?_eq_getElem hi] at this
  exact this (by simpa using hc)
theorem not_in {l : List R} {k : Nat} {x y v : Int} (h : l.getD k (0, 0) = (x, y)) (hn : ¬ (x ≤ v ∧ v < y)) : ¬ ((l.getD k (0, 0)).1 ≤ v ∧ v < (l.getD k (0, 0)).2) := by rw [h]; exact hn
theorem lSpan {A : Option Addr} {c n : Nat} {w : World} {B : Nat} {l : List R} (hB : B ≤ w.heap.size) (hr : Rd w B A (encR l)) (hm : n ≤ 9223372036854775807) (HL : Hid (l.length = n)) (v : Int) :
    Calls Try.prog 23 #[.slice A n c, .int .i64 v] w fun e w' => e = .returned (.bool (hasN l v)) ∧ w = w' := by
  go_enter Try.func23, Try.ntmps23
  go_wp2
  go_loop [5] (fun i => ∃ k : Nat, k ≤ n ∧ i = .int .i64 k ∧ (∀ j, j < k → ¬ ((l.getD j (0, 0)).1 ≤ v ∧ v < (l.getD j (0, 0)).2))) (fun i => n - (intOf i).toNat)
  case atStart => exact ⟨0, Nat.zero_le _, rfl, fun j hj => by omega⟩
  case round =>
    obtain ⟨k, hk, rfl, he⟩ := hrel
    have HE := Lib.hid he; clear he
    by_cases hlt : k < n
    · obtain ⟨b, off, x, y, rfl, hb, HX, c0, c1⟩ := hr.rng (k := k) (by rw [HL.out]; exact hlt)
      have hnext : ¬ (x ≤ v ∧ v < y) → ∀ j, j < k + 1 → ¬ ((l.getD j (0, 0)).1 ≤ v ∧ v < (l.getD j (0, 0)).2) := fun hn j hj => by
        by_cases hj' : j < k
        · exact HE.out j hj'
        · obtain rfl : j = k := by omega
          exact not_in HX.out hn
      have HN := Lib.hid hnext; clear hnext
      by_cases h1 : x ≤ v
      · by_cases h2 : v < y
        · go_wp2
          go_ret
          exact ⟨ret_bool (hasN_at (by rw [HL.out]; exact hlt) HX.out h1 h2).symm, rfl⟩
        · go_wp2
          go_round
          case rel => exact ⟨k + 1, by omega, by go_num, HN.out (by omega)⟩
          case measure => simp [intOf]; omega
      · go_wp2
        go_round
        case rel => exact ⟨k + 1, by omega, by go_num, HN.out (by omega)⟩
        case measure => simp [intOf]; omega
    · go_wp2
      go_ret
      exact ⟨ret_bool (hasN_none HL.out (fun j hj => HE.out j (by omega))).symm, rfl⟩
end Go.Proofs.Ytaackmiodkpnoaa
