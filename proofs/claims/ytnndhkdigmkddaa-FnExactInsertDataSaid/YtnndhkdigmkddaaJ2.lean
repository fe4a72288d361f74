/- Joining chunks that touch: the contract. No conditions. -/
import Derived.Test.YtnndhkdigmkddaaJ1
import Derived.Deep.RegionLaw
import Derived.StillTailTactics
namespace Go.Proofs.Ytnndhkdigmkddaa
open Go.ChangeShapes Go.WideShapes Go.ChangeAt Go.RowKit
set_option linter.unusedVariables false
set_option linter.unusedSimpArgs false
def stepJ (O : List Ck) (c : Ck) : List Ck := if O.length ≠ 0 ∧ (O.getD (O.length - 1) ck0).1 + ((O.getD (O.length - 1) ck0).2.size : Int) = c.1 then O.set (O.length - 1) ((O.getD (O.length - 1) ck0).1, (O.getD (O.length - 1) ck0).2 ++ c.2) else O ++ [c]
def joinK (L : List Ck) : List Ck := L.foldl stepJ []
theorem stepJ_last (P : List Ck) (c d : Ck) : stepJ (P ++ [c]) d = if c.1 + (c.2.size : Int) = d.1 then P ++ [(c.1, c.2 ++ d.2)] else P ++ [c] ++ [d] := by
  have h1 : (P ++ [c]).length - 1 = P.length := by simp
  have h2 : (P ++ [c]).getD P.length ck0 = c := by simp [List.getD_eq_getElem?_getD]
  have h3 : (P ++ [c]).length ≠ 0 := by simp
  unfold stepJ
  rw [h1, h2]
  by_cases h : c.1 + (c.2.size : Int) = d.1
  · rw [if_pos ⟨h3, h⟩, if_pos h]
    simp
  · rw [if_neg (fun h' => h h'.2), if_neg h]
theorem toC_app (x : Int) (a b : ByteArray) : toC (x, a ++ b) = (x, a.data.toList ++ b.data.toList) := by
  unfold toC
  simp only [ByteArray.data_append, Array.toList_append]
theorem foldJ_map : ∀ (l P : List Ck) (c : Ck), (l.foldl stepJ (P ++ [c])).map toC = P.map toC ++ BM.jn (toC c) (l.map toC) := by
  intro l
  induction l with
  | nil => intro P c; simp [BM.jn]
  | cons d l ih =>
    intro P c
    rw [List.foldl_cons, stepJ_last, List.map_cons, BM.jn]
    by_cases h : c.1 + (c.2.size : Int) = d.1
    · rw [if_pos h, if_pos (show BM.cend (toC c) = (toC d).1 from h), ih, toC_app]
      rfl
    · rw [if_neg h, if_neg (show ¬ BM.cend (toC c) = (toC d).1 from h), ih]
      simp
theorem joinK_map (L : List Ck) : (joinK L).map toC = BM.joined (L.map toC) := by
  cases L with
  | nil => rfl
  | cons c l =>
    have h : stepJ [] c = [] ++ [c] := by unfold stepJ; simp
    unfold joinK
    rw [List.foldl_cons, h, foldJ_map]
    simp [BM.joined]
theorem stepJ_len (O : List Ck) (c : Ck) : (stepJ O c).length ≤ O.length + 1 := by
  unfold stepJ
  split
  · rw [List.length_set]; omega
  · simp
theorem foldJ_len : ∀ (l O : List Ck), (l.foldl stepJ O).length ≤ O.length + l.length := by
  intro l
  induction l with
  | nil => intro O; simp
  | cons c l ih => intro O; rw [List.foldl_cons]; have := ih (stepJ O c); have := stepJ_len O c; simp only [List.length_cons]; omega
/-- Chunks that lie within the range of offsets. -/
def GoodC (c : Ck) : Prop := 0 ≤ c.1 ∧ c.1 + (c.2.size : Int) ≤ 4611686018427387903
theorem stepJ_good {O : List Ck} {c : Ck} (h : ∀ x ∈ O, GoodC x) (hc : GoodC c) : ∀ x ∈ stepJ O c, GoodC x := by
  unfold stepJ
  split
  · rename_i h2
    intro x hx
    rcases List.mem_or_eq_of_mem_set hx with hx | rfl
    · exact h x hx
    · have hl : O.length - 1 < O.length := by omega
      have hm : O.getD (O.length - 1) ck0 ∈ O := by rw [List.getD_eq_getElem?_getD, List.getElem?_eq_getElem hl, Option.getD_some]; exact List.getElem_mem hl
      have := h _ hm
      unfold GoodC at this hc ⊢
      simp only [ByteArray.size_append]
      omega
  · intro x hx
    rcases List.mem_append.1 hx with hx | hx
    · exact h x hx
    · simp only [List.mem_cons, List.not_mem_nil, or_false] at hx; subst hx; exact hc
theorem foldJ_good : ∀ (l O : List Ck), (∀ x ∈ O, GoodC x) → (∀ x ∈ l, GoodC x) → ∀ x ∈ l.foldl stepJ O, GoodC x := by
  intro l
  induction l with
  | nil => intro O h _; exact h
  | cons c l ih => intro O h hl; rw [List.foldl_cons]; exact ih _ (stepJ_good h (hl c List.mem_cons_self)) (fun x hx => hl x (List.mem_cons_of_mem _ hx))
theorem foldJ_snoc {L : List Ck} {k : Nat} {x : Int} {d : ByteArray} (hk : k < L.length) (hx : L.getD k ck0 = (x, d)) : (L.take (k + 1)).foldl stepJ [] = stepJ ((L.take k).foldl stepJ []) (x, d) := by
  rw [List.take_succ_eq_append_getElem hk, List.foldl_append]
  have : L[k] = (x, d) := by rw [← hx, List.getD_eq_getElem?_getD, List.getElem?_eq_getElem hk, Option.getD_some]
  rw [this]; rfl
theorem encC_set {O : List Ck} {p : Nat} {x : Int} {s t : ByteArray} (hp : p < O.length) (hx : O.getD p ck0 = (x, s)) : encC (O.set p (x, t)) = (encC O).set (2 * p + 1) (.string t) := by
  apply List.ext_getElem?
  intro j
  have hl := encC_len (O.set p (x, t))
  have hl2 := encC_len O
  rw [List.length_set] at hl
  by_cases hj : j < 2 * O.length
  · rcases (show (∃ q, j = 2 * q) ∨ ∃ q, j = 2 * q + 1 from by
      rcases (show j % 2 = 0 ∨ j % 2 = 1 by omega) with h2 | h2
      · exact .inl ⟨j / 2, by omega⟩
      · exact .inr ⟨j / 2, by omega⟩) with ⟨q, rfl⟩ | ⟨q, rfl⟩
    · have hk : q < O.length := by omega
      have a := encC_lo (O.set p (x, t)) q (by rw [List.length_set]; exact hk)
      have b := encC_lo O q hk
      rw [a, List.getElem?_set_ne (by omega), b]
      by_cases hq : q = p
      · subst hq
        rw [hx]
        simp [List.getD_eq_getElem?_getD, hp]
      · rw [List.getD_eq_getElem?_getD, List.getElem?_set_ne (by omega), ← List.getD_eq_getElem?_getD]
    · have hk : q < O.length := by omega
      have a := encC_hi (O.set p (x, t)) q (by rw [List.length_set]; exact hk)
      have b := encC_hi O q hk
      by_cases hq : q = p
      · subst hq
        rw [a, List.getElem?_set_self (by rw [hl2]; omega)]
        simp [List.getD_eq_getElem?_getD, hp]
      · rw [a, List.getElem?_set_ne (by omega), b, List.getD_eq_getElem?_getD, List.getElem?_set_ne (by omega), ← List.getD_eq_getElem?_getD]
  · rw [List.getElem?_eq_none (by omega), List.getElem?_eq_none (by rw [List.length_set]; omega)]
/-- Writing one element's text in a row of the call's own. -/
theorem own_setS {w : World} {base g p cap : Nat} {O : List Ck} {x : Int} {s t : ByteArray} (h : w.ownsRow base 46 2 (.slice (some ⟨g, 0, none⟩) O.length cap) O.length (encC O)) (hp : p < O.length) (hx : O.getD p ck0 = (x, s)) :
    (w.setCell ⟨g, 2 * p + 1, none⟩ (.string t)).ownsRow base 46 2 (.slice (some ⟨g, 0, none⟩) (O.set p (x, t)).length cap) (O.set p (x, t)).length (encC (O.set p (x, t))) := by
  rw [List.length_set]
  refine ⟨by rw [encC_len, List.length_set, Nat.mul_comm], ?_⟩
  rcases h.2 with ⟨hv, hn⟩ | ⟨g', cap', cur, hv, hb, hg, h1, h2, h3, h4⟩
  · cases hv
  · injection hv with e1 e2 e3
    injection e1 with e1
    injection e1 with e1
    subst e1 e3
    have hk : Bk w g 46 cur := hg
    refine .inr ⟨g, cap, cur.setIfInBounds (2 * p + 1) (.string t), rfl, hb, hk.set_ _ _, h1, h2, by simpa using h3, ?_⟩
    rw [encC_set hp hx, ← h4, Array.toList_setIfInBounds, List.take_set]
end Go.Proofs.Ytnndhkdigmkddaa
