/- Plain laws: reading takes the bytes in order, each once, as far as there is no gap. No conditions. -/
import Derived.Test.YtnndhkdigmkddaaDB0
namespace Go.Proofs.Ytnndhkdigmkddaa
open Go.ChangeShapes Go.WideShapes Go.ChangeAt Go.RowKit Go.Sort
set_option linter.unusedVariables false
set_option linter.unusedSimpArgs false
theorem isBf_of_chain {nx : Int} {l : List Ck} (hq : qB nx = true) (h : BM.ChB nx (l.map toC)) : isBf nx l = true := by
  have key : ∀ (m : List Ck) (k : Nat), l.drop k = m → BM.ChB (pe nx l k + 1) (m.map toC) → ∀ j, k ≤ j → j < l.length → okB nx l j = true := by
    intro m
    induction m with
    | nil =>
      intro k hk _ j h1 h2
      have := List.length_drop (i := k) (l := l)
      rw [hk] at this; simp only [List.length_nil] at this; omega
    | cons c m ih =>
      intro k hk hc j h1 h2
      have hkl : k < l.length := by omega
      have hcd : l.getD k ck0 = c := by
        rw [List.getD_eq_getElem?_getD, List.getElem?_eq_getElem hkl, Option.getD_some]
        rw [List.drop_eq_getElem_cons hkl] at hk
        injection hk
      have hd : l.drop (k + 1) = m := by rw [List.drop_eq_getElem_cons hkl] at hk; injection hk
      obtain ⟨c1, c2, c3, c4⟩ := hc
      have c1' : pe nx l k + 1 ≤ c.1 := c1
      have c3' : c.1 + (c.2.size : Int) ≤ 4611686018427387903 := c3
      have c2' : 0 < c.2.size := by
        rcases Nat.eq_zero_or_pos c.2.size with h0 | h0
        · exact absurd (show c.2.data.toList = [] from List.eq_nil_of_length_eq_zero (by rw [Array.length_toList]; exact h0)) c2
        · exact h0
      rcases Nat.lt_or_ge k j with hj | hj
      · refine ih (k + 1) hd ?_ j hj h2
        rw [pe_succ (x := c.1) (d := c.2) hcd]
        exact c4
      · obtain rfl : j = k := by omega
        unfold okB okC
        rw [hcd]
        simp only [Bool.and_eq_true, decide_eq_true_eq]
        omega
  unfold isBf
  rw [hq, Bool.true_and, List.all_eq_true]
  intro j hj
  exact key l 0 rfl (by rw [pe_zero]; simpa using h) j (Nat.zero_le _) (List.mem_range.1 hj)
theorem tkS_no {nx : Int} {l : List Ck} {most : Int} (h : isBf nx l = false) : (tkS nx l most).size = 0 := by
  have h1 : rdB nx l = 0 := by unfold rdB; rw [h]; rfl
  have h2 : tkM nx l most ≤ 0 := by unfold tkM; omega
  unfold tkS
  rw [if_pos h2]; rfl
theorem rdB_ge (nx : Int) (l : List Ck) : 0 ≤ rdB nx l := by
  unfold rdB; split
  · split
    · exact Int.le_refl _
    · split <;> omega
  · exact Int.le_refl _
theorem tkS_size (nx : Int) (l : List Ck) (most : Int) : ((tkS nx l most).size : Int) = min (max most 0) (rdB nx l) ∧ tkN nx l most = nx + ((tkS nx l most).size : Int) := by
  have h0 := rdB_ge nx l
  unfold tkN tkS
  by_cases hM : tkM nx l most ≤ 0
  · rw [if_pos hM, if_pos hM]
    have e : ((⟨#[]⟩ : ByteArray).size : Int) = 0 := rfl
    rw [e]
    unfold tkM at hM
    omega
  · rw [if_neg hM, if_neg hM]
    obtain ⟨_, _, _, m0, m1, _, _⟩ := tk_pos hM
    have e : (((l.getD 0 ck0).2.extract 0 (tkM nx l most).toNat).size : Int) = tkM nx l most := by rw [ByteArray.size_extract]; omega
    rw [e]
    unfold tkM at m0 ⊢
    omega
theorem tkS_at {nx : Int} {l : List Ck} {most : Int} {i : Nat} (hi : i < (tkS nx l most).size) : bAt l (nx + (i : Int)) = (((tkS nx l most)[i]'hi).toNat : Int) := by
  by_cases hM : tkM nx l most ≤ 0
  · have : (tkS nx l most).size = 0 := by unfold tkS; rw [if_pos hM]; rfl
    omega
  · obtain ⟨_, hl, hx, m0, m1, _, hn⟩ := tk_pos hM
    have e : tkS nx l most = (l.getD 0 ck0).2.extract 0 (tkM nx l most).toNat := by unfold tkS; rw [if_neg hM]
    cases l with
    | nil => exact absurd rfl hl
    | cons a t =>
      have e0 : (a :: t).getD 0 ck0 = a := rfl
      rw [e0] at e hx m1
      have hsz : (tkS nx (a :: t) most).size = (tkM nx (a :: t) most).toNat := by rw [e, ByteArray.size_extract]; omega
      have hia : i < a.2.size := by omega
      have hh : hitC a.1 a.2 (nx + (i : Int)) = true := by unfold hitC; simp only [Bool.and_eq_true, decide_eq_true_eq]; omega
      unfold bAt
      rw [List.find?_cons, hh]
      have e2 : (nx + (i : Int) - a.1).toNat = i := by omega
      have e3 : (tkS nx (a :: t) most)[i]'hi = a.2[i]'hia := by
        have h2 : i < (a.2.extract 0 (tkM nx (a :: t) most).toNat).size := by rw [← e]; exact hi
        have : (tkS nx (a :: t) most)[i]'hi = (a.2.extract 0 (tkM nx (a :: t) most).toNat)[i]'h2 := by simp only [e]
        rw [this, ByteArray.getElem_extract]
        simp
      simp only [e2, e3]
      have e4 : a.2.data.getD i 0 = a.2[i]'hia := by
        have hia' : i < a.2.data.size := hia
        rw [Array.getD_eq_getD_getElem?, Array.getElem?_eq_getElem hia', Option.getD_some]; rfl
      rw [e4]
theorem tkL_is {nx : Int} {l : List Ck} {most : Int} (h : isBf nx l = true) : isBf (tkN nx l most) (tkL nx l most) = true := by
  obtain ⟨h0, hc⟩ := isBf_chain h
  unfold tkN tkL
  by_cases hM : tkM nx l most ≤ 0
  · rw [if_pos hM, if_pos hM]; exact h
  · rw [if_neg hM, if_neg hM]
    obtain ⟨_, hl, hx, m0, m1, mx, hn⟩ := tk_pos hM
    cases l with
    | nil => exact absurd rfl hl
    | cons a t =>
      have e0 : (a :: t).getD 0 ck0 = a := rfl
      rw [e0] at hx m1 mx ⊢
      obtain ⟨c1, c2, c3, c4⟩ := hc
      have hcend : BM.cend (toC a) = a.1 + (a.2.size : Int) := rfl
      have hq : qB (nx + tkM nx (a :: t) most) = true := by unfold qB; simp only [Bool.and_eq_true, decide_eq_true_eq]; omega
      refine isBf_of_chain hq ?_
      split
      · rename_i he
        exact c4.mono (by rw [hcend]; omega)
      · rename_i he
        have hs : ((a.2.extract (tkM nx (a :: t) most).toNat a.2.size).size : Int) = (a.2.size : Int) - tkM nx (a :: t) most := by rw [ByteArray.size_extract]; omega
        refine ⟨Int.le_refl _, ?_, ?_, ?_⟩
        · intro hz
          have : (a.2.extract (tkM nx (a :: t) most).toNat a.2.size).size = 0 := by
            show (a.2.extract (tkM nx (a :: t) most).toNat a.2.size).data.size = 0
            rw [← Array.length_toList]
            have hz' : (a.2.extract (tkM nx (a :: t) most).toNat a.2.size).data.toList = [] := hz
            rw [hz']; rfl
          omega
        · show nx + tkM nx (a :: t) most + ((a.2.extract (tkM nx (a :: t) most).toNat a.2.size).size : Int) ≤ RM.maxQ
          rw [hs]; unfold RM.maxQ; omega
        · have : BM.cend (toC (nx + tkM nx (a :: t) most, a.2.extract (tkM nx (a :: t) most).toNat a.2.size)) = BM.cend (toC a) := by
            show nx + tkM nx (a :: t) most + ((a.2.extract (tkM nx (a :: t) most).toNat a.2.size).size : Int) = _
            rw [hs, hcend]; omega
          rw [this]
          exact c4
end Go.Proofs.Ytnndhkdigmkddaa
