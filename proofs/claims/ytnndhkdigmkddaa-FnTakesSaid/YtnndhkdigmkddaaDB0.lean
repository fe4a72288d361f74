/- Plain laws: the buffers that are drawn are small. No conditions. -/
import Derived.Test.YtnndhkdigmkddaaE15
import Derived.Test.YtnndhkdigmkddaaI2
namespace Go.Proofs.Ytnndhkdigmkddaa
open Go.ChangeShapes Go.WideShapes Go.ChangeAt Go.RowKit Go.Sort
set_option linter.unusedVariables false
set_option linter.unusedSimpArgs false
/-- Small chunks. -/
def SmB (l : List Ck) : Prop := ∀ c ∈ l, 0 ≤ c.1 ∧ c.1 + (c.2.size : Int) ≤ 64
def SmG (l : List RM.R) : Prop := ∀ r ∈ l, 0 ≤ r.1 ∧ r.1 ≤ 64 ∧ r.2 ≤ 64
theorem SmB.nil : SmB [] := fun c hc => by cases hc
theorem SmB.snoc {l : List Ck} (h : SmB l) {x : Int} {s : ByteArray} (h1 : 0 ≤ x) (h2 : x + (s.size : Int) ≤ 64) : SmB (l ++ [(x, s)]) := by
  intro c hc
  rcases List.mem_append.1 hc with hc | hc
  · exact h c hc
  · simp only [List.mem_cons, List.not_mem_nil, or_false] at hc; subst hc; exact ⟨h1, h2⟩
theorem SmB.at_ {l : List Ck} (h : SmB l) {n : Nat} (hn : l.length = n) : (∀ k, k < n → (l.getD k ck0).2.size ≤ 1048576) ∧ (∀ k, k < n → (Lit.int .i64 (l.getD k ck0).1).wf = true) := by
  have key : ∀ k, k < n → 0 ≤ (l.getD k ck0).1 ∧ (l.getD k ck0).1 + ((l.getD k ck0).2.size : Int) ≤ 64 := by
    intro k hk
    have hk' : k < l.length := by omega
    rw [List.getD_eq_getElem?_getD, List.getElem?_eq_getElem hk', Option.getD_some]
    exact h _ (List.getElem_mem hk')
  refine ⟨fun k hk => by have := key k hk; omega, fun k hk => ?_⟩
  have h1 := (key k hk).1
  have h2 : (l.getD k ck0).1 ≤ 64 := by have := key k hk; omega
  generalize (l.getD k ck0).1 = z at h1 h2 ⊢
  simp [Lit.wf, IntKind.min, IntKind.max, IntKind.signed, IntKind.bits]; omega
theorem SmG.ins : ∀ {l : List RM.R} {r : RM.R}, SmG l → (0 ≤ r.1 ∧ r.1 ≤ 64 ∧ r.2 ≤ 64) → SmG (RM.ins r l) := by
  intro l
  induction l with
  | nil => intro r _ h x hx; simp only [RM.ins, List.mem_cons, List.not_mem_nil, or_false] at hx; subst hx; exact h
  | cons y l ih =>
    intro r h hr
    have hy := h y List.mem_cons_self
    have hl : SmG l := fun x hx => h x (List.mem_cons_of_mem _ hx)
    unfold RM.ins
    split
    · intro x hx
      rcases List.mem_cons.1 hx with rfl | hx
      · exact hy
      · exact ih hl hr x hx
    · split
      · intro x hx
        rcases List.mem_cons.1 hx with rfl | hx
        · exact hr
        · exact h x hx
      · exact ih hl (by simp only; omega)
theorem SmB.rngs {nx : Int} {l : List Ck} (h : SmB l) : SmG (rgB nx l) := by
  unfold rgB
  split
  · unfold rgT
    intro r hr
    obtain ⟨c, hc, rfl⟩ := List.mem_map.1 hr
    have := h c (List.mem_of_mem_take hc)
    simp only; omega
  · intro r hr; cases hr
theorem SmB.insV {nx : Int} {l : List Ck} {off : Int} {d : ByteArray} (h : SmB l) (h0 : 0 ≤ nx) (h1 : nx ≤ 64) (h2 : 0 ≤ off) (h3 : off + (d.size : Int) ≤ 64) : SmB (insV nx l off d) := by
  cases hk : insOk nx l off d
  · rw [insV_no hk]; exact h
  · rw [insV_yes hk]
    have hg : SmG (insR nx l off d) := by
      unfold insR
      have hr := h.rngs (nx := nx)
      by_cases hv : (RM.isRs (rgB nx l) && RM.isR (max off nx, off + (d.size : Int))) = true
      · have h' : RM.isRs (rgB nx l) = true ∧ RM.isR (max off nx, off + (d.size : Int)) = true := by simpa using hv
        rw [RM.addR_eq h'.1 h'.2]
        exact hr.ins (by simp only; omega)
      · unfold RM.addR
        rw [if_neg hv]; exact hr
    intro c hc
    unfold insK at hc
    obtain ⟨r, hr, rfl⟩ := List.mem_map.1 hc
    have := hg r hr
    simp only [fl_size]
    omega
theorem insV_len (nx : Int) (l : List Ck) (off : Int) (d : ByteArray) : (insV nx l off d).length ≤ l.length + 1 := by
  cases hk : insOk nx l off d
  · rw [insV_no hk]; omega
  · rw [insV_yes hk, insK_len]; exact insR_len nx l off d
theorem tkL_len' (nx : Int) (l : List Ck) (most : Int) : (tkL nx l most).length ≤ l.length := by
  unfold tkL
  split
  · exact Nat.le_refl _
  · rename_i h
    obtain ⟨_, hl, _⟩ := tk_pos h
    split
    · rw [List.length_tail]; omega
    · rw [List.length_cons, List.length_tail]; omega
theorem SmB.tk {nx : Int} {l : List Ck} {most : Int} (h : SmB l) (h0 : 0 ≤ nx) (h1 : nx ≤ 64) : SmB (tkL nx l most) ∧ 0 ≤ tkN nx l most ∧ tkN nx l most ≤ 64 := by
  unfold tkL tkN
  split
  · exact ⟨h, h0, h1⟩
  · rename_i hM
    obtain ⟨_, hl, hx, hm0, hm1, _, _⟩ := tk_pos hM
    cases l with
    | nil => exact absurd rfl hl
    | cons a l =>
      have ha := h a List.mem_cons_self
      have ht : SmB l := fun c hc => h c (List.mem_cons_of_mem _ hc)
      have e : (a :: l).getD 0 ck0 = a := rfl
      rw [e] at hx hm1 ⊢
      refine ⟨?_, by omega, by omega⟩
      split
      · exact ht
      · intro c hc
        rcases List.mem_cons.1 hc with rfl | hc
        · have : (a.2.extract (tkM nx (a :: l) most).toNat a.2.size).size = a.2.size - (tkM nx (a :: l) most).toNat := by rw [ByteArray.size_extract]; omega
          simp only [this]
          omega
        · exact ht c hc
end Go.Proofs.Ytnndhkdigmkddaa
