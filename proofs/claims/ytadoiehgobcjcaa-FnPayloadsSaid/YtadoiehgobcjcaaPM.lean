/- Plain laws of payloads read back, in the words of the walks. No conditions. -/
import Derived.Test.YtadoiehgobcjcaaS1
import Derived.Test.YtadoiehgobcjcaaFD
namespace Go.Proofs.Ytadoiehgobcjcaa
open Go.ChangeShapes Go.WideShapes Go.ChangeAt Go.RowKit Go.Sort QM
set_option linter.unusedVariables false
set_option linter.unusedSimpArgs false
theorem dfO_byte {s : ByteArray} {p : Nat} (hp : p < s.size) {x : Fr × Int} (h : dfO s p = some x) : (s[p]'hp).toNat ≠ 0 := by
  intro h0
  have : frO s p = none := by rw [frO_in hp, h0]; exact rfK_none _ _ _ rfl
  rw [dfO_none this] at h
  cases h
theorem jF_cut (l : List Fr) : ∀ d k : Nat, k + d ≤ l.length → ∃ t, jF l (k + d) = jF l k ++ t := by
  intro d
  induction d with
  | zero => intro k _; exact ⟨⟨#[]⟩, by rw [app_nil]; rfl⟩
  | succ d ih =>
    intro k hk
    obtain ⟨t, ht⟩ := ih k (by omega)
    refine ⟨t ++ encOf (l.getD (k + d) fr0), ?_⟩
    rw [show k + (d + 1) = (k + d) + 1 by omega, jF_succ l (k + d) (by omega), ht, app_assoc]
/-- Frames behind a are read one by one. -/
theorem jF_at {l : List Fr} (h : ∀ j, j < l.length → okF (l.getD j fr0) = true) (a t : ByteArray) (ha : DpAt (a ++ (jF l l.length ++ t)) a.size []) : ∀ k, k ≤ l.length → DpAt (a ++ (jF l l.length ++ t)) (a.size + (jF l k).size) (l.take k) := by
  intro k
  induction k with
  | zero => intro _; rw [jF_zero]; exact ha
  | succ k ih =>
    intro hk
    have hok := h k (by omega)
    have hpos := encOf_pos hok
    obtain ⟨r, hr⟩ := jF_cut l (l.length - (k + 1)) (k + 1) (by omega)
    rw [show k + 1 + (l.length - (k + 1)) = l.length by omega] at hr
    have hs := jF_succ l k (by omega)
    have hS : a ++ (jF l l.length ++ t) = (a ++ jF l k) ++ (encOf (l.getD k fr0) ++ (r ++ t)) := by rw [hr, hs]; simp only [app_assoc]
    have hd := dfO_frame (a ++ jF l k) (r ++ t) _ hok
    have hz : (a ++ (jF l l.length ++ t)).size = a.size + (jF l k).size + (encOf (l.getD k fr0)).size + (r.size + t.size) := by
      rw [hS]; simp only [ByteArray.size_append]; omega
    rw [← hS, ByteArray.size_append] at hd
    have hp : a.size + (jF l k).size < (a ++ (jF l l.length ++ t)).size := by omega
    have := (ih (by omega)).next hp (dfO_byte hp hd) hd (by omega) (by omega)
    rw [Int.toNat_natCast] at this
    rw [hs, ByteArray.size_append, ← Nat.add_assoc, List.take_add_one, show l[k]? = some (l.getD k fr0) by rw [List.getD_eq_getElem?_getD, List.getElem?_eq_getElem (by omega)]; rfl]
    exact this
theorem epB_cases (l : List Fr) : epB l = ⟨#[]⟩ ∨ ((∀ j, j < l.length → okF (l.getD j fr0) = true) ∧ epB l = jF l l.length ∧ 1 ≤ (epB l).size ∧ (epB l).size ≤ 400) := by
  unfold epB
  split
  · rename_i h
    split
    · rename_i h4
      by_cases h0 : (jF l l.length).size = 0
      · left
        apply ByteArray.ext
        exact Array.eq_empty_of_size_eq_zero h0
      · right
        refine ⟨fun j hj => ?_, rfl, by omega, h4⟩
        rw [List.getD_eq_getElem?_getD, List.getElem?_eq_getElem hj]
        exact List.all_eq_true.1 h _ (List.getElem_mem hj)
    · exact .inl rfl
  · exact .inl rfl
theorem dp_nil : dpL ⟨#[]⟩ = [] ∧ dpT ⟨#[]⟩ = false := by
  have := (DpAt.start ⟨#[]⟩).done (Nat.le_refl _)
  exact ⟨this.1, this.2⟩
/-- A payload is read back. -/
theorem dp_enc {l : List Fr} (h : ∀ j, j < l.length → okF (l.getD j fr0) = true) (h1 : 1 ≤ (jF l l.length).size) (h4 : (jF l l.length).size ≤ 400) : dpL (jF l l.length) = l ∧ dpT (jF l l.length) = true := by
  have hd := jF_at h ⟨#[]⟩ ⟨#[]⟩ (DpAt.start _) l.length (Nat.le_refl _)
  rw [app_nil, nil_app, List.take_length] at hd
  have hz : (⟨#[]⟩ : ByteArray).size + (jF l l.length).size = (jF l l.length).size := Nat.zero_add _
  rw [hz] at hd
  have := hd.done (Nat.le_refl _)
  exact ⟨this.1, by rw [this.2]; simp; omega⟩
theorem get_mid (a b : ByteArray) (k : Nat) (hk : k < b.size) (h : a.size + k < (a ++ b).size) : ((a ++ b)[a.size + k]'h).toNat = ((bl b).getD k 0).toNat := by
  rw [← bl_getD (a ++ b) (a.size + k) h, bl_app, ← bl_len a, List.getD_eq_getElem?_getD, List.getD_eq_getElem?_getD, List.getElem?_append_right (by omega), Nat.add_sub_cancel_left]
def z1 : ByteArray := ⟨#[0]⟩
def z2 : ByteArray := ⟨#[0, 0]⟩
/-- Padding means nothing. -/
theorem dp_pad {l : List Fr} (h : ∀ j, j < l.length → okF (l.getD j fr0) = true) (h4 : (jF l l.length).size ≤ 397) : dpL ((z1 ++ jF l l.length) ++ z2) = l ∧ dpT ((z1 ++ jF l l.length) ++ z2) = true := by
  have e : (z1 ++ jF l l.length) ++ z2 = z1 ++ (jF l l.length ++ z2) := app_assoc _ _ _
  have hz1 : z1.size = 1 := rfl
  have hz2 : z2.size = 2 := rfl
  have hsz : (z1 ++ (jF l l.length ++ z2)).size = (jF l l.length).size + 3 := by simp only [ByteArray.size_append, hz1, hz2]; omega
  rw [e]
  have h0 : DpAt (z1 ++ (jF l l.length ++ z2)) z1.size [] := by
    have hp : 0 < (z1 ++ (jF l l.length ++ z2)).size := by omega
    have hb : ((z1 ++ (jF l l.length ++ z2))[0]'hp).toNat = 0 := by
      rw [← bl_getD _ 0 hp, bl_app]; rfl
    exact (DpAt.start _).zero hp hb
  have hd := jF_at h z1 z2 h0 l.length (Nat.le_refl _)
  rw [List.take_length] at hd
  have e2 : z1 ++ (jF l l.length ++ z2) = (z1 ++ jF l l.length) ++ z2 := e.symm
  have hb : ∀ k (hk : k < 2) (hp : z1.size + (jF l l.length).size + k < (z1 ++ (jF l l.length ++ z2)).size), ((z1 ++ (jF l l.length ++ z2))[z1.size + (jF l l.length).size + k]'hp).toNat = 0 := fun k hk hp => by
    rw [← bl_getD _ _ hp, e2, bl_app, List.getD_eq_getElem?_getD, List.getElem?_append_right (by rw [bl_len, ByteArray.size_append]; omega), bl_len, ByteArray.size_append, Nat.add_sub_cancel_left]
    rcases (show k = 0 ∨ k = 1 by omega) with rfl | rfl <;> rfl
  have hd1 := hd.zero (by omega) (hb 0 (by decide) (by omega))
  have hd2 := hd1.zero (by omega) (hb 1 (by decide) (by omega))
  have := hd2.done (by omega)
  exact ⟨this.1, by rw [this.2, hsz]; simp; omega⟩
/-- What is not read whole is not read at all. -/
theorem dp_whole (s : ByteArray) (h : dpT s = false) (h4 : s.size ≤ 400) : dpL s = [] := by
  unfold dpT at h
  unfold dpL
  cases hd : dpAll s with
  | none => rfl
  | some L =>
    rw [hd] at h
    simp only [Option.isSome_some, Bool.true_and, Bool.and_eq_false_iff, decide_eq_false_iff_not] at h
    have hz : s.size = 0 := by omega
    have := hd
    unfold dpAll at this
    rw [hz] at this
    rw [dpF_end (by omega)] at this
    injection this with this
    rw [← this]
    rfl
end Go.Proofs.Ytadoiehgobcjcaa
