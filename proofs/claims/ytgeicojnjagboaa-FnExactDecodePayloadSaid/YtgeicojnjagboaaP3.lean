/- What EncodePayload says. No conditions. -/
import Derived.Test.YtgeicojnjagboaaP2
namespace Go.Proofs.Ytgeicojnjagboaa
open Go.ChangeShapes Go.WideShapes Go.ChangeAt Go.RowKit Go.Sort QM
set_option linter.unusedVariables false
set_option linter.unusedSimpArgs false
theorem isEmpty_size {d : ByteArray} : d.toList.isEmpty = decide (d.size = 0) := by
  rw [ByteArray.toList_eq]
  obtain ⟨⟨l⟩⟩ := d
  cases l <;> simp [ByteArray.size]
theorem encFB_pos (a : Int) (b c : Int) (d : ByteArray) (e : Bool) (g l m : Int) (u : Bool) (hf : isFB a b c d e g l m u = true) : 1 ≤ (encFB a b c d e g l m u).size := by
  rcases kind_cases a with rfl | rfl | rfl | rfl | rfl | rfl | rfl | rfl | rfl | h
  · rw [encFB_4 b c d e g l m u hf, ← iform_4 b c d e g l m u hf]; simp only [ByteArray.size_append, one1_size]; omega
  · rw [encFB_5 b c d e g l m u hf, ← iform_5 b c d e g l m u hf]; simp only [ByteArray.size_append, one1_size]; omega
  · cases hc : (c == 0)
    · cases e
      · rw [encFB_8e0c0 b c d g l m u hf hc, ← iform_8e0c0 b c d g l m u hf]; simp only [ByteArray.size_append, one1_size]; omega
      · rw [encFB_8e1c0 b c d g l m u hf hc, ← iform_8e1c0 b c d g l m u hf]; simp only [ByteArray.size_append, one1_size]; omega
    · obtain rfl : c = 0 := by simpa using hc
      cases e
      · rw [encFB_8e0c1 b d g l m u hf, ← iform_8e0c1 b d g l m u hf]; simp only [ByteArray.size_append, one1_size]; omega
      · rw [encFB_8e1c1 b d g l m u hf, ← iform_8e1c1 b d g l m u hf]; simp only [ByteArray.size_append, one1_size]; omega
  · rw [encFB_16 b c d e g l m u hf, ← iform_16 b c d e g l m u hf]; simp only [ByteArray.size_append, one1_size]; omega
  · rw [encFB_17 b c d e g l m u hf, ← iform_17 b c d e g l m u hf]; simp only [ByteArray.size_append, one1_size]; omega
  · cases u
    · rw [encFB_18u0 b c d e g l m hf, ← iform_18u0 b c d e g l m hf]; simp only [ByteArray.size_append, one1_size]; omega
    · rw [encFB_18u1 b c d e g l m hf, ← iform_18u1 b c d e g l m hf]; simp only [ByteArray.size_append, one1_size]; omega
  · rw [encFB_20 b c d e g l m u hf, ← iform_20 b c d e g l m u hf]; simp only [ByteArray.size_append, one1_size]; omega
  · rw [encFB_21 b c d e g l m u hf, ← iform_21 b c d e g l m u hf]; simp only [ByteArray.size_append, one1_size]; omega
  · cases u
    · rw [encFB_22u0 b c d e g l m hf, ← iform_22u0 b c d e g l m hf]; simp only [ByteArray.size_append, one1_size]; omega
    · rw [encFB_22u1 b c d e g l m hf, ← iform_22u1 b c d e g l m hf]; simp only [ByteArray.size_append, one1_size]; omega
  · rw [isFB_no h] at hf; cases hf
theorem encFB_size (a : Int) (b c : Int) (d : ByteArray) (e : Bool) (g l m : Int) (u : Bool) : (encFB a b c d e g l m u).size ≤ 32 + d.size := by
  have hL := encL_size
  unfold encFB
  repeat' split
  all_goals (try rw [ByteArray.size_append])
  all_goals first | (refine Nat.le_trans (Nat.add_le_add_right (hL _) _) ?_; simp) | (refine Nat.le_trans (hL _) ?_; simp; omega) | exact Nat.zero_le _ | (refine Nat.le_trans (hL _) ?_; simp)
def encOf (f : Fr) : ByteArray := encFB f.a f.b f.c f.d f.e f.g f.l f.m f.u
def okF (f : Fr) : Bool := isFB f.a f.b f.c f.d f.e f.g f.l f.m f.u
theorem encOf_pos {f : Fr} (h : okF f = true) : 1 ≤ (encOf f).size := encFB_pos _ _ _ _ _ _ _ _ _ h
theorem encOf_size (f : Fr) : (encOf f).size ≤ 32 + f.d.size := encFB_size _ _ _ _ _ _ _ _ _
theorem encOf_out {f : Fr} (h : okF f = false) : encOf f = ⟨#[]⟩ := by
  show encFB f.a f.b f.c f.d f.e f.g f.l f.m f.u = _
  unfold encFB
  rw [show isFB f.a f.b f.c f.d f.e f.g f.l f.m f.u = false from h]; rfl
def jF (l : List Fr) (k : Nat) : ByteArray := (l.take k).foldl (fun s x => s ++ encOf x) ⟨#[]⟩
theorem jF_zero (l : List Fr) : jF l 0 = ⟨#[]⟩ := by simp [jF]
theorem jF_succ (l : List Fr) (k : Nat) (h : k < l.length) : jF l (k + 1) = jF l k ++ encOf (l.getD k fr0) := by
  unfold jF
  rw [List.take_succ_eq_append_getElem h, List.foldl_append]
  simp [List.getD_eq_getElem?_getD, List.getElem?_eq_getElem h]
theorem jF_mono (l : List Fr) {i j : Nat} (h : i ≤ j) (hj : j ≤ l.length) : (jF l i).size ≤ (jF l j).size := by
  obtain ⟨d, rfl⟩ := Nat.le.dest h
  clear h
  induction d with
  | zero => exact Nat.le_refl _
  | succ d ih =>
    have := ih (by omega)
    rw [← Nat.add_assoc, jF_succ l (i + d) (by omega), ByteArray.size_append]
    omega
/-- What EncodePayload says of a row of frames. -/
def epB (l : List Fr) : ByteArray := if l.all okF then (if (jF l l.length).size ≤ 400 then jF l l.length else ⟨#[]⟩) else ⟨#[]⟩
theorem epB_out {l : List Fr} {k : Nat} {f : Fr} (hk : k < l.length) (hx : l.getD k fr0 = f) (hq : okF f = false) : epB l = ⟨#[]⟩ := by
  have : l.all okF = false := by
    rw [Bool.eq_false_iff]
    intro h
    rw [List.all_eq_true] at h
    have := h (l.getD k fr0) (by rw [List.getD_eq_getElem?_getD, List.getElem?_eq_getElem hk]; exact List.getElem_mem hk)
    rw [hx, hq] at this
    cases this
  simp [epB, this]
theorem epB_long {l : List Fr} {k : Nat} (hk : k ≤ l.length) (h : 400 < (jF l k).size) : epB l = ⟨#[]⟩ := by
  unfold epB
  split
  · rw [if_neg]
    have := jF_mono l hk (Nat.le_refl _)
    omega
  · rfl
theorem epB_in {l : List Fr} {n : Nat} (hl : l.length = n) (h : ∀ j, j < n → okF (l.getD j fr0) = true) (hs : (jF l n).size ≤ 400) : epB l = jF l n := by
  have : l.all okF = true := by
    rw [List.all_eq_true]
    intro x hx
    obtain ⟨i, hi, rfl⟩ := List.getElem_of_mem hx
    have := h i (by omega)
    rwa [List.getD_eq_getElem?_getD, List.getElem?_eq_getElem hi] at this
  subst hl
  simp [epB, this, hs]
theorem jF_size (l : List Fr) (k : Nat) (h : k ≤ l.length) (hd : ∀ j, j < l.length → (l.getD j fr0).d.size ≤ 1048576) : (jF l k).size ≤ 1048608 * k := by
  induction k with
  | zero => rw [jF_zero]; exact Nat.le_refl _
  | succ k ih =>
    rw [jF_succ l k (by omega), ByteArray.size_append]
    have := ih (by omega)
    have := encOf_size (l.getD k fr0)
    have := hd k (by omega)
    omega
end Go.Proofs.Ytgeicojnjagboaa
