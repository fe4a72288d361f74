/- Plain laws of numbers read back from their bytes, in the words of the walks. No conditions. -/
import Derived.Test.YtadoiehgobcjcaaQ6
import Derived.Test.YtadoiehgobcjcaaQ7
namespace Go.Proofs.Ytadoiehgobcjcaa
open Go.ChangeShapes Go.WideShapes Go.ChangeAt Go.RowKit Go.Sort QM
set_option linter.unusedVariables false
set_option linter.unusedSimpArgs false
theorem bl_app (a b : ByteArray) : bl (a ++ b) = bl a ++ bl b := by simp [bl]
theorem bl_encB (n : Nat) : bl (encB n) = encQ n := by simp [bl, encB]
theorem encB_size (n : Nat) : (encB n).size = sizeQ n := by rw [← bl_len, bl_encB, encQ_len]
theorem dq_app (a t : ByteArray) (n : Nat) (hn : n ≤ 4611686018427387903) : dq (a ++ (encB n ++ t)) (a.size : Int) = some (n, sizeQ n) := by
  unfold dq
  rw [if_neg (by omega), Int.toNat_natCast, bl_app, bl_app, bl_encB, ← bl_len a, List.drop_left]
  exact deq_encQ n (by unfold maxQ; exact hn) _
theorem encI_in {x : Int} (h : qB x = true) : encI x = encB x.toNat := by unfold encI; rw [if_pos h]
theorem encI_out {x : Int} (h : qB x = false) : encI x = ⟨#[]⟩ := by unfold encI; rw [h]; rfl
theorem encI_sizeI (x : Int) : ((encI x).size : Int) = sizeI x := by
  cases h : qB x
  · rw [encI_out h]; unfold sizeI; rw [h]; rfl
  · obtain ⟨h0, h1⟩ := qB_true h
    rw [encI_in h, encB_size, ← sizeI_nat _ (by omega)]
    congr 1
    omega
theorem encI_pos {x : Int} (h : qB x = true) : 1 ≤ (encI x).size := by
  rw [encI_in h, encB_size]; exact (sizeQ_pos _).1
/-- A number behind a and ahead of t is read back. -/
theorem dq_encI (a t : ByteArray) {x : Int} (h : qB x = true) : dq (a ++ (encI x ++ t)) (a.size : Int) = some (x.toNat, (encI x).size) := by
  obtain ⟨h0, h1⟩ := qB_true h
  rw [encI_in h, encB_size]
  exact dq_app a t _ (by omega)
theorem app_nil (a : ByteArray) : a ++ (⟨#[]⟩ : ByteArray) = a := by apply ByteArray.ext; simp
theorem nil_app (a : ByteArray) : (⟨#[]⟩ : ByteArray) ++ a = a := by apply ByteArray.ext; simp
theorem dq_one {x : Int} (h : qB x = true) : dq (encI x) 0 = some (x.toNat, (encI x).size) := by
  have := dq_encI ⟨#[]⟩ ⟨#[]⟩ h
  rw [app_nil, nil_app] at this
  exact this
theorem dq_nil (p : Int) : dq ⟨#[]⟩ p = none := by
  by_cases h : p < 0
  · exact dq_lo h
  · exact dq_hi (by show ((0 : Nat) : Int) ≤ p; omega)
theorem app_assoc (x y z : ByteArray) : (x ++ y) ++ z = x ++ (y ++ z) := by apply ByteArray.ext; simp
/-- The form of a list, cut behind k numbers. -/
theorem jnF_cut (l : List Int) : ∀ d k : Nat, k + d ≤ l.length → ∃ t, jnF l (k + d) = jnF l k ++ t := by
  intro d
  induction d with
  | zero => intro k _; exact ⟨⟨#[]⟩, by rw [app_nil]; rfl⟩
  | succ d ih =>
    intro k hk
    obtain ⟨t, ht⟩ := ih k (by omega)
    refine ⟨t ++ encI (l.getD (k + d) 0), ?_⟩
    rw [show k + (d + 1) = (k + d) + 1 by omega, jnF_succ l (k + d) (by omega), ht, app_assoc]
theorem jnF_dq {l : List Int} (h : ∀ j, j < l.length → qB (l.getD j 0) = true) {k : Nat} (hk : k < l.length) : dq (jnF l l.length) ((jnF l k).size : Int) = some ((l.getD k 0).toNat, (encI (l.getD k 0)).size) ∧ (jnF l (k + 1)).size = (jnF l k).size + (encI (l.getD k 0)).size ∧ (jnF l (k + 1)).size ≤ (jnF l l.length).size := by
  obtain ⟨t, ht⟩ := jnF_cut l (l.length - (k + 1)) (k + 1) (by omega)
  rw [show k + 1 + (l.length - (k + 1)) = l.length by omega] at ht
  have hs := jnF_succ l k hk
  refine ⟨?_, by rw [hs, ByteArray.size_append], by rw [ht, ByteArray.size_append]; omega⟩
  rw [ht, hs, app_assoc]
  exact dq_encI _ _ (h k hk)
theorem jnF_at {l : List Int} (h : ∀ j, j < l.length → qB (l.getD j 0) = true) : ∀ k, k ≤ l.length → DecAt (jnF l l.length) (jnF l k).size (l.take k) := by
  intro k
  induction k with
  | zero => intro _; rw [jnF_zero]; exact DecAt.start _
  | succ k ih =>
    intro hk
    obtain ⟨h1, h2, h3⟩ := jnF_dq h (k := k) (by omega)
    have hp := encI_pos (h k (by omega))
    have := (ih (by omega)).next (by omega) h1 hp (by omega)
    rw [h2]
    have hx : ((l.getD k 0).toNat : Int) = l.getD k 0 := by have := (qB_true (h k (by omega))).1; omega
    rw [hx] at this
    rw [List.take_add_one, show l[k]? = some (l.getD k 0) by rw [List.getD_eq_getElem?_getD, List.getElem?_eq_getElem (by omega)]; rfl]
    exact this
theorem decL_encL (l : List Int) : decB (encL l) = true ∧ (encL l = ⟨#[]⟩ ∨ (decL (encL l) = l ∧ 1 ≤ (encL l).size)) := by
  unfold encL
  split
  · rename_i h
    have hq : ∀ j, j < l.length → qB (l.getD j 0) = true := fun j hj => by
      rw [List.getD_eq_getElem?_getD, List.getElem?_eq_getElem hj]
      exact List.all_eq_true.1 h _ (List.getElem_mem hj)
    have hd := (jnF_at hq l.length (Nat.le_refl _)).done (Nat.le_refl _)
    rw [List.take_length] at hd
    refine ⟨hd.2, ?_⟩
    by_cases h0 : l.length = 0
    · left; rw [h0, jnF_zero]
    · right
      obtain ⟨_, h2, h3⟩ := jnF_dq hq (k := 0) (by omega)
      have hp := encI_pos (hq 0 (by omega))
      exact ⟨hd.1, by omega⟩
  · exact ⟨by decide, .inl rfl⟩
/-- What a form that is read has: its number needs no more bytes. -/
theorem dq_size {s : ByteArray} {p : Int} {n k : Nat} (h : dq s p = some (n, k)) : n ≤ 4611686018427387903 ∧ sizeI (n : Int) ≤ k ∧ 0 ≤ p ∧ p + k ≤ s.size ∧ 1 ≤ k ∧ k ≤ 8 := by
  unfold dq at h
  split at h
  · cases h
  · have hd := deq_some h
    rw [List.length_drop, bl_len] at hd
    have hk := hd.1
    have h1 := hd.2.2.1
    unfold maxQ at h1
    rw [sizeI_nat n h1]
    omega
end Go.Proofs.Ytadoiehgobcjcaa
