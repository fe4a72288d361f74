/- EncodeQuics: its contracts. No conditions. -/
import Derived.Test.YtadoiehgobcjcaaQL2
import Derived.Test.YtadoiehgobcjcaaQ5
namespace Go.Proofs.Ytadoiehgobcjcaa
open Go.ChangeShapes Go.WideShapes Go.ChangeAt Go.RowKit Go.Sort QM
set_option linter.unusedVariables false
set_option linter.unusedSimpArgs false
def jnF (l : List Int) (k : Nat) : ByteArray := (l.take k).foldl (fun s x => s ++ encI x) ⟨#[]⟩
theorem jnF_zero (l : List Int) : jnF l 0 = ⟨#[]⟩ := by simp [jnF]
theorem jnF_succ (l : List Int) (k : Nat) (h : k < l.length) : jnF l (k + 1) = jnF l k ++ encI (l.getD k 0) := by
  unfold jnF
  rw [List.take_succ_eq_append_getElem h, List.foldl_append]
  simp [List.getD_eq_getElem?_getD, List.getElem?_eq_getElem h]
theorem encI_size (x : Int) : (encI x).size ≤ 8 := by
  unfold encI
  split
  · have h := sizeQ_pos x.toNat
    show (encQ x.toNat).toArray.size ≤ 8
    rw [List.size_toArray, encQ_len]; omega
  · exact Nat.zero_le _
theorem jnF_size (l : List Int) (k : Nat) (h : k ≤ l.length) : (jnF l k).size ≤ 8 * k := by
  induction k with
  | zero => rw [jnF_zero]; exact Nat.le_refl _
  | succ k ih =>
    rw [jnF_succ l k (by omega), ByteArray.size_append]
    have := ih (by omega)
    have := encI_size (l.getD k 0)
    omega
/-- The forms of a list's numbers, joined; none where one has no form. -/
def encL (l : List Int) : ByteArray := if l.all qB then jnF l l.length else ⟨#[]⟩
theorem encL_out {l : List Int} {k : Nat} {x : Int} (hk : k < l.length) (hx : l.getD k 0 = x) (hq : qB x = false) : encL l = ⟨#[]⟩ := by
  have : l.all qB = false := by
    rw [Bool.eq_false_iff]
    intro h
    rw [List.all_eq_true] at h
    have := h (l.getD k 0) (by rw [List.getD_eq_getElem?_getD, List.getElem?_eq_getElem hk]; exact List.getElem_mem hk)
    rw [hx, hq] at this
    cases this
  simp [encL, this]
theorem encL_in {l : List Int} {n : Nat} (hl : l.length = n) (h : ∀ j, j < n → qB (l.getD j 0) = true) : encL l = jnF l n := by
  have : l.all qB = true := by
    rw [List.all_eq_true]
    intro x hx
    obtain ⟨i, hi, rfl⟩ := List.getElem_of_mem hx
    have := h i (by omega)
    rwa [List.getD_eq_getElem?_getD, List.getElem?_eq_getElem hi] at this
  simp [encL, this, hl]
theorem sEncs {A : Option Addr} {c n : Nat} {w : World} {B : Nat} {l : List Int} (hB : B ≤ w.heap.size) (hr : Rd w B A (ints l)) (hm : n ≤ 1048576) (HL : Hid (l.length = n)) :
    Calls Try.prog 21 #[.slice A n c] w fun e w' => e = .returned (.string (encL l)) ∧ Below w.heap.size w w' := by
  go_enter Try.func21, Try.ntmps21
  go_wp2
  go_loopw [3, 4] (fun s i wr => ∃ k : Nat, k ≤ n ∧ i = .int .i64 k ∧ s = .string (jnF l k) ∧ (∀ j, j < k → qB (l.getD j 0) = true) ∧ Below w.heap.size w wr) (fun s i _ => n - (intOf i).toNat)
  case atStart => exact ⟨0, Nat.zero_le _, rfl, by rw [jnF_zero], fun j hj => by omega, Below.refl _ _⟩
  case round =>
    obtain ⟨k, hk, rfl, rfl, he, hbw⟩ := hrel
    have HE := Lib.hid he; clear he
    by_cases hlt : k < n
    · obtain ⟨b, off, x, rfl, hb, HX, c0⟩ := (hr.below hbw hB).int (k := k) (by rw [HL.out]; exact hlt)
      have hz := jnF_size l k (by rw [HL.out]; omega)
      have hz1 := encI_size x
      have hsu := jnF_succ l k (by rw [HL.out]; exact hlt)
      rw [HX.out] at hsu
      have HSU := Lib.hid hsu; clear hsu
      cases hq : qB x
      · have hs0 : sizeI x = 0 := by unfold sizeI; rw [hq]; rfl
        go_wp2_with (first | (go_at_call 48; refine (sSize _ _).mono ?_; rintro e w' ⟨rfl, rfl⟩))
        go_ret
        exact ⟨ret_str (encL_out (by rw [HL.out]; exact hlt) HX.out hq).symm, hbw⟩
      · have hs0 : (sizeI x == 0) = false := by unfold sizeI; rw [hq]; simp; (repeat' split) <;> omega
        have HE2 := Lib.hid (show ∀ j, j < k + 1 → qB (l.getD j 0) = true from fun j hj => by
          by_cases hj' : j < k
          · exact HE.out j hj'
          · obtain rfl : j = k := by omega
            rw [HX.out]; exact hq)
        go_wp2_with (first | (go_at_call 48; refine (sSize _ _).mono ?_; rintro e w' ⟨rfl, rfl⟩) | (go_at_call 10; refine (sEncI _ _).mono ?_; rintro e w2 ⟨rfl, hb2⟩))
        exact ⟨⟨k + 1, by omega, by go_num, by rw [HSU.out], HE2.out, below_next hbw hbw.size hb2⟩, by simp [intOf]; omega⟩
    · go_wp2
      go_ret
      obtain rfl : k = n := by omega
      exact ⟨ret_str (encL_in HL.out HE.out).symm, hbw⟩
theorem iEncs {A : Option Addr} {c n : Nat} {w : World} {B : Nat} {l : List Int} (hB : B ≤ w.heap.size) (hr : Rd w B A (ints l)) (hm : n ≤ 1048576) (HL : Hid (l.length = n)) :
    Calls Try.prog 16 #[.slice A n c] w fun e w' => e = .returned (.string (encL l)) ∧ Below w.heap.size w w' := by
  go_enter Try.func16, Try.ntmps16
  go_wp2
  go_loopw [3, 8] (fun s i wr => ∃ k : Nat, k ≤ n ∧ i = .int .i64 k ∧ s = .string (jnF l k) ∧ (∀ j, j < k → qB (l.getD j 0) = true) ∧ Below w.heap.size w wr) (fun s i _ => n - (intOf i).toNat)
  case atStart => exact ⟨0, Nat.zero_le _, rfl, by rw [jnF_zero], fun j hj => by omega, Below.refl _ _⟩
  case round =>
    obtain ⟨k, hk, rfl, rfl, he, hbw⟩ := hrel
    have HE := Lib.hid he; clear he
    by_cases hlt : k < n
    · obtain ⟨b, off, x, rfl, hb, HX, c0⟩ := (hr.below hbw hB).int (k := k) (by rw [HL.out]; exact hlt)
      have hz := jnF_size l k (by rw [HL.out]; omega)
      have hz1 := encI_size x
      have hsu := jnF_succ l k (by rw [HL.out]; exact hlt)
      rw [HX.out] at hsu
      have HSU := Lib.hid hsu; clear hsu
      cases hq : qB x
      · have hs0 : sizeI x = 0 := by unfold sizeI; rw [hq]; rfl
        go_wp2_with (first | (go_at_call 50; refine (isQuic_any _ _).mono ?_; rintro e w' ⟨rfl, rfl⟩))
        go_ret
        exact ⟨ret_str (encL_out (by rw [HL.out]; exact hlt) HX.out hq).symm, hbw⟩
      · have hs0 : (sizeI x == 0) = false := by unfold sizeI; rw [hq]; simp; (repeat' split) <;> omega
        have HE2 := Lib.hid (show ∀ j, j < k + 1 → qB (l.getD j 0) = true from fun j hj => by
          by_cases hj' : j < k
          · exact HE.out j hj'
          · obtain rfl : j = k := by omega
            rw [HX.out]; exact hq)
        go_wp2_with (first | (go_at_call 50; refine (isQuic_any _ _).mono ?_; rintro e w' ⟨rfl, rfl⟩) | (go_at_call 8; refine (iEncI _ _).mono ?_; rintro e w2 ⟨rfl, hb2⟩))
        exact ⟨⟨k + 1, by omega, by go_num, by rw [HSU.out], HE2.out, below_next hbw hbw.size hb2⟩, by simp [intOf]; omega⟩
    · go_wp2
      go_ret
      obtain rfl : k = n := by omega
      exact ⟨ret_str (encL_in HL.out HE.out).symm, hbw⟩
end Go.Proofs.Ytadoiehgobcjcaa
