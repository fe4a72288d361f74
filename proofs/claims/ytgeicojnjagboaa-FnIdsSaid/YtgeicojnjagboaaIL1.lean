/- The walk of the law FnIds. No conditions. -/
import Derived.Test.YtgeicojnjagboaaD1
namespace Go.Proofs.Ytgeicojnjagboaa
open Go.ChangeShapes Go.WideShapes Go.ChangeAt Go.RowKit Go.Sort
set_option linter.unusedVariables false
set_option linter.unusedSimpArgs false
theorem wraps_i64_62 (n : Int) (h₀ : 0 ≤ n) (h₁ : n < 2 ^ 63) : IntKind.i64.wrap n = n := by rw [IntKind.wrap_i64]; omega
theorem and_one (m : Nat) (h : m < 4611686018427387904) : bits .and .i64 (m : Int) 1 = ((m % 2 : Nat) : Int) := by
  have := (bits_nat .i64 63 (by decide) wraps_i64_62 m 1 (by omega) (by omega)).1
  rw [Nat.and_one_is_mod] at this
  exact this
theorem and_two (m : Nat) (h : m < 4611686018427387904) : bits .and .i64 (m : Int) 2 = ((2 * (m / 2 % 2) : Nat) : Int) := by
  have := (bits_nat .i64 63 (by decide) wraps_i64_62 m 2 (by omega) (by omega)).1
  have e : m &&& 2 = 2 * (m / 2 % 2) := by
    have h3 : m &&& 2 = (m &&& 3) &&& 2 := by rw [Nat.and_assoc]; rfl
    rw [h3, show (3 : Nat) = 2 ^ 2 - 1 from rfl, Nat.and_two_pow_sub_one_eq_mod, show m / 2 % 2 = m % 2 ^ 2 / 2 by omega]
    have h4 : m % 2 ^ 2 < 4 := Nat.mod_lt _ (by decide)
    generalize m % 2 ^ 2 = x at h4
    rcases (show x = 0 ∨ x = 1 ∨ x = 2 ∨ x = 3 by omega) with rfl | rfl | rfl | rfl <;> rfl
  rw [e] at this
  exact this
theorem mkId_facts {i : Int} {s u : Bool} (h : 0 ≤ i ∧ i ≤ 1152921504606846975) : idxOf (mkId i s u) = i ∧ srvB (mkId i s u) = s ∧ uniB (mkId i s u) = u ∧ ownB s (mkId i s u) = true ∧ ownB (!s) (mkId i s u) = false ∧ 0 ≤ mkId i s u := by
  obtain ⟨k, rfl⟩ := Int.eq_ofNat_of_zero_le h.1
  have hk : k ≤ 1152921504606846975 := by omega
  obtain ⟨a, ha, hs⟩ : ∃ a : Nat, b2i s = a ∧ a = s.toNat := ⟨s.toNat, by cases s <;> rfl, rfl⟩
  obtain ⟨b, hb, hu⟩ : ∃ b : Nat, b2i u = b ∧ b = u.toNat := ⟨u.toNat, by cases u <;> rfl, rfl⟩
  have a1 : a ≤ 1 := by rw [hs]; exact Bool.toNat_le s
  have b1 : b ≤ 1 := by rw [hu]; exact Bool.toNat_le u
  have e : mkId (k : Int) s u = ((4 * k + a + 2 * b : Nat) : Int) := by
    unfold mkId; rw [if_pos (by omega), ha, hb]; push_cast; rfl
  rw [e]
  have hm : 4 * k + a + 2 * b < 4611686018427387904 := by omega
  have hq : qB ((4 * k + a + 2 * b : Nat) : Int) = true := qB_in (by omega) (by omega)
  have h1 : srvB ((4 * k + a + 2 * b : Nat) : Int) = s := by
    unfold srvB
    rw [hq, and_one _ hm, show (4 * k + a + 2 * b) % 2 = a by omega, hs]
    cases s <;> rfl
  have h2 : uniB ((4 * k + a + 2 * b : Nat) : Int) = u := by
    unfold uniB
    rw [hq, and_two _ hm, show 2 * ((4 * k + a + 2 * b) / 2 % 2) = 2 * b by omega, hu]
    cases u <;> rfl
  refine ⟨?_, h1, h2, ?_, ?_, by omega⟩
  · rw [idx_in hq]; omega
  · unfold ownB; rw [hq, h1]; simp
  · unfold ownB; rw [hq, h1]; cases s <;> rfl
set_option maxRecDepth 20000 in
set_option maxHeartbeats 4000000 in
theorem walk_FnIds {A : Option Addr} {c n : Nat} {l : List Int} (w : World) (hr : Rd w w.heap.size A (bys l)) (hn : n ≤ maxLen) (HL : Hid (l.length = n)) :
    Calls Try.prog 5 #[.slice A n c] w fun e w' => e = .returned (.bool true) ∧ Below w.heap.size w w' := by
  unfold maxLen at hn
  by_cases hs : n ≤ 1048576
  · have hd : decide ((1048576 : Int) < (n : Int)) = false := by simp; omega
    go_enter Try.func5, Try.ntmps5
    go_wp2_with (first | (go_at_call 17; go_in))
    refine (drawMakeId hr hs HL).mono ?_
    rintro e w1 ⟨v, rfl, ⟨i, s, u, rfl, hi0, hi1⟩, hb1⟩
    have hr1 := (hr.below hb1 (Nat.le_refl _)).more hb1.size
    have HR1 := Lib.hid hr1
    have HB1 := Lib.hid hb1
    clear hr hr1 hb1
    obtain ⟨z, hz⟩ : ∃ z, mkId i s u = z := ⟨_, rfl⟩
    have second : ∀ (W : World), True := fun _ => trivial
    by_cases hi : 0 ≤ i ∧ i ≤ 1152921504606846975
    · obtain ⟨f1, f2, f3, f4, f5, f6⟩ := mkId_facts (s := s) (u := u) hi
      rw [hz] at f1 f2 f3 f4 f5 f6
      have hz0 : decide (0 ≤ z) = true := by simp; omega
      go_wp2_with (first
        | (go_at_call 19; refine (iMake _ _ _ _).mono ?_; rintro e w' ⟨rfl, rfl⟩; rw [hz])
        | (go_at_call 20; refine (sMake _ _ _ _).mono ?_; rintro e w' ⟨rfl, rfl⟩; rw [hz])
        | (go_at_call 21; refine (iIndex _ _).mono ?_; rintro e w' ⟨rfl, rfl⟩; rw [f1])
        | (go_at_call 22; refine (iServer _ _).mono ?_; rintro e w' ⟨rfl, rfl⟩; rw [f2])
        | (go_at_call 23; refine (iUni _ _).mono ?_; rintro e w' ⟨rfl, rfl⟩; rw [f3])
        | (go_at_call 24; refine (iOwn _ _ _).mono ?_; rintro e w' ⟨rfl, rfl⟩; first | rw [f4] | rw [f5]))
      refine (drawCanSendOn HR1.out hs HL).mono ?_
      rintro e w2 ⟨v, rfl, ⟨s2, x, rfl, hx0, hx1⟩, hb2⟩
      have HB2 := Lib.hid (below_next HB1.out HB1.out.size hb2)
      clear hb2
      cases hq : qB x
      · obtain ⟨g1, g2, g3, g4⟩ : sendB s2 x = false ∧ recvB s2 x = false ∧ ownB s2 x = false ∧ uniB x = false := by simp [sendB, recvB, ownB, uniB, hq]
        go_wp2_with (first
        | (go_at_call 26; refine (iSend _ _ _).mono ?_; rintro e w' ⟨rfl, rfl⟩)
        | (go_at_call 27; refine (sSend _ _ _).mono ?_; rintro e w' ⟨rfl, rfl⟩)
        | (go_at_call 28; refine (iRecv _ _ _).mono ?_; rintro e w' ⟨rfl, rfl⟩)
        | (go_at_call 29; refine (sRecv _ _ _).mono ?_; rintro e w' ⟨rfl, rfl⟩)
        | (go_at_call 24; refine (iOwn _ _ _).mono ?_; rintro e w' ⟨rfl, rfl⟩)
        | (go_at_call 30; refine (sOwn _ _ _).mono ?_; rintro e w' ⟨rfl, rfl⟩)
        | (go_at_call 31; refine (iName _ _).mono ?_; rintro e w' ⟨rfl, rfl⟩)
        | (go_at_call 32; refine (sName _ _).mono ?_; rintro e w' ⟨rfl, rfl⟩)
        | (go_at_call 33; refine (iStream _ _).mono ?_; rintro e w' ⟨rfl, rfl⟩)
        | (go_at_call 34; refine (sStream _ _).mono ?_; rintro e w' ⟨rfl, rfl⟩)
        | (go_at_call 23; refine (iUni _ _).mono ?_; rintro e w' ⟨rfl, rfl⟩))
        go_ret
        exact ⟨rfl, HB2.out⟩
      · have hsr : sendB s2 x = recvB (!s2) x ∧ (sendB s2 x || recvB s2 x) = true ∧ (sendB s2 x && recvB s2 x) = !uniB x := by
          unfold sendB recvB ownB
          rw [hq]
          cases uniB x <;> cases srvB x <;> cases s2 <;> decide
        obtain ⟨k1, k2, k3⟩ := hsr
        cases g1 : sendB s2 x <;> cases g2 : recvB s2 x <;> cases g4 : uniB x <;> rw [g1] at k1 <;> simp only [g1, g2, g4] at k2 k3 <;> first | (exact absurd k2 (by decide)) | (exact absurd k3 (by decide)) | skip
        all_goals have k1' := k1.symm; clear k1 k2 k3
        all_goals go_wp2_with (first
        | (go_at_call 26; refine (iSend _ _ _).mono ?_; rintro e w' ⟨rfl, rfl⟩)
        | (go_at_call 27; refine (sSend _ _ _).mono ?_; rintro e w' ⟨rfl, rfl⟩)
        | (go_at_call 28; refine (iRecv _ _ _).mono ?_; rintro e w' ⟨rfl, rfl⟩)
        | (go_at_call 29; refine (sRecv _ _ _).mono ?_; rintro e w' ⟨rfl, rfl⟩)
        | (go_at_call 24; refine (iOwn _ _ _).mono ?_; rintro e w' ⟨rfl, rfl⟩)
        | (go_at_call 30; refine (sOwn _ _ _).mono ?_; rintro e w' ⟨rfl, rfl⟩)
        | (go_at_call 31; refine (iName _ _).mono ?_; rintro e w' ⟨rfl, rfl⟩)
        | (go_at_call 32; refine (sName _ _).mono ?_; rintro e w' ⟨rfl, rfl⟩)
        | (go_at_call 33; refine (iStream _ _).mono ?_; rintro e w' ⟨rfl, rfl⟩)
        | (go_at_call 34; refine (sStream _ _).mono ?_; rintro e w' ⟨rfl, rfl⟩)
        | (go_at_call 23; refine (iUni _ _).mono ?_; rintro e w' ⟨rfl, rfl⟩))
        all_goals go_ret
        all_goals exact ⟨rfl, HB2.out⟩
    · have hz1 : z = -1 := by rw [← hz]; unfold mkId; rw [if_neg hi]
      subst hz1
      go_wp2_with (first
        | (go_at_call 19; refine (iMake _ _ _ _).mono ?_; rintro e w' ⟨rfl, rfl⟩; rw [hz])
        | (go_at_call 20; refine (sMake _ _ _ _).mono ?_; rintro e w' ⟨rfl, rfl⟩; rw [hz]))
      refine (drawCanSendOn HR1.out hs HL).mono ?_
      rintro e w2 ⟨v, rfl, ⟨s2, x, rfl, hx0, hx1⟩, hb2⟩
      have HB2 := Lib.hid (below_next HB1.out HB1.out.size hb2)
      clear hb2
      cases hq : qB x
      · obtain ⟨g1, g2, g3, g4⟩ : sendB s2 x = false ∧ recvB s2 x = false ∧ ownB s2 x = false ∧ uniB x = false := by simp [sendB, recvB, ownB, uniB, hq]
        go_wp2_with (first
        | (go_at_call 26; refine (iSend _ _ _).mono ?_; rintro e w' ⟨rfl, rfl⟩)
        | (go_at_call 27; refine (sSend _ _ _).mono ?_; rintro e w' ⟨rfl, rfl⟩)
        | (go_at_call 28; refine (iRecv _ _ _).mono ?_; rintro e w' ⟨rfl, rfl⟩)
        | (go_at_call 29; refine (sRecv _ _ _).mono ?_; rintro e w' ⟨rfl, rfl⟩)
        | (go_at_call 24; refine (iOwn _ _ _).mono ?_; rintro e w' ⟨rfl, rfl⟩)
        | (go_at_call 30; refine (sOwn _ _ _).mono ?_; rintro e w' ⟨rfl, rfl⟩)
        | (go_at_call 31; refine (iName _ _).mono ?_; rintro e w' ⟨rfl, rfl⟩)
        | (go_at_call 32; refine (sName _ _).mono ?_; rintro e w' ⟨rfl, rfl⟩)
        | (go_at_call 33; refine (iStream _ _).mono ?_; rintro e w' ⟨rfl, rfl⟩)
        | (go_at_call 34; refine (sStream _ _).mono ?_; rintro e w' ⟨rfl, rfl⟩)
        | (go_at_call 23; refine (iUni _ _).mono ?_; rintro e w' ⟨rfl, rfl⟩))
        go_ret
        exact ⟨rfl, HB2.out⟩
      · have hsr : sendB s2 x = recvB (!s2) x ∧ (sendB s2 x || recvB s2 x) = true ∧ (sendB s2 x && recvB s2 x) = !uniB x := by
          unfold sendB recvB ownB
          rw [hq]
          cases uniB x <;> cases srvB x <;> cases s2 <;> decide
        obtain ⟨k1, k2, k3⟩ := hsr
        cases g1 : sendB s2 x <;> cases g2 : recvB s2 x <;> cases g4 : uniB x <;> rw [g1] at k1 <;> simp only [g1, g2, g4] at k2 k3 <;> first | (exact absurd k2 (by decide)) | (exact absurd k3 (by decide)) | skip
        all_goals have k1' := k1.symm; clear k1 k2 k3
        all_goals go_wp2_with (first
        | (go_at_call 26; refine (iSend _ _ _).mono ?_; rintro e w' ⟨rfl, rfl⟩)
        | (go_at_call 27; refine (sSend _ _ _).mono ?_; rintro e w' ⟨rfl, rfl⟩)
        | (go_at_call 28; refine (iRecv _ _ _).mono ?_; rintro e w' ⟨rfl, rfl⟩)
        | (go_at_call 29; refine (sRecv _ _ _).mono ?_; rintro e w' ⟨rfl, rfl⟩)
        | (go_at_call 24; refine (iOwn _ _ _).mono ?_; rintro e w' ⟨rfl, rfl⟩)
        | (go_at_call 30; refine (sOwn _ _ _).mono ?_; rintro e w' ⟨rfl, rfl⟩)
        | (go_at_call 31; refine (iName _ _).mono ?_; rintro e w' ⟨rfl, rfl⟩)
        | (go_at_call 32; refine (sName _ _).mono ?_; rintro e w' ⟨rfl, rfl⟩)
        | (go_at_call 33; refine (iStream _ _).mono ?_; rintro e w' ⟨rfl, rfl⟩)
        | (go_at_call 34; refine (sStream _ _).mono ?_; rintro e w' ⟨rfl, rfl⟩)
        | (go_at_call 23; refine (iUni _ _).mono ?_; rintro e w' ⟨rfl, rfl⟩))
        all_goals go_ret
        all_goals exact ⟨rfl, HB2.out⟩
  · have hd : decide ((1048576 : Int) < (n : Int)) = true := by simp; omega
    go_enter Try.func5, Try.ntmps5
    go_wp2_with (first | (go_at_call 17; go_in))
    go_ret
    exact ⟨rfl, Below.refl _ _⟩
end Go.Proofs.Ytgeicojnjagboaa
