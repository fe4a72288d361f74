/- Walk of the law on DecodeQuics. -/
import Derived.Test.YthobnpifndnopaaQ7
import Derived.Test.YthobnpifndnopaaQ8
namespace Go.Proofs.Ythobnpifndnopaa
open Go.ChangeShapes Go.WideShapes Go.ChangeAt Go.RowKit Go.Sort QM
set_option linter.unusedVariables false
set_option linter.unusedSimpArgs false
theorem decL_len (s : ByteArray) (hs : s.size ≤ 1048576) : (decL s).length ≤ 1048576 := by
  have key : ∀ f p, ∀ r, decF s f p = some r → p ≤ s.size → r.length + p ≤ s.size := by
    intro f
    induction f with
    | zero =>
      intro p r h hp
      simp only [decF] at h
      split at h
      · injection h with h; subst h; simpa using hp
      · cases h
    | succ f ih =>
      intro p r h hp
      simp only [decF] at h
      split at h
      · injection h with h; subst h; simpa using hp
      · rcases dq_two s p with ⟨hn, _⟩ | ⟨n, k, hn, _, _, h1, _, h2⟩
        · rw [hn] at h; cases h
        · rw [hn] at h
          have h' : Option.map ((n : Int) :: ·) (decF s f (p + k)) = some r := h
          cases hx : decF s f (p + k) with
          | none => rw [hx] at h'; cases h'
          | some t =>
            rw [hx] at h'
            injection h' with h'
            subst h'
            have := ih (p + k) t hx (by omega)
            simp only [List.length_cons]; omega
  unfold decL
  cases h : decAll s with
  | none => simp
  | some r =>
    have := key _ _ r h (Nat.zero_le _)
    simp only [Option.getD_some]; omega
set_option maxHeartbeats 2000000 in
theorem walk_FnExactDecodeQuics (s : ByteArray) (_w0 : s.size ≤ maxLen) (w : World) : Calls Try.prog 7 #[.string s] w fun e w' => e = .returned (.bool true) ∧ Below w.heap.size w w' := by
  by_cases hs : s.size ≤ 1048576
  · have hd : decide ((1048576 : Int) < (s.size : Int)) = false := by simp; omega
    have hlen := decL_len s hs
    obtain ⟨n, hn⟩ : ∃ n, (decL s).length = n := ⟨_, rfl⟩
    rw [hn] at hlen
    have HN := Lib.hid hn
    have hsb : (decB s != decB s) = false := by simp
    go_enter Try.func7, Try.ntmps7
    go_wp2_with fail
    refine (sDecs s hs w).mono ?_
    rintro e w1 ⟨A1, c1, rfl, hb1, ho1⟩
    rw [hn] at ho1 ⊢
    go_wp2_with fail
    refine (iDecs s hs w1).mono ?_
    rintro e w2 ⟨A2, c2, rfl, hb2, ho2⟩
    rw [hn] at ho2 ⊢
    have h02 := below_next hb1 hb1.size hb2
    have ho12 := own_step ho1 hb2
    generalize hB : decB s = b at *
    go_wp2_with fail
    refine (eqIntS_any (B := w2.heap.size) (Nat.le_refl _) (own_rd ho2) (own_rd ho12) (by omega) HN).mono ?_
    rintro e w3 ⟨rfl, hb3⟩
    have h03 := below_next h02 h02.size hb3
    have ho13 := own_step ho12 hb3
    have ho23 := own_step ho2 hb3
    go_wp2_with fail
    refine (markIntS_any 1 ho23 (by omega) (by omega) (by omega)).mono ?_
    rintro e w4 ⟨rfl, ho24, hg4⟩
    have hA2 : ∀ k, (Value.slice A2 n c2).ownBlock = some k → w1.heap.size ≤ k := fun k hk => (ho2.lt k hk).1
    have h04 := below_only h03 hg4 h03.size (fun k hk => by have := hA2 k hk; have := hb1.size; omega)
    have ho14 := own_other ho13 hg4 (fun k hk e => by have := hA2 k hk; have := (ho1.lt _ e).2; omega)
    go_wp2_with fail
    refine (heldIntS_any 1 (own_rd ho24) (by omega) (by omega) (by omega)).mono ?_
    rintro e w' ⟨rfl, rfl⟩
    go_wp2_with fail
    refine (iDecs s hs w4).mono ?_
    rintro e w5 ⟨A5, c5, rfl, hb5, ho5⟩
    rw [hn] at ho5 ⊢
    rw [hB]
    have h05 := below_next h04 h04.size hb5
    have ho15 := own_step ho14 hb5
    have ho25 := own_step ho24 hb5
    go_wp2_with fail
    refine (eqIntS_any (B := w5.heap.size) (Nat.le_refl _) (own_rd ho5) (own_rd ho15) (by omega) HN).mono ?_
    rintro e w6 ⟨rfl, hb6⟩
    have h06 := below_next h05 h05.size hb6
    have ho26 := own_step ho25 hb6
    go_wp2_with fail
    refine (heldIntS_any 1 (own_rd ho26) (by omega) (by omega) (by omega)).mono ?_
    rintro e w' ⟨rfl, rfl⟩
    go_wp2
    go_ret
    exact ⟨rfl, h06⟩
  · have hd : decide ((1048576 : Int) < (s.size : Int)) = true := by simp; omega
    go_enter Try.func7, Try.ntmps7
    go_wp2
    go_ret
    exact ⟨rfl, Below.refl _ _⟩
end Go.Proofs.Ythobnpifndnopaa
