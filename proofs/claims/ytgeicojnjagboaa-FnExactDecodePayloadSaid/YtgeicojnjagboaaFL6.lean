/- The walk of the law on DecodePayload. No conditions. -/
import Derived.Test.YtgeicojnjagboaaS1
import Derived.Test.YtgeicojnjagboaaS2
namespace Go.Proofs.Ytgeicojnjagboaa
open Go.ChangeShapes Go.WideShapes Go.ChangeAt Go.RowKit Go.Sort QM
set_option linter.unusedVariables false
set_option linter.unusedSimpArgs false
theorem dpL_len (s : ByteArray) (hs : s.size ≤ 1048576) : (dpL s).length ≤ 1048576 := by
  have key : ∀ f p, ∀ r, dpF s f p = some r → p ≤ s.size → r.length + p ≤ s.size := by
    intro f
    induction f with
    | zero =>
      intro p r h hp
      simp only [dpF] at h
      split at h
      · injection h with h; subst h; simpa using hp
      · cases h
    | succ f ih =>
      intro p r h hp
      simp only [dpF] at h
      split at h
      · injection h with h; subst h; simpa using hp
      · split at h
        · have := ih (p + 1) r h (by omega); omega
        · cases hx : dfO s p with
          | none => rw [hx] at h; cases h
          | some x =>
            obtain ⟨y, q⟩ := x
            rw [hx] at h
            obtain ⟨_, _, h1, h2, _⟩ := dfO_facts hs hx
            have h' : Option.map (y :: ·) (dpF s f q.toNat) = some r := h
            cases hz : dpF s f q.toNat with
            | none => rw [hz] at h'; cases h'
            | some t =>
              rw [hz] at h'
              injection h' with h'
              subst h'
              have := ih q.toNat t hz (by omega)
              simp only [List.length_cons]; omega
  unfold dpL
  cases h : dpAll s with
  | none => simp
  | some r =>
    have := key _ _ r h (Nat.zero_le _)
    simp only [Option.getD_some]; omega
set_option maxRecDepth 20000 in
set_option maxHeartbeats 2000000 in
theorem walk_FnExactDecodePayload (s : ByteArray) (_w0 : s.size ≤ maxLen) (w : World) : Calls Try.prog 4 #[.string s] w fun e w' => e = .returned (.bool true) ∧ Below w.heap.size w w' := by
  by_cases hs : s.size ≤ 1048576
  · have hd : decide ((1048576 : Int) < (s.size : Int)) = false := by simp; omega
    have hlen := dpL_len s hs
    obtain ⟨L, hL⟩ : ∃ L, dpL s = L := ⟨_, rfl⟩
    obtain ⟨t, hT⟩ : ∃ t, dpT s = t := ⟨_, rfl⟩
    have hS := fun W => sDP s hs W
    have hI := fun W => iDP s hs W
    unfold OutP at hS hI
    rw [hL] at hlen
    simp only [hL, hT] at hS hI
    clear hL hT
    obtain ⟨n, hn⟩ : ∃ n, L.length = n := ⟨_, rfl⟩
    simp only [hn] at hS hI
    rw [hn] at hlen
    have HN := Lib.hid hn; clear hn
    obtain ⟨z, hz⟩ : ∃ z : Int, ((1 + 9 * n : Nat) : Int) = z := ⟨_, rfl⟩
    have hz0 : decide (z < 0) = false := by simp; omega
    have hMK := fun {A : Option Addr} {c base : Nat} {w : World} {l : List Fr} (ho : w.ownsRow base 23 9 (.slice A n c) n (encF9 l)) (hb : base ≤ w.heap.size) => markFrameS_any 1 ho hb (by decide) (by decide) (by omega)
    have hHD := fun {A : Option Addr} {c B : Nat} {w : World} (hr : Rd w B A (encF9 (mkF 1 n))) (hb : B ≤ w.heap.size) => heldFrameS_any (c := c) 1 hr hb (by decide) (by decide) (by omega)
    rw [hz] at hMK hHD
    clear hz
    go_enter Try.func4, Try.ntmps4
    go_wp2_with fail
    refine (hS w).mono ?_
    rintro e w1 ⟨A1, c1, rfl, hb1, ho1⟩
    go_wp2_with fail
    refine (hI w1).mono ?_
    rintro e w2 ⟨A2, c2, rfl, hb2, ho2⟩
    have h02 := below_next hb1 hb1.size hb2
    have ho12 := own_step ho1 hb2
    go_wp2_with fail
    refine (eqFrameS_self (B := w2.heap.size) (Nat.le_refl _) (own_rd ho2) (own_rd ho12) (by omega) HN).mono ?_
    rintro e w3 ⟨rfl, hb3⟩
    have h03 := below_next h02 h02.size hb3
    have ho13 := own_step ho12 hb3
    have ho23 := own_step ho2 hb3
    go_wp2_with fail
    refine (hMK ho23 (Nat.le_trans hb2.size hb3.size)).mono ?_
    rintro e w4 ⟨rfl, ho24, hg4⟩
    have hA2 : ∀ k, (Value.slice A2 n c2).ownBlock = some k → w1.heap.size ≤ k := fun k hk => (ho2.lt k hk).1
    have h04 := below_only h03 hg4 h03.size (fun k hk => by have := hA2 k hk; have := hb1.size; omega)
    have ho14 := own_other ho13 hg4 (fun k hk e => by have := hA2 k hk; have := (ho1.lt _ e).2; omega)
    go_wp2_with fail
    refine (hHD (own_rd ho24) (Nat.le_refl _)).mono ?_
    rintro e w5 ⟨rfl, hb5⟩
    have h05 := below_next h04 h04.size hb5
    have ho15 := own_step ho14 hb5
    have ho25 := own_step ho24 hb5
    go_wp2_with fail
    refine (hI w5).mono ?_
    rintro e w6 ⟨A6, c6, rfl, hb6, ho6⟩
    have h06 := below_next h05 h05.size hb6
    have ho16 := own_step ho15 hb6
    have ho26 := own_step ho25 hb6
    go_wp2_with fail
    refine (eqFrameS_self (B := w6.heap.size) (Nat.le_refl _) (own_rd ho6) (own_rd ho16) (by omega) HN).mono ?_
    rintro e w7 ⟨rfl, hb7⟩
    have h07 := below_next h06 h06.size hb7
    have ho27 := own_step ho26 hb7
    go_wp2_with fail
    refine (hHD (own_rd ho27) (Nat.le_refl _)).mono ?_
    rintro e w8 ⟨rfl, hb8⟩
    have h08 := below_next h07 h07.size hb8
    go_wp2
    go_ret
    exact ⟨rfl, h08⟩
  · have hd : decide ((1048576 : Int) < (s.size : Int)) = true := by simp; omega
    go_enter Try.func4, Try.ntmps4
    go_wp2
    go_ret
    exact ⟨rfl, Below.refl _ _⟩
end Go.Proofs.Ytgeicojnjagboaa
