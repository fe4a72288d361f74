/- The walk of the law FnPayloads. No conditions. -/
import Derived.Test.YtadoiehgobcjcaaT7
import Derived.Test.YtadoiehgobcjcaaPM
namespace Go.Proofs.Ytadoiehgobcjcaa
open Go.ChangeShapes Go.WideShapes Go.ChangeAt Go.RowKit Go.Sort QM
set_option linter.unusedVariables false
set_option linter.unusedSimpArgs false
theorem eqFb_self2 (a b c : Int) (d : ByteArray) (e : Bool) (g l m : Int) (u : Bool) : eqFb a b c d e g l m u a b c d e g l m u = true := by simp [eqFb]
set_option maxRecDepth 20000 in
set_option maxHeartbeats 2000000 in
theorem sameFrames_any {A A' : Option Addr} {c c' n : Nat} {w : World} {B : Nat} {l : List Fr} (hB : B ≤ w.heap.size) (hr : Rd w B A (encF9 l)) (hr' : Rd w B A' (encF9 l)) (hm : n ≤ 1048576) (HL : Hid (l.length = n)) :
    Calls Try.prog 42 #[.slice A n c, .slice A' n c'] w fun e w' => e = .returned (.bool true) ∧ Below w.heap.size w w' := by
  go_enter Try.func42, Try.ntmps42
  go_wp2
  go_loopw [5] (fun i wr => ∃ k : Nat, k ≤ n ∧ i = .int .i64 k ∧ Below w.heap.size w wr) (fun i _ => n - (intOf i).toNat)
  case atStart => exact ⟨0, Nat.zero_le _, rfl, Below.refl _ _⟩
  case round =>
    obtain ⟨k, hk, rfl, hbw⟩ := hrel
    by_cases hlt : k < n
    · obtain ⟨b, off, f, rfl, hb, HX, c0, c1, c2, c3, c4, c5, c6, c7, c8⟩ := (hr.below hbw hB).frm (k := k) (by rw [HL.out]; exact hlt)
      obtain ⟨b', off', f', rfl, hb', HX', d0, d1, d2, d3, d4, d5, d6, d7, d8⟩ := (hr'.below hbw hB).frm (k := k) (by rw [HL.out]; exact hlt)
      obtain rfl : f' = f := HX'.out.symm.trans HX.out
      have hne := fun W => run_neq_fr f'.a f'.b f'.c f'.d f'.e f'.g f'.l f'.m f'.u f'.a f'.b f'.c f'.d f'.e f'.g f'.l f'.m f'.u W
      simp only [eqFb_self2, Bool.not_true] at hne
      replace c0 := cell_regrown c0; replace c1 := cell_regrown c1; replace c2 := cell_regrown c2; replace c3 := cell_regrown c3; replace c4 := cell_regrown c4
      replace c5 := cell_regrown c5; replace c6 := cell_regrown c6; replace c7 := cell_regrown c7; replace c8 := cell_regrown c8
      replace d0 := cell_regrown d0; replace d1 := cell_regrown d1; replace d2 := cell_regrown d2; replace d3 := cell_regrown d3; replace d4 := cell_regrown d4
      replace d5 := cell_regrown d5; replace d6 := cell_regrown d6; replace d7 := cell_regrown d7; replace d8 := cell_regrown d8
      go_wp2
      refine wp_region_quiet_below (by kernel_rfl) (by kernel_rfl) ?_
      repeat (go_big_quiet_step ((fail)))
      refine wpQuiet_nil ?_
      intro _ hw'
      obtain ⟨⟨dq, osq⟩, hw''⟩ := hw'
      subst hw''
      have hb2 := below_next hbw hbw.size (below_regrown _ dq osq)
      generalize grow (redrawn _ dq) osq = w2 at hb2 ⊢
      clear c0 c1 c2 c3 c4 c5 c6 c7 c8 d0 d1 d2 d3 d4 d5 d6 d7 d8 hbw hne
      go_wp2
      go_roundw
      case rel => exact ⟨k + 1, by omega, by go_num, hb2⟩
      case measure => simp [intOf]; omega
    · go_wp2
      go_ret
      exact ⟨rfl, hbw⟩
theorem isEmptyP {d : ByteArray} : d.toList.isEmpty = decide (d.size = 0) := by
  rw [ByteArray.toList_eq]
  obtain ⟨⟨l⟩⟩ := d
  cases l <;> simp [ByteArray.size]
/-- What the law asks of a payload's bytes. -/
theorem ep_facts (L : List Fr) (h190 : (epB L).size ≤ 190) : ((epB L).toList.isEmpty = true ∧ dpT (epB L) = false) ∨ ((epB L).toList.isEmpty = false ∧ dpT (epB L) = true ∧ dpL (epB L) = L ∧ dpL (((⟨#[0]⟩ : ByteArray) ++ epB L) ++ ⟨#[0, 0]⟩) = L ∧ dpT (((⟨#[0]⟩ : ByteArray) ++ epB L) ++ ⟨#[0, 0]⟩) = true) := by
  rcases epB_cases L with h | ⟨h1, h2, h3, h4⟩
  · left
    rw [h]
    exact ⟨by rw [isEmptyP]; rfl, dp_nil.2⟩
  · right
    rw [h2] at h3 h4 h190 ⊢
    obtain ⟨e1, e2⟩ := dp_enc h1 h3 h4
    obtain ⟨e3, e4⟩ := dp_pad h1 (by omega)
    exact ⟨by rw [isEmptyP]; exact decide_eq_false (by omega), e2, e1, e3, e4⟩
theorem dpF_len (s : ByteArray) (hs : s.size ≤ 1048576) : ∀ (f p : Nat) (L : List Fr), dpF s f p = some L → L.length ≤ f := by
  intro f
  induction f with
  | zero =>
    intro p L h
    unfold dpF at h
    split at h
    · injection h with h; subst h; exact Nat.le_refl _
    · cases h
  | succ f ih =>
    intro p L h
    unfold dpF at h
    split at h
    · injection h with h; subst h; exact Nat.zero_le _
    · split at h
      · exact Nat.le_succ_of_le (ih _ _ h)
      · split at h
        · cases h
        · rename_i x q _
          cases hd : dpF s f q.toNat with
          | none => rw [hd] at h; cases h
          | some M => rw [hd] at h; injection h with h; subst h; have := ih _ _ hd; simp; omega
theorem dp_len (s : ByteArray) (hs : s.size ≤ 1048576) : (dpL s).length ≤ s.size := by
  unfold dpL dpAll
  cases h : dpF s s.size 0 with
  | none => exact Nat.zero_le _
  | some L => exact dpF_len s hs _ _ _ h
set_option maxRecDepth 20000 in
set_option maxHeartbeats 16000000 in
theorem walk_FnPayloads {A : Option Addr} {c n : Nat} {l : List Int} (w : World) (hr : Rd w w.heap.size A (bys l)) (hn : n ≤ maxLen) (HL : Hid (l.length = n)) :
    Calls Try.prog 5 #[.slice A n c] w fun e w' => e = .returned (.bool true) ∧ Below w.heap.size w w' := by
  unfold maxLen at hn
  by_cases hs : n ≤ 1048576
  · have hd : decide ((1048576 : Int) < (n : Int)) = false := by simp; omega
    go_enter Try.func5, Try.ntmps5
    go_wp2_with (first | (go_at_call 6; go_in))
    refine (drawEncodePayload hr hs HL).mono ?_
    rintro e w1 ⟨A1, c1, L, rfl, hl5, hq, ho, hb⟩
    have hL6 : L.length ≤ 1048576 := by omega
    have HD := Lib.hid (getD_short hq)
    have hS190 : (epB L).size ≤ 190 := Nat.le_trans (epB_short L hq) (by omega)
    have hSf := ep_facts L hS190
    clear hq
    go_wp2_with fail
    refine (iEP (Nat.le_refl _) (own_rd ho) hL6 (Lib.hid rfl) HD).mono ?_
    rintro e w2 ⟨rfl, hb2⟩
    replace ho := own_step ho hb2
    replace hb := below_next hb hb.size hb2
    clear hb2
    obtain ⟨S, hSe⟩ : ∃ S, epB L = S := ⟨_, rfl⟩
    rw [hSe] at hS190 hSf ⊢
    have HSE := Lib.hid hSe; clear hSe
    go_wp2_with fail
    refine (iDP S (by omega) _).mono ?_
    rintro e w3 ⟨A3, c3, rfl, hb3, ho3⟩
    replace ho := own_step ho hb3
    replace hb := below_next hb hb.size hb3
    clear hb3
    go_wp2_with fail
    refine (sEP (Nat.le_refl _) (own_rd ho) hL6 (Lib.hid rfl) HD).mono ?_
    rintro e w4 ⟨rfl, hb4⟩
    rw [HSE.out]
    replace ho := own_step ho hb4
    replace ho3 := own_step ho3 hb4
    replace hb := below_next hb hb.size hb4
    clear hb4
    rcases hSf with ⟨hem, hT⟩ | ⟨hem, hT, hLs, hPL, hPT⟩
    · rw [hT]
      go_wp2_with fail
      refine (sEP (Nat.le_refl _) (own_rd ho) hL6 (Lib.hid rfl) HD).mono ?_
      rintro e w5 ⟨rfl, hb5⟩
      rw [HSE.out]
      replace hb := below_next hb hb.size hb5
      clear hb5 ho ho3
      go_wp2_with fail
      refine (drawDecodePayload ((hr.below hb (Nat.le_refl _)).more hb.size) hs HL).mono ?_
      rintro e w20 ⟨v, rfl, ⟨t, rfl, ht⟩, hb20⟩
      replace hb := below_next hb hb.size hb20
      clear hb20
      go_wp2_with fail
      refine (iDP t (by omega) _).mono ?_
      rintro e w21 ⟨A21, c21, rfl, hb21, ho21⟩
      replace hb := below_next hb hb.size hb21
      clear hb21
      go_wp2_with fail
      refine (sDP t (by omega) _).mono ?_
      rintro e w22 ⟨A22, c22, rfl, hb22, ho22⟩
      replace ho21 := own_step ho21 hb22
      replace hb := below_next hb hb.size hb22
      clear hb22
      have hlt : (dpL t).length ≤ 1048576 := by
        have := dp_len t (by omega)
        omega
      cases hTt : dpT t
      · have hw0 := dp_whole t hTt (by omega)
        rw [hw0] at ho21 ho22 ⊢
        go_wp2_with fail
        refine (sameFrames_any (B := w22.heap.size) (Nat.le_refl _) (own_rd ho21) (own_rd ho22) (by decide) (Lib.hid rfl)).mono ?_
        rintro e w23 ⟨rfl, hb23⟩
        replace hb := below_next hb hb.size hb23
        go_wp2
        go_ret
        exact ⟨rfl, hb⟩
      · go_wp2_with fail
        refine (sameFrames_any (B := w22.heap.size) (Nat.le_refl _) (own_rd ho21) (own_rd ho22) hlt (Lib.hid rfl)).mono ?_
        rintro e w23 ⟨rfl, hb23⟩
        replace hb := below_next hb hb.size hb23
        go_wp2
        go_ret
        exact ⟨rfl, hb⟩
    · rw [hT, hLs]
      rw [hLs] at ho3
      go_wp2_with fail
      refine (sEP (Nat.le_refl _) (own_rd ho) hL6 (Lib.hid rfl) HD).mono ?_
      rintro e w5 ⟨rfl, hb5⟩
      rw [HSE.out]
      replace ho := own_step ho hb5
      replace ho3 := own_step ho3 hb5
      replace hb := below_next hb hb.size hb5
      clear hb5
      go_wp2_with fail
      refine (sameFrames_any (B := w5.heap.size) (Nat.le_refl _) (own_rd ho3) (own_rd ho) hL6 (Lib.hid rfl)).mono ?_
      rintro e w6 ⟨rfl, hb6⟩
      replace ho := own_step ho hb6
      replace hb := below_next hb hb.size hb6
      clear hb6 ho3
      go_wp2_with fail
      refine (sEP (Nat.le_refl _) (own_rd ho) hL6 (Lib.hid rfl) HD).mono ?_
      rintro e w7 ⟨rfl, hb7⟩
      rw [HSE.out]
      replace ho := own_step ho hb7
      replace hb := below_next hb hb.size hb7
      clear hb7
      have z0 : ((⟨#[0]⟩ : ByteArray)).size = 1 := rfl
      have z00 : ((⟨#[0, 0]⟩ : ByteArray)).size = 2 := rfl
      go_wp2_with fail
      have hps : (((⟨#[0]⟩ : ByteArray) ++ S) ++ ⟨#[0, 0]⟩).size ≤ 1048576 := by simp only [ByteArray.size_append, z0, z00]; omega
      refine (iDP _ hps _).mono ?_
      rintro e w8 ⟨A8, c8, rfl, hb8, ho8⟩
      replace ho := own_step ho hb8
      replace hb := below_next hb hb.size hb8
      clear hb8
      rw [hPL] at ho8
      rw [hPL, hPT]
      go_wp2_with fail
      refine (sameFrames_any (B := w8.heap.size) (Nat.le_refl _) (own_rd ho8) (own_rd ho) hL6 (Lib.hid rfl)).mono ?_
      rintro e w9 ⟨rfl, hb9⟩
      replace hb := below_next hb hb.size hb9
      clear hb9 ho ho8 hps
      go_wp2_with fail
      refine (drawDecodePayload ((hr.below hb (Nat.le_refl _)).more hb.size) hs HL).mono ?_
      rintro e w20 ⟨v, rfl, ⟨t, rfl, ht⟩, hb20⟩
      replace hb := below_next hb hb.size hb20
      clear hb20
      go_wp2_with fail
      refine (iDP t (by omega) _).mono ?_
      rintro e w21 ⟨A21, c21, rfl, hb21, ho21⟩
      replace hb := below_next hb hb.size hb21
      clear hb21
      go_wp2_with fail
      refine (sDP t (by omega) _).mono ?_
      rintro e w22 ⟨A22, c22, rfl, hb22, ho22⟩
      replace ho21 := own_step ho21 hb22
      replace hb := below_next hb hb.size hb22
      clear hb22
      have hlt : (dpL t).length ≤ 1048576 := by
        have := dp_len t (by omega)
        omega
      cases hTt : dpT t
      · have hw0 := dp_whole t hTt (by omega)
        rw [hw0] at ho21 ho22 ⊢
        go_wp2_with fail
        refine (sameFrames_any (B := w22.heap.size) (Nat.le_refl _) (own_rd ho21) (own_rd ho22) (by decide) (Lib.hid rfl)).mono ?_
        rintro e w23 ⟨rfl, hb23⟩
        replace hb := below_next hb hb.size hb23
        go_wp2
        go_ret
        exact ⟨rfl, hb⟩
      · go_wp2_with fail
        refine (sameFrames_any (B := w22.heap.size) (Nat.le_refl _) (own_rd ho21) (own_rd ho22) hlt (Lib.hid rfl)).mono ?_
        rintro e w23 ⟨rfl, hb23⟩
        replace hb := below_next hb hb.size hb23
        go_wp2
        go_ret
        exact ⟨rfl, hb⟩
  · have hd : decide ((1048576 : Int) < (n : Int)) = true := by simp; omega
    go_enter Try.func5, Try.ntmps5
    go_wp2_with (first | (go_at_call 6; go_in))
    go_ret
    exact ⟨rfl, Below.refl _ _⟩
end Go.Proofs.Ytadoiehgobcjcaa
