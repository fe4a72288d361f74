/- FormatRanges: one contract for each package. The table of powers is a premise on the world. -/
import Derived.Test.YtaackmiodkpnoaaDoorNT
namespace Go.Proofs.YtaackmiodkpnoaaDoor
open Go.ChangeShapes Go.WideShapes Go.ChangeAt Go.RowKit Go.Sort RM
set_option linter.unusedVariables false
set_option linter.unusedSimpArgs false
def I64 (n : Int) : Prop := -9223372036854775808 ≤ n ∧ n ≤ 9223372036854775807
def BdR (l : List R) : Prop := ∀ k, k < l.length → I64 (l.getD k (0, 0)).1 ∧ I64 (l.getD k (0, 0)).2
theorem itB_size {n : Int} (h : I64 n) : (itB n).size ≤ 20 := by
  have e : (itB n).size = (Lib.itoa n).length := by unfold itB; simp [ByteArray.size]
  rw [e]
  have hr : n.natAbs < 10 ^ 19 := by unfold I64 at h; have : (10 : Nat) ^ 19 = 10000000000000000000 := by decide
                                     omega
  have hl : (Lib.decDigits n.natAbs).length ≤ 19 := by
    by_cases h0 : n.natAbs = 0
    · rw [h0, NM.decDigits_small (by decide)]; simp
    · have := rest_size 19 _ hr
      unfold NM.rest at this; rw [if_neg h0] at this; exact this
  rw [NM.len_itoa, ← Lib.decDigits_length]
  split <;> omega
/-- The text of the first j ranges. -/
def fmtJ (l : List R) : Nat → ByteArray
  | 0 => ⟨#[]⟩
  | j + 1 => (if 0 < j then fmtJ l j ++ ⟨#[32]⟩ else fmtJ l j) ++ itB (l.getD j (0, 0)).1 ++ ⟨#[45]⟩ ++ itB (l.getD j (0, 0)).2
def fmtR (l : List R) : ByteArray := if l.length = 0 then ⟨#[110, 111, 110, 101]⟩ else fmtJ l l.length
theorem fmtJ_size {l : List R} (h : BdR l) : ∀ j, j ≤ l.length → j ≤ (fmtJ l j).size ∧ (fmtJ l j).size ≤ 42 * j := by
  intro j
  induction j with
  | zero => intro _; exact ⟨Nat.le_refl _, Nat.le_refl _⟩
  | succ j ih =>
    intro hj
    have hi := ih (by omega)
    have h1 := itB_size (h j (by omega)).1
    have h2 := itB_size (h j (by omega)).2
    have e1 : (⟨#[32]⟩ : ByteArray).size = 1 := rfl
    have e2 : (⟨#[45]⟩ : ByteArray).size = 1 := rfl
    simp only [fmtJ]
    split
    · simp only [ByteArray.size_append]; omega
    · simp only [ByteArray.size_append]; omega
theorem fmtJ_first {l : List R} {j : Nat} {x y : Int} (hj : ¬ 0 < j) (h : l.getD j (0, 0) = (x, y)) : fmtJ l (j + 1) = fmtJ l j ++ itB x ++ ⟨#[45]⟩ ++ itB y := by
  show (if 0 < j then fmtJ l j ++ ⟨#[32]⟩ else fmtJ l j) ++ itB (l.getD j (0, 0)).1 ++ ⟨#[45]⟩ ++ itB (l.getD j (0, 0)).2 = _
  rw [if_neg hj, h]
theorem fmtJ_more {l : List R} {j : Nat} {x y : Int} (hj : 0 < j) (h : l.getD j (0, 0) = (x, y)) : fmtJ l (j + 1) = fmtJ l j ++ ⟨#[32]⟩ ++ itB x ++ ⟨#[45]⟩ ++ itB y := by
  show (if 0 < j then fmtJ l j ++ ⟨#[32]⟩ else fmtJ l j) ++ itB (l.getD j (0, 0)).1 ++ ⟨#[45]⟩ ++ itB (l.getD j (0, 0)).2 = _
  rw [if_pos hj, h]
theorem BdR.at {l : List R} (h : BdR l) {k n : Nat} {x y : Int} (hl : l.length = n) (hk : k < n) (hx : l.getD k (0, 0) = (x, y)) : I64 x ∧ I64 y := by
  have := h k (by omega); rw [hx] at this; exact this
theorem sFmtI (z : Int) (h : I64 z) (W : World) : Calls Tryd.prog 28 #[.int .i64 z] W fun e w' => e = .returned (.string (itB z)) ∧ Below W.heap.size W w' := sFmt z h.1 h.2 W
set_option maxRecDepth 20000 in
set_option maxHeartbeats 4000000 in
theorem sFR {A : Option Addr} {c n : Nat} {w : World} {B : Nat} {l : List R} (hB : B ≤ w.heap.size) (hr : Rd w B A (encR l)) (hm : n ≤ 1048576) (HL : Hid (l.length = n)) (HB : Hid (BdR l)) :
    Calls Tryd.prog 6 #[.slice A n c] w fun e w' => e = .returned (.string (fmtR l)) ∧ Below w.heap.size w w' := by
  go_enter Tryd.func6, Tryd.ntmps6
  go_wp2
  go_loopw [3, 4] (fun s i wr => ∃ (k : Nat) (S : ByteArray), k ≤ n ∧ i = .int .i64 k ∧ s = .string S ∧ Hid (fmtJ l k = S) ∧ Below w.heap.size w wr) (fun s i _ => n - (intOf i).toNat)
  case atStart => exact ⟨0, ⟨#[]⟩, Nat.zero_le _, rfl, rfl, rfl, Below.refl _ _⟩
  case round =>
    obtain ⟨k, S, hk, rfl, rfl, HS, hbw⟩ := hrel
    have hss := fmtJ_size HB.out k (by rw [HL.out]; exact hk)
    rw [HS.out] at hss
    obtain ⟨hs1, hs2⟩ := hss
    by_cases hlt : k < n
    · obtain ⟨b, off, x, y, rfl, hb, HX, c0, c1⟩ := (hr.below hbw hB).rng (k := k) (by rw [HL.out]; exact hlt)
      obtain ⟨bx, bY⟩ := HB.out.at HL.out hlt HX.out
      have zx := itB_size bx
      have zy := itB_size bY
      have k0 := cell_regrown c0
      have k1 := cell_regrown c1
      by_cases hk0 : 0 < k
      · have HN := Lib.hid (fmtJ_more hk0 HX.out)
        rw [HS.out] at HN
        have hd : decide ((0 : Int) < (k : Int)) = true := by simp; omega
        have hdn : decide (0 < k) = true := by simp; omega
        have zz : (S ++ (⟨#[32]⟩ : ByteArray)).size = S.size + 1 := by rw [ByteArray.size_append]; rfl
        obtain ⟨S1, hS1⟩ : ∃ S1, S ++ (⟨#[32]⟩ : ByteArray) = S1 := ⟨_, rfl⟩
        rw [hS1] at HN zz
        go_wp2
        refine wp_region_quiet_below (by kernel_rfl) (by kernel_rfl) ?_
        repeat (go_big_quiet_step ((go_at_call 28; exact Calls.regrown_of (sFmtI _ (by assumption) _))))
        refine wpQuiet_nil ?_
        intro _ hw'
        obtain ⟨⟨dq, osq⟩, hw''⟩ := hw'
        subst hw''
        have hb2 := below_next hbw hbw.size (below_regrown _ dq osq)
        generalize grow (redrawn _ dq) osq = w2 at hb2 ⊢
        clear k0 k1 c0 c1
        go_wp2
        go_roundw
        case rel => exact ⟨k + 1, _, by omega, by go_num, rfl, HN, hb2⟩
        case measure => simp [intOf]; omega
      · have HN := Lib.hid (fmtJ_first hk0 HX.out)
        rw [HS.out] at HN
        have hd : decide ((0 : Int) < (k : Int)) = false := by simp; omega
        have hdn : decide (0 < k) = false := by simp; omega
        go_wp2
        refine wp_region_quiet_below (by kernel_rfl) (by kernel_rfl) ?_
        repeat (go_big_quiet_step ((go_at_call 28; exact Calls.regrown_of (sFmtI _ (by assumption) _))))
        refine wpQuiet_nil ?_
        intro _ hw'
        obtain ⟨⟨dq, osq⟩, hw''⟩ := hw'
        subst hw''
        have hb2 := below_next hbw hbw.size (below_regrown _ dq osq)
        generalize grow (redrawn _ dq) osq = w2 at hb2 ⊢
        clear k0 k1 c0 c1
        go_wp2
        go_roundw
        case rel => exact ⟨k + 1, _, by omega, by go_num, rfl, HN, hb2⟩
        case measure => simp [intOf]; omega
    · obtain rfl : k = n := by omega
      by_cases h0 : k = 0
      · subst h0
        have HE := Lib.hid (show fmtR l = ⟨#[110, 111, 110, 101]⟩ by unfold fmtR; rw [if_pos HL.out])
        obtain rfl : S = ⟨#[]⟩ := HS.out.symm
        go_wp2
        go_ret
        exact ⟨ret_str HE.out.symm, hbw⟩
      · have HE := Lib.hid (show fmtR l = S by unfold fmtR; rw [HL.out, if_neg h0, HS.out])
        have hne : S.toList.isEmpty = false := by
          rw [ByteArray.toList_eq, Bool.eq_false_iff]
          intro e
          rw [List.isEmpty_iff] at e
          have : S.size = 0 := by show S.data.size = 0; rw [← Array.length_toList, e]; rfl
          omega
        go_wp2
        go_ret
        exact ⟨ret_str HE.out.symm, hbw⟩
end Go.Proofs.YtaackmiodkpnoaaDoor
