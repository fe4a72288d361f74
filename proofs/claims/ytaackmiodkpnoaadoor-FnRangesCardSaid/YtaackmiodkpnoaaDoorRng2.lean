/- Contracts of the functions that read slices of ranges. No conditions. -/
import Derived.Test.YtaackmiodkpnoaaDoorRng1
namespace Go.Proofs.YtaackmiodkpnoaaDoor
open Go.ChangeShapes Go.WideShapes Go.ChangeAt Go.RowKit Go.Sort RM
set_option linter.unusedVariables false
def encR (l : List R) : List Value := l.flatMap fun r => [.int .i64 r.1, .int .i64 r.2]
theorem encR_len (l : List R) : (encR l).length = 2 * l.length := by
  induction l with
  | nil => rfl
  | cons r l ih => show (_ :: _ :: encR l).length = _; simp [ih]; omega
theorem encR_lo (l : List R) : ∀ k, k < l.length → (encR l)[2 * k]? = some (.int .i64 (l.getD k (0, 0)).1) := by
  induction l with
  | nil => intro k h; simp at h
  | cons r l ih =>
    intro k h
    cases k with
    | zero => rfl
    | succ k => show (_ :: _ :: encR l)[2 * k + 1 + 1]? = _; simpa using ih k (by simpa using h)
theorem encR_hi (l : List R) : ∀ k, k < l.length → (encR l)[2 * k + 1]? = some (.int .i64 (l.getD k (0, 0)).2) := by
  induction l with
  | nil => intro k h; simp at h
  | cons r l ih =>
    intro k h
    cases k with
    | zero => rfl
    | succ k => show (_ :: _ :: encR l)[2 * k + 1 + 1 + 1]? = _; simpa using ih k (by simpa using h)
/-- The two cells of element k. -/
theorem Rd.rng {w : World} {B : Nat} {A : Option Addr} {l : List R} (h : Rd w B A (encR l)) {k : Nat} (hk : k < l.length) :
    ∃ b off x y, A = some ⟨b, off, none⟩ ∧ b < B ∧ Hid (l.getD k (0, 0) = (x, y)) ∧ w.cell? ⟨b, off + k * 2, none⟩ = some (.int .i64 x) ∧ w.cell? ⟨b, off + k * 2 + 1, none⟩ = some (.int .i64 y) := by
  obtain ⟨b, off, e, hb, hc⟩ := h _ _ (encR_lo l k hk)
  have h2 := h.cell e (encR_hi l k hk)
  refine ⟨b, off, _, _, e, hb, Lib.hid rfl, ?_, ?_⟩
  · rw [Nat.mul_comm]; exact hc
  · rw [Nat.mul_comm, Nat.add_assoc]; exact h2
theorem list_eq_getD {l m : List R} {n : Nat} (h1 : l.length = n) (h2 : m.length = n) (h : ∀ j, j < n → l.getD j (0,0) = m.getD j (0,0)) : l = m := by
  apply List.ext_getElem (by omega)
  intro i hi hi'
  have := h i (by omega)
  simpa [List.getD, hi, hi'] using this
theorem getD_ne {l m : List R} {k : Nat} (h : l.getD k (0,0) ≠ m.getD k (0,0)) : (l == m) = false := by
  rw [beq_eq_false_iff_ne]
  rintro rfl
  exact h rfl
def eqRs (l m : List R) : Bool := l == m
theorem eqRs_self (l : List R) : eqRs l l = true := by simp [eqRs]
theorem eqRs_iff {l m : List R} : eqRs l m = true ↔ l = m := by simp [eqRs]
theorem eqRangeS_any (l m : List R) (n n' : Nat) (A A' : Option Addr) (c c' : Nat) (w : World) (B : Nat) (hB : B ≤ w.heap.size) (hr : Rd w B A (encR l)) (hs : Rd w B A' (encR m)) (hm : n ≤ 9223372036854775807) (hm' : n' ≤ 9223372036854775807) (hl : l.length = n) (hlm : m.length = n') :
    Calls Tryd.prog 9 #[.slice A n c, .slice A' n' c'] w fun e w' => e = .returned (.bool (eqRs l m)) ∧ Below w.heap.size w w' := by
  have HL := Lib.hid hl; clear hl
  have HM := Lib.hid hlm; clear hlm
  by_cases hnn : n = n'
  · subst hnn
    go_enter Tryd.func9, Tryd.ntmps9
    go_wp2
    go_loopw [5] (fun i wr => ∃ k : Nat, k ≤ n ∧ i = .int .i64 k ∧ (∀ j, j < k → l.getD j (0,0) = m.getD j (0,0)) ∧ Below w.heap.size w wr) (fun i _ => n - (intOf i).toNat)
    case atStart => exact ⟨0, Nat.zero_le _, rfl, fun j hj => by omega, Below.refl _ _⟩
    case round =>
      obtain ⟨k, hk, rfl, he, hbw⟩ := hrel
      have HE := Lib.hid he; clear he
      by_cases hlt : k < n
      · obtain ⟨b, off, x, y, rfl, hb, HX, c0, c1⟩ := (hr.below hbw hB).rng (k := k) (by rw [HL.out]; exact hlt)
        obtain ⟨b', off', x', y', rfl, hb', HX', d0, d1⟩ := (hs.below hbw hB).rng (k := k) (by rw [HM.out]; exact hlt)
        have k0 := cell_regrown c0
        have k1 := cell_regrown c1
        have e0 := cell_regrown d0
        have e1 := cell_regrown d1
        go_wp2
        refine wp_region_quiet_below (by kernel_rfl) (by kernel_rfl) ?_
        repeat (go_big_quiet_step ((go_at_call 31; exact Calls.regrown_of (eqRange_any _ _ _ _ _))))
        refine wpQuiet_nil ?_
        intro _ hw'
        obtain ⟨⟨dq, osq⟩, hw''⟩ := hw'
        subst hw''
        have hb2 := below_next hbw hbw.size (below_regrown wr dq osq)
        generalize grow (redrawn wr dq) osq = w2 at hb2 ⊢
        clear k0 k1 e0 e1 c0 c1 d0 d1 hbw
        cases hq : eqRb x y x' y'
        · go_wp2
          go_ret
          exact ⟨ret_bool (getD_ne (by rw [HX.out, HX'.out]; exact eqRb_false hq)).symm, hb2⟩
        · go_wp2
          go_roundw
          case rel => exact ⟨k + 1, by omega, by go_num, fun j hj => by
            by_cases hj' : j < k
            · exact HE.out j hj'
            · obtain rfl : j = k := by omega
              rw [HX.out, HX'.out]; exact eqRb_true hq, hb2⟩
          case measure => simp [intOf]; omega
      · go_wp2
        go_ret
        exact ⟨ret_bool (by rw [list_eq_getD HL.out HM.out (fun j hj => HE.out j (by omega)), eqRs_self]), hbw⟩
  · have hnb : ((n : Int) != (n' : Int)) = true := by rw [bne_iff_ne]; omega
    go_enter Tryd.func9, Tryd.ntmps9
    go_wp2
    go_ret
    exact ⟨ret_bool (by symm; rw [Bool.eq_false_iff, ne_eq, eqRs_iff]; rintro rfl; exact hnn (HL.out.symm.trans HM.out)), Below.refl _ _⟩
end Go.Proofs.YtaackmiodkpnoaaDoor
