/- Slices of ranges in this seat: eqRangeS, markRangeS, heldRangeS. No conditions. -/
import Derived.Test.YtgccodnemcofdaaE4
namespace Go.Proofs.Ytgccodnemcofdaa
open Go.ChangeShapes Go.WideShapes Go.ChangeAt Go.RowKit Go.Sort
set_option linter.unusedVariables false
set_option linter.unusedSimpArgs false
abbrev R := Int × Int
def eqRb (a b c d : Int) : Bool := a == c && b == d
theorem eqRb_true {a b c d : Int} (h : eqRb a b c d = true) : (a, b) = (c, d) := by simpa [eqRb] using h
theorem eqRb_false {a b c d : Int} (h : eqRb a b c d = false) : (a, b) ≠ (c, d) := by
  rintro e; injection e with e1 e2; subst e1 e2; simp [eqRb] at h
theorem eqRange_any (a b c d : Int) (w : World) : Calls Try.prog 45 #[.agg #[.int .i64 a, .int .i64 b], .agg #[.int .i64 c, .int .i64 d]] w fun e w' => e = .returned (.bool (eqRb a b c d)) ∧ Below w.heap.size w w' := by
  go_enter Try.func45, Try.ntmps45
  go_wp2
  all_goals go_ret
  all_goals exact ⟨ret_bool (by simp_all [eqRb]), ((Below.refl _ _).alloc (Nat.le_refl _) _).alloc (by simp) _⟩
def encR (l : List R) : List Value := l.flatMap fun r => [.int .i64 r.1, .int .i64 r.2]
theorem encR_len (l : List R) : (encR l).length = 2 * l.length := by
  induction l with
  | nil => rfl
  | cons r l ih => show (_ :: _ :: encR l).length = _; simp [ih]; omega
theorem encR_lo (l : List R) : ∀ k, k < l.length → (encR l)[2 * k]? = some (.int .i64 (l.getD k (0, 0)).1) := by
  induction l with
  | nil => intro k h; simp at h
  | cons r l ih =>
    intro k h
    cases k with
    | zero => rfl
    | succ k => show (_ :: _ :: encR l)[2 * k + 1 + 1]? = _; simpa using ih k (by simpa using h)
theorem encR_hi (l : List R) : ∀ k, k < l.length → (encR l)[2 * k + 1]? = some (.int .i64 (l.getD k (0, 0)).2) := by
  induction l with
  | nil => intro k h; simp at h
  | cons r l ih =>
    intro k h
    cases k with
    | zero => rfl
    | succ k => show (_ :: _ :: encR l)[2 * k + 1 + 1 + 1]? = _; simpa using ih k (by simpa using h)
/-- The two cells of element k. -/
theorem Rd.rng {w : World} {B : Nat} {A : Option Addr} {l : List R} (h : Rd w B A (encR l)) {k : Nat} (hk : k < l.length) :
    ∃ b off x y, A = some ⟨b, off, none⟩ ∧ b < B ∧ Hid (l.getD k (0, 0) = (x, y)) ∧ w.cell? ⟨b, off + k * 2, none⟩ = some (.int .i64 x) ∧ w.cell? ⟨b, off + k * 2 + 1, none⟩ = some (.int .i64 y) := by
  obtain ⟨b, off, e, hb, hc⟩ := h _ _ (encR_lo l k hk)
  have h2 := h.cell e (encR_hi l k hk)
  refine ⟨b, off, _, _, e, hb, Lib.hid rfl, ?_, ?_⟩
  · rw [Nat.mul_comm]; exact hc
  · rw [Nat.mul_comm, Nat.add_assoc]; exact h2
theorem rlist_eq_getD {l m : List R} {n : Nat} (h1 : l.length = n) (h2 : m.length = n) (h : ∀ j, j < n → l.getD j (0,0) = m.getD j (0,0)) : l = m := by
  apply List.ext_getElem (by omega)
  intro i hi hi'
  have := h i (by omega)
  simpa [List.getD, hi, hi'] using this
theorem rgetD_ne {l m : List R} {k : Nat} (h : l.getD k (0,0) ≠ m.getD k (0,0)) : (l == m) = false := by
  rw [beq_eq_false_iff_ne]
  rintro rfl
  exact h rfl
def eqRs (l m : List R) : Bool := l == m
theorem eqRs_self (l : List R) : eqRs l l = true := by simp [eqRs]
theorem eqRs_iff {l m : List R} : eqRs l m = true ↔ l = m := by simp [eqRs]
theorem eqRangeS_any (l m : List R) (n n' : Nat) (A A' : Option Addr) (c c' : Nat) (w : World) (B : Nat) (hB : B ≤ w.heap.size) (hr : Rd w B A (encR l)) (hs : Rd w B A' (encR m)) (hm : n ≤ 9223372036854775807) (hm' : n' ≤ 9223372036854775807) (hl : l.length = n) (hlm : m.length = n') :
    Calls Try.prog 27 #[.slice A n c, .slice A' n' c'] w fun e w' => e = .returned (.bool (eqRs l m)) ∧ Below w.heap.size w w' := by
  have HL := Lib.hid hl; clear hl
  have HM := Lib.hid hlm; clear hlm
  by_cases hnn : n = n'
  · subst hnn
    go_enter Try.func27, Try.ntmps27
    go_wp2
    go_loopw [5] (fun i wr => ∃ k : Nat, k ≤ n ∧ i = .int .i64 k ∧ (∀ j, j < k → l.getD j (0,0) = m.getD j (0,0)) ∧ Below w.heap.size w wr) (fun i _ => n - (intOf i).toNat)
    case atStart => exact ⟨0, Nat.zero_le _, rfl, fun j hj => by omega, Below.refl _ _⟩
    case round =>
      obtain ⟨k, hk, rfl, he, hbw⟩ := hrel
      have HE := Lib.hid he; clear he
      by_cases hlt : k < n
      · obtain ⟨b, off, x, y, rfl, hb, HX, c0, c1⟩ := (hr.below hbw hB).rng (k := k) (by rw [HL.out]; exact hlt)
        obtain ⟨b', off', x', y', rfl, hb', HX', d0, d1⟩ := (hs.below hbw hB).rng (k := k) (by rw [HM.out]; exact hlt)
        have k0 := cell_regrown c0
        have k1 := cell_regrown c1
        have e0 := cell_regrown d0
        have e1 := cell_regrown d1
        go_wp2
        refine wp_region_quiet_below (by kernel_rfl) (by kernel_rfl) ?_
        repeat (go_big_quiet_step ((go_at_call 45; exact Calls.regrown_of (eqRange_any _ _ _ _ _))))
        refine wpQuiet_nil ?_
        intro _ hw'
        obtain ⟨⟨dq, osq⟩, hw''⟩ := hw'
        subst hw''
        have hb2 := below_next hbw hbw.size (below_regrown wr dq osq)
        generalize grow (redrawn wr dq) osq = w2 at hb2 ⊢
        clear k0 k1 e0 e1 c0 c1 d0 d1 hbw
        cases hq : eqRb x y x' y'
        · go_wp2
          go_ret
          exact ⟨ret_bool (rgetD_ne (by rw [HX.out, HX'.out]; exact eqRb_false hq)).symm, hb2⟩
        · go_wp2
          go_roundw
          case rel => exact ⟨k + 1, by omega, by go_num, fun j hj => by
            by_cases hj' : j < k
            · exact HE.out j hj'
            · obtain rfl : j = k := by omega
              rw [HX.out, HX'.out]; exact eqRb_true hq, hb2⟩
          case measure => simp [intOf]; omega
      · go_wp2
        go_ret
        exact ⟨ret_bool (by rw [rlist_eq_getD HL.out HM.out (fun j hj => HE.out j (by omega)), eqRs_self]), hbw⟩
  · have hnb : ((n : Int) != (n' : Int)) = true := by rw [bne_iff_ne]; omega
    go_enter Try.func27, Try.ntmps27
    go_wp2
    go_ret
    exact ⟨ret_bool (by symm; rw [Bool.eq_false_iff, ne_eq, eqRs_iff]; rintro rfl; exact hnn (HL.out.symm.trans HM.out)), Below.refl _ _⟩
/-- The numbers that the marking writes. -/
def mk (k0 : Int) (n : Nat) : List R := (List.range n).map fun (i : Nat) => (k0 + 2 * (i : Int), k0 + 2 * (i : Int) + 1)
theorem mk_len (k0 : Int) (n : Nat) : (mk k0 n).length = n := by simp [mk]
theorem mk_get (k0 : Int) (n k : Nat) (h : k < n) : (mk k0 n).getD k (0, 0) = (k0 + 2 * (k : Int), k0 + 2 * (k : Int) + 1) := by simp [mk, h]
theorem grown_refl (w : World) (row : Option Nat) : w.grownBy w row := ⟨rfl, rfl, rfl, Nat.le_refl _, fun _ _ _ => rfl⟩
theorem markRangeS_any {A : Option Addr} {c n base : Nat} {w : World} {l : List R} (k0 : Int) (hown : w.ownsRow base 57 2 (.slice A n c) n (encR l)) (hk0 : 0 ≤ k0) (hk1 : k0 ≤ 1152921504606846976) (hm : n ≤ 1152921504606846976) :
    Calls Try.prog 29 #[.slice A n c, .int .i64 k0] w fun e w' => e = .returned (.int .i64 (k0 + 2 * n)) ∧ w'.ownsRow base 57 2 (.slice A n c) n (encR (mk k0 n)) ∧ w.grownBy w' (Value.slice A n c).ownBlock := by
  rcases hown.2 with ⟨hv, hn⟩ | ⟨g, cap, cur, hv, hbg, hg, hnc, hcm, hcs, _⟩
  · injection hv with e1 e2 e3
    subst hn e1 e3
    have hownn := World.ownsRow_nil w base 57 2
    clear hown
    go_enter Try.func29, Try.ntmps29
    go_wp2
    go_loop [1, 5] (fun s i => s = .int .i64 k0 ∧ i = .int .i64 0) (fun _ _ => 0)
    case atStart => exact ⟨rfl, rfl⟩
    case round =>
      obtain ⟨rfl, rfl⟩ := hrel
      go_wp2
      go_ret
      exact ⟨ret_int (by simp), hownn, grown_refl _ _⟩
  · injection hv with e1 e2 e3
    subst e1 e3
    clear hown
    have HCS0 := Lib.hid hcs; clear hcs
    have HG := Lib.hid (show Bk w g 57 cur from hg); clear hg
    go_enter Try.func29, Try.ntmps29
    go_wp2
    go_loopw [1, 5] (fun s i wr => ∃ (k : Nat) (cs : Array Value), k ≤ n ∧ i = .int .i64 k ∧ s = .int .i64 (k0 + 2 * (k : Int)) ∧ Bk wr g 57 cs ∧ cs.size = c * 2 ∧ Hd cs (k * 2) (encR (mk k0 n)) ∧ w.grownBy wr (some g)) (fun s i _ => n - (intOf i).toNat)
    case atStart => exact ⟨0, cur, Nat.zero_le _, rfl, by simp, HG.out, HCS0.out, fun j hj => by omega, grown_refl _ _⟩
    case round =>
      obtain ⟨k, cs, hk, rfl, rfl, hbk, hcs, hh, hgr⟩ := hrel
      have HBK := Lib.hid hbk; clear hbk
      have HCS := Lib.hid hcs; clear hcs
      have HH := Lib.hid hh; clear hh
      by_cases hlt : k < n
      · have hg1 : k * 2 + 1 < cs.size := by rw [HCS.out]; omega
        have hlo := encR_lo (mk k0 n) k (by rw [mk_len]; exact hlt)
        have hhi := encR_hi (mk k0 n) k (by rw [mk_len]; exact hlt)
        rw [mk_get _ _ _ hlt] at hlo hhi
        have HLO := Lib.hid hlo; clear hlo
        have HHI := Lib.hid hhi; clear hhi
        have d0 : wr.cell? ⟨g, k * 2, none⟩ = some (cs[k * 2]'(by omega)) := by rw [HBK.out.cell, Array.getElem?_eq_getElem]
        have d1 : wr.cell? ⟨g, k * 2 + 1, none⟩ = some (cs[k * 2 + 1]) := by rw [HBK.out.cell, Array.getElem?_eq_getElem]
        have f0 := HBK.out.frozen (k * 2)
        have f1 := HBK.out.frozen (k * 2 + 1)
        generalize cs[k * 2]'(by omega) = o0 at d0
        generalize cs[k * 2 + 1] = o1 at d1
        have HBK3 := Lib.hid ((HBK.out.set_ (k * 2) (.int .i64 (k0 + 2 * (k : Int)))).set_ (k * 2 + 1) (.int .i64 (k0 + 2 * (k : Int) + 1)))
        have hgr3 := only_setCell (only_setCell hgr (k * 2) (.int .i64 (k0 + 2 * (k : Int)))) (k * 2 + 1) (.int .i64 (k0 + 2 * (k : Int) + 1))
        go_wp2
        go_roundw
        case rel => exact ⟨k + 1, _, by omega, by go_num, by go_num, HBK3.out, by simp [HCS.out], by
          have := HH.out.set2 (u := .int .i64 (k0 + 2 * (k : Int))) (v := .int .i64 (k0 + 2 * (k : Int) + 1)) hg1 (by rw [Nat.mul_comm]; exact HLO.out) (by rw [Nat.mul_comm]; exact HHI.out)
          rw [Nat.add_mul]; exact this, hgr3⟩
        case measure => simp [intOf]; omega
      · go_wp2
        go_ret
        obtain rfl : k = n := by omega
        exact ⟨rfl, Hd.own HBK.out HH.out (by rw [encR_len, mk_len, Nat.mul_comm]) HCS.out hnc hcm hbg, hgr⟩
theorem heldRangeS_any {A : Option Addr} {c n B : Nat} {w : World} (k0 : Int) (hr : Rd w B A (encR (mk k0 n))) (hk0 : 0 ≤ k0) (hk1 : k0 ≤ 1152921504606846976) (hm : n ≤ 1152921504606846976) :
    Calls Try.prog 30 #[.slice A n c, .int .i64 k0] w fun e w' => e = .returned (.int .i64 (k0 + 2 * n)) ∧ w = w' := by
  go_enter Try.func30, Try.ntmps30
  go_wp2
  go_loop [1, 5] (fun s i => ∃ (k : Nat), k ≤ n ∧ i = .int .i64 k ∧ s = .int .i64 (k0 + 2 * (k : Int))) (fun s i => n - (intOf i).toNat)
  case atStart => exact ⟨0, Nat.zero_le _, rfl, by simp⟩
  case round =>
    obtain ⟨k, hk, rfl, rfl⟩ := hrel
    by_cases hlt : k < n
    · obtain ⟨b, off, x, y, rfl, hb, HX, c0, c1⟩ := hr.rng (k := k) (by rw [mk_len]; exact hlt)
      have hxy := HX.out
      rw [mk_get _ _ _ hlt] at hxy
      injection hxy with e1 e2
      subst e1 e2
      go_wp2
      go_round
      case rel => exact ⟨k + 1, by omega, by go_num, by go_num⟩
      case measure => simp [intOf]; omega
    · go_wp2
      go_ret
      obtain rfl : k = n := by omega
      exact ⟨rfl, rfl⟩
theorem own_far {w w' : World} {base : Nat} {e : TypeId} {size n : Nat} {v : Value} {xs : List Value} {row : Option Nat} (h : w.ownsRow base e size v n xs) (hg : w.grownBy w' row) (hr : ∀ k, row = some k → k < base) : w'.ownsRow base e size v n xs :=
  h.kept hg (by
    cases hv : v.ownBlock with
    | none => exact .inl rfl
    | some g => exact .inr (fun e => by have := hr g e.symm; have := (h.lt g hv).1; omega))
theorem own_other {w w' : World} {base : Nat} {e : TypeId} {size n : Nat} {v : Value} {xs : List Value} {row : Option Nat} (h : w.ownsRow base e size v n xs) (hg : w.grownBy w' row) (hr : ∀ k, row = some k → v.ownBlock ≠ some k) : w'.ownsRow base e size v n xs :=
  h.kept hg (by
    cases hv : v.ownBlock with
    | none => exact .inl rfl
    | some g => exact .inr (fun e => hr g e.symm hv))
theorem below_only {a w w' : World} {B : Nat} {row : Option Nat} (h : Below B a w) (hg : w.grownBy w' row) (hB : B ≤ w.heap.size) (hr : ∀ k, row = some k → B ≤ k) : Below B a w' := h.grown hg hB hr
end Go.Proofs.Ytgccodnemcofdaa
