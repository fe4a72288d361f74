/- Slices of frames: cells; eqFrameS, szFrameS, toFrameS. No conditions. -/
import Derived.Test.YtgeicojnjagboaaF6
namespace Go.Proofs.Ytgeicojnjagboaa
open Go.ChangeShapes Go.WideShapes Go.ChangeAt Go.RowKit Go.Sort QM
set_option linter.unusedVariables false
set_option linter.unusedSimpArgs false
/-- A frame, as its fields. -/
structure Fr where
  a : Int
  b : Int
  c : Int
  d : ByteArray
  e : Bool
  g : Int
  l : Int
  m : Int
  u : Bool
def fr0 : Fr := ⟨0, 0, 0, ⟨#[]⟩, false, 0, 0, 0, false⟩
def frC (f : Fr) : List Value := [.int .i64 f.a, .int .i64 f.b, .int .i64 f.c, .string f.d, .bool f.e, .int .i64 f.g, .int .i64 f.l, .int .i64 f.m, .bool f.u]
def encF9 (l : List Fr) : List Value := l.flatMap frC
theorem encF9_len (l : List Fr) : (encF9 l).length = 9 * l.length := by
  induction l with
  | nil => rfl
  | cons r l ih => show (frC r ++ encF9 l).length = _; rw [List.length_append, ih]; simp [frC]; omega
theorem encF9_at (l : List Fr) : ∀ k i, k < l.length → i < 9 → (encF9 l)[9 * k + i]? = (frC (l.getD k fr0))[i]? := by
  induction l with
  | nil => intro k i h; simp at h
  | cons r l ih =>
    intro k i h hi
    have hl : (frC r).length = 9 := rfl
    cases k with
    | zero => show (frC r ++ encF9 l)[9 * 0 + i]? = _; rw [List.getElem?_append_left (by omega)]; simp
    | succ k =>
      show (frC r ++ encF9 l)[9 * (k + 1) + i]? = _
      rw [List.getElem?_append_right (by omega), hl]
      have := ih k i (by simpa using h) hi
      rw [show 9 * (k + 1) + i - 9 = 9 * k + i by omega]
      simpa using this
theorem Rd.frm {w : World} {B : Nat} {A : Option Addr} {l : List Fr} (h : Rd w B A (encF9 l)) {k : Nat} (hk : k < l.length) :
    ∃ b off f, A = some ⟨b, off, none⟩ ∧ b < B ∧ Hid (l.getD k fr0 = f) ∧ w.cell? ⟨b, off + k * 9, none⟩ = some (.int .i64 f.a) ∧ w.cell? ⟨b, off + k * 9 + 1, none⟩ = some (.int .i64 f.b) ∧ w.cell? ⟨b, off + k * 9 + 2, none⟩ = some (.int .i64 f.c) ∧ w.cell? ⟨b, off + k * 9 + 3, none⟩ = some (.string f.d) ∧ w.cell? ⟨b, off + k * 9 + 4, none⟩ = some (.bool f.e) ∧ w.cell? ⟨b, off + k * 9 + 5, none⟩ = some (.int .i64 f.g) ∧ w.cell? ⟨b, off + k * 9 + 6, none⟩ = some (.int .i64 f.l) ∧ w.cell? ⟨b, off + k * 9 + 7, none⟩ = some (.int .i64 f.m) ∧ w.cell? ⟨b, off + k * 9 + 8, none⟩ = some (.bool f.u) := by
  obtain ⟨b, off, e, hb, hc⟩ := h _ _ ((encF9_at l k 0 hk (by decide)).trans rfl)
  have key : ∀ i u, i < 9 → (frC (l.getD k fr0))[i]? = some u → w.cell? ⟨b, off + k * 9 + i, none⟩ = some u := by
    intro i u hi hu
    have := h.cell e ((encF9_at l k i hk hi).trans hu)
    rw [show off + k * 9 + i = off + (9 * k + i) by omega]; exact this
  refine ⟨b, off, l.getD k fr0, e, hb, Lib.hid rfl, key 0 _ (by decide) rfl, key 1 _ (by decide) rfl, key 2 _ (by decide) rfl, key 3 _ (by decide) rfl, key 4 _ (by decide) rfl, key 5 _ (by decide) rfl, key 6 _ (by decide) rfl, key 7 _ (by decide) rfl, key 8 _ (by decide) rfl⟩
set_option maxHeartbeats 1000000 in
theorem eqFrame_self (f : Fr) (w : World) : Calls Try.prog 11 #[.agg #[.int .i64 f.a, .int .i64 f.b, .int .i64 f.c, .string f.d, .bool f.e, .int .i64 f.g, .int .i64 f.l, .int .i64 f.m, .bool f.u], .agg #[.int .i64 f.a, .int .i64 f.b, .int .i64 f.c, .string f.d, .bool f.e, .int .i64 f.g, .int .i64 f.l, .int .i64 f.m, .bool f.u]] w fun e w' => e = .returned (.bool true) ∧ Below w.heap.size w w' := by
  obtain ⟨a, b, c, d, e, g, l, m, u⟩ := f
  go_enter Try.func11, Try.ntmps11
  go_wp2
  go_ret
  exact ⟨rfl, ((Below.refl _ _).alloc (Nat.le_refl _) _).alloc (by simp) _⟩
set_option maxHeartbeats 1000000 in
theorem eqFrameS_self {A A' : Option Addr} {c c' n : Nat} {w : World} {B : Nat} {l : List Fr} (hB : B ≤ w.heap.size) (hr : Rd w B A (encF9 l)) (hr' : Rd w B A' (encF9 l)) (hm : n ≤ 9223372036854775807) (HL : Hid (l.length = n)) :
    Calls Try.prog 14 #[.slice A n c, .slice A' n c'] w fun e w' => e = .returned (.bool true) ∧ Below w.heap.size w w' := by
  go_enter Try.func14, Try.ntmps14
  go_wp2
  go_loopw [5] (fun i wr => ∃ k : Nat, k ≤ n ∧ i = .int .i64 k ∧ Below w.heap.size w wr) (fun i _ => n - (intOf i).toNat)
  case atStart => exact ⟨0, Nat.zero_le _, rfl, Below.refl _ _⟩
  case round =>
    obtain ⟨k, hk, rfl, hbw⟩ := hrel
    by_cases hlt : k < n
    · obtain ⟨b, off, f, rfl, hb, HX, c0, c1, c2, c3, c4, c5, c6, c7, c8⟩ := (hr.below hbw hB).frm (k := k) (by rw [HL.out]; exact hlt)
      obtain ⟨b', off', f', rfl, hb', HX', d0, d1, d2, d3, d4, d5, d6, d7, d8⟩ := (hr'.below hbw hB).frm (k := k) (by rw [HL.out]; exact hlt)
      obtain rfl : f' = f := HX'.out.symm.trans HX.out
      have k0 := cell_regrown c0
      have e0 := cell_regrown d0
      have k1 := cell_regrown c1
      have e1 := cell_regrown d1
      have k2 := cell_regrown c2
      have e2 := cell_regrown d2
      have k3 := cell_regrown c3
      have e3 := cell_regrown d3
      have k4 := cell_regrown c4
      have e4 := cell_regrown d4
      have k5 := cell_regrown c5
      have e5 := cell_regrown d5
      have k6 := cell_regrown c6
      have e6 := cell_regrown d6
      have k7 := cell_regrown c7
      have e7 := cell_regrown d7
      have k8 := cell_regrown c8
      have e8 := cell_regrown d8
      go_wp2
      refine wp_region_quiet_below (by kernel_rfl) (by kernel_rfl) ?_
      repeat (go_big_quiet_step ((go_at_call 11; exact Calls.regrown_of (eqFrame_self f' _))))
      refine wpQuiet_nil ?_
      intro _ hw'
      obtain ⟨⟨dq, osq⟩, hw''⟩ := hw'
      subst hw''
      have hb2 := below_next hbw hbw.size (below_regrown wr dq osq)
      generalize grow (redrawn wr dq) osq = w2 at hb2 ⊢
      clear k0 e0 c0 d0 k1 e1 c1 d1 k2 e2 c2 d2 k3 e3 c3 d3 k4 e4 c4 d4 k5 e5 c5 d5 k6 e6 c6 d6 k7 e7 c7 d7 k8 e8 c8 d8 hbw
      go_wp2
      go_roundw
      case rel => exact ⟨k + 1, by omega, by go_num, hb2⟩
      case measure => simp [intOf]; omega
    · go_wp2
      go_ret
      exact ⟨rfl, hbw⟩
def totF (l : List Fr) (k : Nat) : Nat := ((l.take k).map fun f => f.d.size).sum
theorem totF_zero (l : List Fr) : totF l 0 = 0 := by simp [totF]
theorem totF_succ (l : List Fr) (k : Nat) (h : k < l.length) : totF l (k + 1) = totF l k + (l.getD k fr0).d.size := by
  unfold totF
  rw [List.take_succ_eq_append_getElem h]
  simp only [List.map_append, List.map_cons, List.map_nil, List.sum_append, List.sum_cons, List.sum_nil, Nat.add_zero]
  rw [List.getD_eq_getElem?_getD, List.getElem?_eq_getElem h, Option.getD_some]
theorem totF_mono (l : List Fr) {i j : Nat} (h : i ≤ j) (hj : j ≤ l.length) : totF l i ≤ totF l j := by
  obtain ⟨d, rfl⟩ := Nat.le.dest h
  clear h
  induction d with
  | zero => exact Nat.le_refl _
  | succ d ih =>
    have := ih (by omega)
    rw [← Nat.add_assoc, totF_succ l (i + d) (by omega)]
    omega
def SmallF (l : List Fr) (r : Int) : Prop := 0 ≤ r ∧ r + l.length + totF l l.length = 1048576
theorem SmallF.data {l : List Fr} {r : Int} (h : SmallF l r) (k : Nat) (hk : k < l.length) : (l.getD k fr0).d.size ≤ 1048576 := by
  obtain ⟨h1, h2⟩ := h
  have a := totF_succ l k hk
  have b := totF_mono l (i := k + 1) (j := l.length) hk (Nat.le_refl _)
  omega
end Go.Proofs.Ytgeicojnjagboaa
