/- What the laws draw from a code: the cursor. No conditions. -/
import Derived.Test.YthhdjajjckcikaaDoorB1
import Derived.Laws.BitsLemmas
namespace Go.Proofs.YthhdjajjckcikaaDoor
open Go.ChangeShapes Go.WideShapes Go.ChangeAt Go.RowKit Go.Sort
set_option linter.unusedVariables false
set_option linter.unusedSimpArgs false
theorem grown_refl (w : World) (row : Option Nat) : w.grownBy w row := ⟨rfl, rfl, rfl, Nat.le_refl _, fun _ _ _ => rfl⟩
theorem and255 (x : Int) : 0 ≤ bits .and .i64 x 255 ∧ bits .and .i64 x 255 ≤ 255 := by
  have h : (BitVec.ofInt 64 x &&& BitVec.ofInt 64 255).toNat ≤ 255 := by
    rw [BitVec.toNat_and]; exact Nat.and_le_right
  show 0 ≤ IntKind.i64.wrap (((BitVec.ofInt 64 x &&& BitVec.ofInt 64 255).toNat : Nat) : Int) ∧ IntKind.i64.wrap (((BitVec.ofInt 64 x &&& BitVec.ofInt 64 255).toNat : Nat) : Int) ≤ 255
  rw [IntKind.wrap_i64]
  omega
def cby (l : List Int) : List Value := l.map fun x => .int .u8 x
theorem cby_len (l : List Int) : (cby l).length = l.length := by simp [cby]
theorem cby_get (l : List Int) (k : Nat) (h : k < l.length) : (cby l)[k]? = some (.int .u8 (l.getD k 0)) := by
  simp [cby, List.getElem?_eq_getElem h, List.getD_eq_getElem?_getD]
theorem Rd.byte {w : World} {B : Nat} {A : Option Addr} {l : List Int} (h : Rd w B A (cby l)) {k : Nat} (hk : k < l.length) : ∃ b off x, A = some ⟨b, off, none⟩ ∧ b < B ∧ w.cell? ⟨b, off + k, none⟩ = some (.int .u8 x) := by
  obtain ⟨b, off, e, hb, hc⟩ := h k _ (cby_get l k hk)
  exact ⟨b, off, _, e, hb, hc⟩
/-- Block g holds a cursor over a code. -/
def Cur (w : World) (g : Nat) : Prop := ∃ (A : Option Addr) (c n : Nat) (l : List Int) (i : Nat) (h : Int), Bk w g 50 #[.slice A n c, .int .i64 i, .int .i64 h] ∧ Rd w g A (cby l) ∧ l.length = n ∧ n ≤ 1048576 ∧ i ≤ n
theorem Cur.lt {w : World} {g : Nat} (h : Cur w g) : g < w.heap.size := by
  obtain ⟨A, c, n, l, i, h, hk, _⟩ := h; exact hk.lt
theorem Cur.below {w w' : World} {g B : Nat} (h : Cur w g) (hb : Below B w w') (hg : g < B) : Cur w' g := by
  obtain ⟨A, c, n, l, i, h, hk, hr, e⟩ := h
  exact ⟨A, c, n, l, i, h, hk.below hb hg, hr.below hb (by omega), e⟩
/-- A number is drawn; block g alone was written. -/
def DrawI (w : World) (g : Nat) (P : Int → Prop) (e : Ending) (w' : World) : Prop := (∃ x : Int, P x ∧ e = .returned (.int .i64 x)) ∧ Cur w' g ∧ w.grownBy w' (some g)
theorem grown_trans {a b c : World} {row : Option Nat} (h : a.grownBy b row) (k : b.grownBy c row) : a.grownBy c row :=
  ⟨k.os.trans h.os, k.tape.trans h.tape, k.output.trans h.output, Nat.le_trans h.size k.size, fun i hi hne => (k.block i (Nat.lt_of_lt_of_le hi h.size) hne).trans (h.block i hi hne)⟩
theorem grown_drew {a b : World} {row : Option Nat} (h : a.grownBy b row) : a.grownBy b.drew row := ⟨h.os, h.tape, h.output, h.size, h.block⟩
theorem grown_drewN {a b : World} {row : Option Nat} (h : a.grownBy b row) (n : Nat) : a.grownBy (b.drewN n) row := ⟨h.os, h.tape, h.output, h.size, h.block⟩
theorem Bk.three {w : World} {g : Nat} {T : TypeId} {x y z : Value} (h : Bk w g T #[x, y, z]) : w.cell? ⟨g, 0, none⟩ = some x ∧ w.cell? ⟨g, 1, none⟩ = some y ∧ w.cell? ⟨g, 2, none⟩ = some z := ⟨h.cell 0, h.cell 1, h.cell 2⟩
set_option maxHeartbeats 1000000 in
theorem l1Byte_any {w : World} {g : Nat} (hc : Cur w g) : Calls Tryd.prog 28 #[.pointer (some ⟨g, 0, none⟩)] w (DrawI w g fun x => 0 ≤ x ∧ x ≤ 255) := by
  obtain ⟨A, c, n, l, i, h, hk, hr, hl, hn, hi⟩ := hc
  obtain ⟨c0, c1, c2⟩ := hk.three
  have f0 := hk.frozen
  go_enter Tryd.func28, Tryd.ntmps28
  go_wp2_with fail
  have hk1 := hk.set_ 2 (.int .i64 (wrap64 (wrap64 (h * 6364136223846793005) + 1442695040888963407)))
  have hg1 : w.grownBy (w.setCell ⟨g, 2, none⟩ (.int .i64 (wrap64 (wrap64 (h * 6364136223846793005) + 1442695040888963407)))) (some g) := only_setCell (grown_refl _ _) 2 _
  have hr1 := hr.below (below_of_only hg1 (Nat.le_of_lt hk.lt) (Nat.le_refl _)) (Nat.le_refl _)
  generalize wrap64 (wrap64 (h * 6364136223846793005) + 1442695040888963407) = h' at hk1 hg1 hr1 ⊢
  generalize w.setCell ⟨g, 2, none⟩ (.int .i64 h') = w1 at hk1 hg1 hr1 ⊢
  clear c0 c1 c2 f0 hk hr
  have hk1 : Bk w1 g 50 #[.slice A n c, .int .i64 i, .int .i64 h'] := hk1
  obtain ⟨c0, c1, c2⟩ := hk1.three
  have f0 := hk1.frozen
  go_quiet (fail)
  go_wp2_with fail
  have hx := and255 (bits .xor .i64 (h' / 8589934592) (h' / 35184372088832))
  generalize bits .and .i64 (bits .xor .i64 (h' / 8589934592) (h' / 35184372088832)) 255 = x at hx ⊢
  obtain ⟨hx0, hx1⟩ := hx
  by_cases hlt : i < n
  · obtain ⟨b, off, y, rfl, hb, d0⟩ := hr1.byte (k := i) (by omega)
    have hi0 : (0 : Int) ≤ (i : Int) := by omega
    have hi1 : (i : Int) < (n : Int) := by omega
    go_quiet (fail)
    go_wp2_with fail
    go_quiet (fail)
    go_wp2_with fail
    have hy := and255 (wrap64 (x + wrap64 y))
    generalize bits .and .i64 (wrap64 (x + wrap64 y)) 255 = z at hy ⊢
    go_ret
    refine ⟨⟨z, hy, rfl⟩, ⟨_, c, n, l, i + 1, h', (show Bk (w1.drewN _) g _ _ from hk1).set_ 1 (.int .i64 ((i + 1 : Nat) : Int)), ?_, hl, hn, by omega⟩, only_setCell (grown_drewN hg1 _) _ _⟩
    exact hr1.below (below_of_only (only_setCell (grown_drewN (grown_refl w1 _) _) 1 _) (Nat.le_of_lt hk1.lt) (Nat.le_refl _)) (Nat.le_refl _)
  · have hd : decide ((i : Int) < (n : Int)) = false := by simp; omega
    go_quiet (fail)
    go_wp2_with fail
    go_ret
    exact ⟨⟨x, ⟨hx0, hx1⟩, rfl⟩, ⟨A, c, n, l, i, h', hk1, hr1, hl, hn, hi⟩, grown_drewN (grown_drewN hg1 _) _⟩
set_option maxHeartbeats 1000000 in
theorem l1Below_any {w : World} {g : Nat} (n : Nat) (h0 : 0 < n) (h1 : n ≤ 256) (hc : Cur w g) : Calls Tryd.prog 22 #[.pointer (some ⟨g, 0, none⟩), .int .i64 n] w (DrawI w g fun x => 0 ≤ x ∧ x < n) := by
  have hd0 : decide ((n : Int) ≤ 0) = false := by simp; omega
  have hd1 : decide ((n : Int) ≤ 256) = true := by simp; omega
  have hz : ((n : Int) == 0) = false := by simp; omega
  go_enter Tryd.func22, Tryd.ntmps22
  go_wp2_with fail
  refine (l1Byte_any hc).mono ?_
  rintro e w1 ⟨⟨x, ⟨hx0, hx1⟩, rfl⟩, hc1, hg1⟩
  go_wp2
  go_ret
  exact ⟨⟨_, ⟨Int.emod_nonneg _ (by omega), Int.emod_lt_of_pos _ (by omega)⟩, rfl⟩, hc1, hg1⟩
set_option maxHeartbeats 1000000 in
theorem l1Below_big {w : World} {g : Nat} (n : Nat) (h0 : 256 < n) (h1 : n ≤ 4611686018427387904) (hc : Cur w g) : Calls Tryd.prog 22 #[.pointer (some ⟨g, 0, none⟩), .int .i64 n] w (DrawI w g fun x => 0 ≤ x ∧ x < n) := by
  have hd0 : decide ((n : Int) ≤ 0) = false := by simp; omega
  have hd1 : decide ((n : Int) ≤ 256) = false := by simp; omega
  have hz : ((n : Int) == 0) = false := by simp; omega
  go_enter Tryd.func22, Tryd.ntmps22
  go_wp2_with fail
  refine (l1Byte_any hc).mono ?_
  rintro e w1 ⟨⟨x, ⟨hx0, hx1⟩, rfl⟩, hc1, hg1⟩
  go_wp2_with fail
  refine (l1Byte_any hc1).mono ?_
  rintro e w2 ⟨⟨y, ⟨hy0, hy1⟩, rfl⟩, hc2, hg2⟩
  go_wp2_with fail
  refine (l1Byte_any hc2).mono ?_
  rintro e w3 ⟨⟨z, ⟨hz0, hz1⟩, rfl⟩, hc3, hg3⟩
  go_wp2_with fail
  refine (l1Byte_any hc3).mono ?_
  rintro e w4 ⟨⟨v, ⟨hv0, hv1⟩, rfl⟩, hc4, hg4⟩
  go_wp2
  go_ret
  exact ⟨⟨_, ⟨Int.emod_nonneg _ (by omega), Int.emod_lt_of_pos _ (by omega)⟩, rfl⟩, hc4, grown_trans (grown_trans (grown_trans hg1 hg2) hg3) hg4⟩
/-- A yes or no is drawn. -/
def DrawB (w : World) (g : Nat) (e : Ending) (w' : World) : Prop := (∃ b : Bool, e = .returned (.bool b)) ∧ Cur w' g ∧ w.grownBy w' (some g)
/-- A new cursor. -/
def NewC (w : World) (e : Ending) (w' : World) : Prop := ∃ g, e = .returned (.pointer (some ⟨g, 0, none⟩)) ∧ Cur w' g ∧ Below w.heap.size w w' ∧ w.heap.size ≤ g
set_option maxRecDepth 20000 in
set_option maxHeartbeats 1000000 in
theorem l1New_any {A : Option Addr} {c n : Nat} {w : World} {l : List Int} (hr : Rd w w.heap.size A (cby l)) (hm : n ≤ 1048576) (HL : Hid (l.length = n)) : Calls Tryd.prog 18 #[.slice A n c] w (NewC w) := by
  go_enter Tryd.func18, Tryd.ntmps18
  go_wp2_with fail
  go_loopw [3, 4] (fun h i wr => ∃ (k : Nat) (z : Int), k ≤ n ∧ i = .int .i64 k ∧ h = .int .i64 z ∧ Below w.heap.size w wr) (fun h i _ => n - (intOf i).toNat)
  case atStart => exact ⟨0, _, Nat.zero_le _, rfl, rfl, Below.refl _ _⟩
  case round =>
    obtain ⟨k, z, hk, rfl, rfl, hbw⟩ := hrel
    have fin : ∀ zz : Int, NewC w (.returned (.pointer (some ⟨wr.heap.size, 0, none⟩))) (wr.alloc (.cells #[.slice A n c, .int .i64 0, .int .i64 zz] 50)) := fun zz => by
      have al := (Below.refl wr.heap.size wr).alloc (Nat.le_refl _) (.cells #[.slice A n c, .int .i64 0, .int .i64 zz] 50)
      exact ⟨_, rfl, ⟨A, c, n, l, 0, zz, heap_alloc_new wr _, (((hr.below hbw (Nat.le_refl _)).more hbw.size).below al (Nat.le_refl _)), HL.out, hm, Nat.zero_le _⟩, below_next hbw hbw.size al, hbw.size⟩
    by_cases hlt : k < n
    · by_cases h4 : (k : Int) < 4000
      · have d4 : decide ((k : Int) < 4000) = true := by simp; omega
        have d4n : decide (k < 4000) = true := by simp; omega
        clear h4
        obtain ⟨b, off, x, rfl, hb, c0⟩ := (hr.below hbw (Nat.le_refl _)).byte (k := k) (by rw [HL.out]; exact hlt)
        clear fin
        go_wp2
        go_roundw
        case rel => exact ⟨k + 1, _, by omega, by go_num, rfl, hbw⟩
        case measure => simp [intOf]; omega
      · have d4 : decide ((k : Int) < 4000) = false := by simp; omega
        have d4n : decide (k < 4000) = false := by simp; omega
        clear h4
        go_wp2
        go_ret
        exact fin _
    · go_wp2
      go_ret
      exact fin _
end Go.Proofs.YthhdjajjckcikaaDoor
