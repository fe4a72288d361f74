/- What the law draws from a code: the cursor, small numbers, data. No conditions. -/
import Derived.Test.YtnndhkdigmkddaaI2
import Derived.Laws.BitsLemmas
import Derived.Deep.RegionWith
namespace Go.Proofs.Ytnndhkdigmkddaa
open Go.ChangeShapes Go.WideShapes Go.ChangeAt Go.RowKit Go.Sort
set_option linter.unusedVariables false
set_option linter.unusedSimpArgs false
def ints (l : List Int) : List Value := l.map (fun x => .int .i64 x)
theorem ints_len (l : List Int) : (ints l).length = l.length := by simp [ints]
theorem ints_get (l : List Int) (k : Nat) (h : k < l.length) : (ints l)[k]? = some (.int .i64 (l.getD k 0)) := by
  simp [ints, List.getElem?_eq_getElem h, List.getD_eq_getElem?_getD]
theorem Rd.int {w : World} {B : Nat} {A : Option Addr} {l : List Int} (h : Rd w B A (ints l)) {k : Nat} (hk : k < l.length) : ∃ b off x, A = some ⟨b, off, none⟩ ∧ b < B ∧ Hid (l.getD k 0 = x) ∧ w.cell? ⟨b, off + k, none⟩ = some (.int .i64 x) := by
  obtain ⟨b, off, e, hb, hc⟩ := h k _ (ints_get l k hk)
  exact ⟨b, off, _, e, hb, Lib.hid rfl, hc⟩
theorem and255 (x : Int) : 0 ≤ bits .and .i64 x 255 ∧ bits .and .i64 x 255 ≤ 255 := by
  have h : (BitVec.ofInt 64 x &&& BitVec.ofInt 64 255).toNat ≤ 255 := by
    rw [BitVec.toNat_and]; exact Nat.and_le_right
  show 0 ≤ IntKind.i64.wrap (((BitVec.ofInt 64 x &&& BitVec.ofInt 64 255).toNat : Nat) : Int) ∧ IntKind.i64.wrap (((BitVec.ofInt 64 x &&& BitVec.ofInt 64 255).toNat : Nat) : Int) ≤ 255
  rw [IntKind.wrap_i64]
  omega
def bys (l : List Int) : List Value := l.map fun x => .int .u8 x
theorem bys_len (l : List Int) : (bys l).length = l.length := by simp [bys]
theorem bys_get (l : List Int) (k : Nat) (h : k < l.length) : (bys l)[k]? = some (.int .u8 (l.getD k 0)) := by
  simp [bys, List.getElem?_eq_getElem h, List.getD_eq_getElem?_getD]
theorem Rd.byte {w : World} {B : Nat} {A : Option Addr} {l : List Int} (h : Rd w B A (bys l)) {k : Nat} (hk : k < l.length) : ∃ b off x, A = some ⟨b, off, none⟩ ∧ b < B ∧ w.cell? ⟨b, off + k, none⟩ = some (.int .u8 x) := by
  obtain ⟨b, off, e, hb, hc⟩ := h k _ (bys_get l k hk)
  exact ⟨b, off, _, e, hb, hc⟩
/-- Block g holds a cursor over a code. -/
def Cur (w : World) (g : Nat) : Prop := ∃ (A : Option Addr) (c n : Nat) (l : List Int) (i : Nat) (h : Int), Bk w g 78 #[.slice A n c, .int .i64 i, .int .i64 h] ∧ Rd w g A (bys l) ∧ l.length = n ∧ n ≤ 1048576 ∧ i ≤ n
theorem Cur.lt {w : World} {g : Nat} (h : Cur w g) : g < w.heap.size := by
  obtain ⟨A, c, n, l, i, h, hk, _⟩ := h; exact hk.lt
theorem Cur.below {w w' : World} {g B : Nat} (h : Cur w g) (hb : Below B w w') (hg : g < B) : Cur w' g := by
  obtain ⟨A, c, n, l, i, h, hk, hr, e⟩ := h
  exact ⟨A, c, n, l, i, h, hk.below hb hg, hr.below hb (by omega), e⟩
/-- A number is drawn; block g alone was written. -/
def DrawI (w : World) (g : Nat) (P : Int → Prop) (e : Ending) (w' : World) : Prop := (∃ x : Int, P x ∧ e = .returned (.int .i64 x)) ∧ Cur w' g ∧ w.grownBy w' (some g)
theorem grown_trans {a b c : World} {row : Option Nat} (h : a.grownBy b row) (k : b.grownBy c row) : a.grownBy c row :=
  ⟨k.os.trans h.os, k.tape.trans h.tape, k.output.trans h.output, Nat.le_trans h.size k.size, fun i hi hne => (k.block i (Nat.lt_of_lt_of_le hi h.size) hne).trans (h.block i hi hne)⟩
theorem grown_drew {a b : World} {row : Option Nat} (h : a.grownBy b row) : a.grownBy b.drew row := ⟨h.os, h.tape, h.output, h.size, h.block⟩
theorem grown_drewN {a b : World} {row : Option Nat} (h : a.grownBy b row) (n : Nat) : a.grownBy (b.drewN n) row := ⟨h.os, h.tape, h.output, h.size, h.block⟩
theorem Bk.three {w : World} {g : Nat} {T : TypeId} {x y z : Value} (h : Bk w g T #[x, y, z]) : w.cell? ⟨g, 0, none⟩ = some x ∧ w.cell? ⟨g, 1, none⟩ = some y ∧ w.cell? ⟨g, 2, none⟩ = some z := ⟨h.cell 0, h.cell 1, h.cell 2⟩
set_option maxHeartbeats 1000000 in
theorem l1Byte_any {w : World} {g : Nat} (hc : Cur w g) : Calls Try.prog 56 #[.pointer (some ⟨g, 0, none⟩)] w (DrawI w g fun x => 0 ≤ x ∧ x ≤ 255) := by
  obtain ⟨A, c, n, l, i, h, hk, hr, hl, hn, hi⟩ := hc
  obtain ⟨c0, c1, c2⟩ := hk.three
  have f0 := hk.frozen
  go_enter Try.func56, Try.ntmps56
  go_wp2_with fail
  have hk1 := hk.set_ 2 (.int .i64 (wrap64 (wrap64 (h * 6364136223846793005) + 1442695040888963407)))
  have hg1 : w.grownBy (w.setCell ⟨g, 2, none⟩ (.int .i64 (wrap64 (wrap64 (h * 6364136223846793005) + 1442695040888963407)))) (some g) := only_setCell (grown_refl _ _) 2 _
  have hr1 := hr.below (below_of_only hg1 (Nat.le_of_lt hk.lt) (Nat.le_refl _)) (Nat.le_refl _)
  generalize wrap64 (wrap64 (h * 6364136223846793005) + 1442695040888963407) = h' at hk1 hg1 hr1 ⊢
  generalize w.setCell ⟨g, 2, none⟩ (.int .i64 h') = w1 at hk1 hg1 hr1 ⊢
  clear c0 c1 c2 f0 hk hr
  have hk1 : Bk w1 g 78 #[.slice A n c, .int .i64 i, .int .i64 h'] := hk1
  obtain ⟨c0, c1, c2⟩ := hk1.three
  have f0 := hk1.frozen
  go_quiet (fail)
  go_wp2_with fail
  have hx := and255 (bits .xor .i64 (h' / 8589934592) (h' / 35184372088832))
  generalize bits .and .i64 (bits .xor .i64 (h' / 8589934592) (h' / 35184372088832)) 255 = x at hx ⊢
  obtain ⟨hx0, hx1⟩ := hx
  by_cases hlt : i < n
  · obtain ⟨b, off, y, rfl, hb, d0⟩ := hr1.byte (k := i) (by omega)
    have hi0 : (0 : Int) ≤ (i : Int) := by omega
    have hi1 : (i : Int) < (n : Int) := by omega
    go_quiet (fail)
    go_wp2_with fail
    go_quiet (fail)
    go_wp2_with fail
    have hy := and255 (wrap64 (x + wrap64 y))
    generalize bits .and .i64 (wrap64 (x + wrap64 y)) 255 = z at hy ⊢
    go_ret
    refine ⟨⟨z, hy, rfl⟩, ⟨_, c, n, l, i + 1, h', (show Bk (w1.drewN _) g _ _ from hk1).set_ 1 (.int .i64 ((i + 1 : Nat) : Int)), ?_, hl, hn, by omega⟩, only_setCell (grown_drewN hg1 _) _ _⟩
    exact hr1.below (below_of_only (only_setCell (grown_drewN (grown_refl w1 _) _) 1 _) (Nat.le_of_lt hk1.lt) (Nat.le_refl _)) (Nat.le_refl _)
  · have hd : decide ((i : Int) < (n : Int)) = false := by simp; omega
    go_quiet (fail)
    go_wp2_with fail
    go_ret
    exact ⟨⟨x, ⟨hx0, hx1⟩, rfl⟩, ⟨A, c, n, l, i, h', hk1, hr1, hl, hn, hi⟩, grown_drewN (grown_drewN hg1 _) _⟩
set_option maxHeartbeats 1000000 in
theorem l1Below_any {w : World} {g : Nat} (n : Nat) (h0 : 0 < n) (h1 : n ≤ 256) (hc : Cur w g) : Calls Try.prog 40 #[.pointer (some ⟨g, 0, none⟩), .int .i64 n] w (DrawI w g fun x => 0 ≤ x ∧ x < n) := by
  have hd0 : decide ((n : Int) ≤ 0) = false := by simp; omega
  have hd1 : decide ((n : Int) ≤ 256) = true := by simp; omega
  have hz : ((n : Int) == 0) = false := by simp; omega
  go_enter Try.func40, Try.ntmps40
  go_wp2_with fail
  refine (l1Byte_any hc).mono ?_
  rintro e w1 ⟨⟨x, ⟨hx0, hx1⟩, rfl⟩, hc1, hg1⟩
  go_wp2
  go_ret
  exact ⟨⟨_, ⟨Int.emod_nonneg _ (by omega), Int.emod_lt_of_pos _ (by omega)⟩, rfl⟩, hc1, hg1⟩
/-- A yes or no is drawn. -/
def DrawB (w : World) (g : Nat) (e : Ending) (w' : World) : Prop := (∃ b : Bool, e = .returned (.bool b)) ∧ Cur w' g ∧ w.grownBy w' (some g)
theorem l1Once_any {w : World} {g : Nat} (n : Nat) (h0 : 0 < n) (h1 : n ≤ 256) (hc : Cur w g) : Calls Try.prog 54 #[.pointer (some ⟨g, 0, none⟩), .int .i64 n] w (DrawB w g) := by
  go_enter Try.func54, Try.ntmps54
  go_wp2_with fail
  refine (l1Below_any n h0 h1 hc).mono ?_
  rintro e w1 ⟨⟨x, hx, rfl⟩, hc1, hg1⟩
  clear hx
  go_wp2_with fail
  go_ret
  exact ⟨⟨_, rfl⟩, hc1, hg1⟩
/-- A new cursor. -/
def NewC (w : World) (e : Ending) (w' : World) : Prop := ∃ g, e = .returned (.pointer (some ⟨g, 0, none⟩)) ∧ Cur w' g ∧ Below w.heap.size w w' ∧ w.heap.size ≤ g
set_option maxRecDepth 20000 in
set_option maxHeartbeats 1000000 in
theorem l1New_any {A : Option Addr} {c n : Nat} {w : World} {l : List Int} (hr : Rd w w.heap.size A (bys l)) (hm : n ≤ 1048576) (HL : Hid (l.length = n)) : Calls Try.prog 38 #[.slice A n c] w (NewC w) := by
  go_enter Try.func38, Try.ntmps38
  go_wp2_with fail
  go_loopw [3, 4] (fun h i wr => ∃ (k : Nat) (z : Int), k ≤ n ∧ i = .int .i64 k ∧ h = .int .i64 z ∧ Below w.heap.size w wr) (fun h i _ => n - (intOf i).toNat)
  case atStart => exact ⟨0, _, Nat.zero_le _, rfl, rfl, Below.refl _ _⟩
  case round =>
    obtain ⟨k, z, hk, rfl, rfl, hbw⟩ := hrel
    have fin : ∀ zz : Int, NewC w (.returned (.pointer (some ⟨wr.heap.size, 0, none⟩))) (wr.alloc (.cells #[.slice A n c, .int .i64 0, .int .i64 zz] 78)) := fun zz => by
      have al := (Below.refl wr.heap.size wr).alloc (Nat.le_refl _) (.cells #[.slice A n c, .int .i64 0, .int .i64 zz] 78)
      exact ⟨_, rfl, ⟨A, c, n, l, 0, zz, heap_alloc_new wr _, (((hr.below hbw (Nat.le_refl _)).more hbw.size).below al (Nat.le_refl _)), HL.out, hm, Nat.zero_le _⟩, below_next hbw hbw.size al, hbw.size⟩
    by_cases hlt : k < n
    · by_cases h4 : (k : Int) < 4000
      · have d4 : decide ((k : Int) < 4000) = true := by simp; omega
        have d4n : decide (k < 4000) = true := by simp; omega
        clear h4
        obtain ⟨b, off, x, rfl, hb, c0⟩ := (hr.below hbw (Nat.le_refl _)).byte (k := k) (by rw [HL.out]; exact hlt)
        clear fin
        go_wp2
        go_roundw
        case rel => exact ⟨k + 1, _, by omega, by go_num, rfl, hbw⟩
        case measure => simp [intOf]; omega
      · have d4 : decide ((k : Int) < 4000) = false := by simp; omega
        have d4n : decide (k < 4000) = false := by simp; omega
        clear h4
        go_wp2
        go_ret
        exact fin _
    · go_wp2
      go_ret
      exact fin _
theorem DrawI.weak {w : World} {g : Nat} {P Q : Int → Prop} {e : Ending} {w' : World} (h : DrawI w g P e w') (hpq : ∀ x, P x → Q x) : DrawI w g Q e w' := by
  obtain ⟨⟨x, hx, he⟩, r⟩ := h
  exact ⟨⟨x, hpq x hx, he⟩, r⟩
theorem Rd.grown {w w' : World} {B : Nat} {A : Option Addr} {xs : List Value} {g : Nat} (h : Rd w B A xs) (hg : w.grownBy w' (some g)) (hne : ∀ b o, A = some ⟨b, o, none⟩ → b ≠ g) : Rd w' B A xs := fun j u hu => by
  obtain ⟨b, off, e, hlt, hc⟩ := h j u hu
  exact ⟨b, off, e, hlt, hg.cell hc (fun e' => by injection e' with e'; exact hne b off e e')⟩
theorem lit_rd (w : World) (T : TypeId) (xs : List Value) : Rd (w.alloc (.cells xs.toArray T)) (w.heap.size + 1) (some ⟨w.heap.size, 0, none⟩) xs := fun j u hu =>
  ⟨w.heap.size, 0, rfl, Nat.lt_succ_self _, by rw [Nat.zero_add]; have hk : Bk (w.alloc (.cells xs.toArray T)) w.heap.size T xs.toArray := heap_alloc_new w _; exact (hk.cell j).trans (by simpa using hu)⟩
theorem l1PickInt_any {w : World} {g B : Nat} {A : Option Addr} {c n : Nat} {L : List Int} (hr : Rd w B A (ints L)) (hne : ∀ b o, A = some ⟨b, o, none⟩ → b ≠ g) (hl : L.length = n) (h0 : 0 < n) (h1 : n ≤ 256) (hc : Cur w g) :
    Calls Try.prog 55 #[.pointer (some ⟨g, 0, none⟩), .slice A n c] w (DrawI w g fun x => x ∈ L) := by
  go_enter Try.func55, Try.ntmps55
  go_wp2_with fail
  refine (l1Below_any n h0 h1 hc).mono ?_
  rintro e w1 ⟨⟨x, ⟨hx0, hx1⟩, rfl⟩, hc1, hg1⟩
  obtain ⟨k, rfl⟩ := Int.eq_ofNat_of_zero_le hx0
  have hk : k < n := by omega
  have hr1 := hr.grown hg1 hne
  obtain ⟨b, off, x, rfl, hb, HX, c0⟩ := hr1.int (k := k) (by rw [hl]; exact hk)
  have hmem : x ∈ L := by
    have := HX.out
    rw [List.getD_eq_getElem?_getD, List.getElem?_eq_getElem (by rw [hl]; exact hk), Option.getD_some] at this
    rw [← this]; exact List.getElem_mem _
  clear hr hr1 HX
  go_wp2
  go_ret
  exact ⟨⟨x, hmem, rfl⟩, hc1, hg1⟩
/-- Whatever is drawn from a code: a value with the property P; memory grows. -/
def Drawn (w : World) (P : Value → Prop) (e : Ending) (w' : World) : Prop := ∃ v, e = .returned v ∧ P v ∧ Below w.heap.size w w'
def strs (L : List ByteArray) : List Value := L.map Value.string
theorem strs_get (l : List ByteArray) (k : Nat) (h : k < l.length) : (strs l)[k]? = some (.string (l.getD k ⟨#[]⟩)) := by
  simp [strs, List.getElem?_eq_getElem h, List.getD_eq_getElem?_getD]
theorem Rd.str {w : World} {B : Nat} {A : Option Addr} {l : List ByteArray} (h : Rd w B A (strs l)) {k : Nat} (hk : k < l.length) : ∃ b off x, A = some ⟨b, off, none⟩ ∧ b < B ∧ Hid (l.getD k ⟨#[]⟩ = x) ∧ w.cell? ⟨b, off + k, none⟩ = some (.string x) := by
  obtain ⟨b, off, e, hb, hc⟩ := h k _ (strs_get l k hk)
  exact ⟨b, off, _, e, hb, Lib.hid rfl, hc⟩
/-- A text is drawn; block g alone was written. -/
def DrawT (w : World) (g : Nat) (P : ByteArray → Prop) (e : Ending) (w' : World) : Prop := (∃ s : ByteArray, P s ∧ e = .returned (.string s)) ∧ Cur w' g ∧ w.grownBy w' (some g)
theorem l1Pick_any {w : World} {g B : Nat} {A : Option Addr} {c n : Nat} {L : List ByteArray} (hr : Rd w B A (strs L)) (hne : ∀ b o, A = some ⟨b, o, none⟩ → b ≠ g) (hl : L.length = n) (h0 : 0 < n) (h1 : n ≤ 256) (hc : Cur w g) :
    Calls Try.prog 69 #[.pointer (some ⟨g, 0, none⟩), .slice A n c] w (DrawT w g fun x => x ∈ L) := by
  go_enter Try.func69, Try.ntmps69
  go_wp2_with fail
  refine (l1Below_any n h0 h1 hc).mono ?_
  rintro e w1 ⟨⟨x, ⟨hx0, hx1⟩, rfl⟩, hc1, hg1⟩
  obtain ⟨k, rfl⟩ := Int.eq_ofNat_of_zero_le hx0
  have hk : k < n := by omega
  have hr1 := hr.grown hg1 hne
  obtain ⟨b, off, x, rfl, hb, HX, c0⟩ := hr1.str (k := k) (by rw [hl]; exact hk)
  have hmem : x ∈ L := by
    have := HX.out
    rw [List.getD_eq_getElem?_getD, List.getElem?_eq_getElem (by rw [hl]; exact hk), Option.getD_some] at this
    rw [← this]; exact List.getElem_mem _
  clear hr hr1 HX
  go_wp2
  go_ret
  exact ⟨⟨x, hmem, rfl⟩, hc1, hg1⟩
theorem grown_below {a w w' : World} {row : Option Nat} (h : a.grownBy w row) (hb : Below w.heap.size w w') : a.grownBy w' row := grown_trans h (gb_of_below hb row)
theorem cur_step {w w' : World} {g : Nat} (h : Cur w g) (hb : Below w.heap.size w w') : Cur w' g := h.below hb h.lt
theorem below_of_grown {w w' : World} {row : Option Nat} {B : Nat} (h : w.grownBy w' row) (hB : B ≤ w.heap.size) (hr : ∀ k, row = some k → B ≤ k) : Below B w w' :=
  ⟨h.os, h.tape, h.output, h.size, fun k hk => h.block k (by omega) (fun e => by have := hr k e.symm; omega)⟩
def abcd : List ByteArray := [⟨#[97]⟩, ⟨#[98]⟩, ⟨#[99]⟩, ⟨#[100]⟩]
theorem abcd_size : ∀ u ∈ abcd, u.size = 1 := by decide
set_option maxRecDepth 20000 in
set_option maxHeartbeats 2000000 in
theorem l4Data_any {w : World} {g : Nat} (m : Nat) (hm : m ≤ 255) (hc : Cur w g) : Calls Try.prog 53 #[.pointer (some ⟨g, 0, none⟩), .int .i64 m] w (DrawT w g fun s => s.size ≤ m) := by
  go_enter Try.func53, Try.ntmps53
  go_wp2_with fail
  refine (l1Below_any (m + 1) (by omega) (by omega) hc).mono ?_
  rintro e w1 ⟨⟨x, ⟨hx0, hx1⟩, rfl⟩, hc1, hg1⟩
  obtain ⟨k0, rfl⟩ := Int.eq_ofNat_of_zero_le hx0
  go_wp2_with fail
  go_loopw [5, 6] (fun v i wr => ∃ (k : Nat) (s : ByteArray), i = .int .i64 k ∧ v = .string s ∧ s.size + k ≤ m ∧ Cur wr g ∧ w.grownBy wr (some g)) (fun v i _ => (intOf i).toNat)
  case atStart => exact ⟨k0, ⟨#[]⟩, rfl, rfl, by show 0 + k0 ≤ m; omega, hc1, hg1⟩
  case round =>
    obtain ⟨k, s, rfl, rfl, hsk, hcr, hgr⟩ := hrel
    clear hc1 hg1 hc
    by_cases h0 : 0 < k
    · have hd0 : decide ((0 : Int) < (k : Int)) = true := by simp; omega
      go_wp2_with fail
      have al := (Below.refl wr.heap.size wr).alloc (Nat.le_refl _) (.cells (strs abcd).toArray 9)
      have hr := lit_rd wr 9 (strs abcd)
      refine (l1Pick_any hr (fun b o e => by simp at e; have := hcr.lt; omega) rfl (by decide) (by decide) (hcr.below al hcr.lt)).mono ?_
      rintro e w3 ⟨⟨u, hu, rfl⟩, hc3, hg3⟩
      have ho := abcd_size u hu
      have hg4 := grown_trans (grown_below hgr al) hg3
      clear hcr hgr hg3 hr al hu
      go_wp2
      go_roundw
      case rel => exact ⟨k - 1, s ++ u, by go_num, rfl, by rw [ByteArray.size_append, ho]; omega, hc3, hg4⟩
      case measure => simp [intOf]; omega
    · have hd0 : decide ((0 : Int) < (k : Int)) = false := by simp; omega
      go_wp2
      go_ret
      exact ⟨⟨_, by omega, rfl⟩, hcr, hgr⟩
end Go.Proofs.Ytnndhkdigmkddaa
