/- ByteAt: one contract for each package. No conditions. -/
import Derived.Test.YtnndhkdigmkddaaE3
namespace Go.Proofs.Ytnndhkdigmkddaa
open Go.ChangeShapes Go.WideShapes Go.ChangeAt Go.RowKit Go.Sort
set_option linter.unusedVariables false
set_option linter.unusedSimpArgs false
theorem w64b (c : Nat) (h : c < 256) : wrap64 (c : Int) = (c : Int) := by unfold wrap64; omega
def hitC (x : Int) (d : ByteArray) (off : Int) : Bool := decide (0 ≤ x) && (decide (x ≤ off) && decide (off - x < (d.size : Int)))
def bAt (l : List Ck) (off : Int) : Int := match l.find? (fun c => hitC c.1 c.2 off) with
  | none => -1
  | some c => ((c.2.data.getD (off - c.1).toNat 0).toNat : Int)
theorem find_at {α : Type} (p : α → Bool) (d : α) : ∀ (l : List α) (k : Nat), k < l.length → (∀ j, j < k → p (l.getD j d) = false) → p (l.getD k d) = true → l.find? p = some (l.getD k d) := by
  intro l
  induction l with
  | nil => intro k hk; simp at hk
  | cons a l ih =>
    intro k hk hb hh
    cases k with
    | zero => simp at hh ⊢; exact Or.inl hh
    | succ k =>
      have h0 := hb 0 (by omega)
      simp at h0
      simp only [List.find?_cons, h0]
      have := ih k (by simpa using hk) (fun j hj => by simpa using hb (j + 1) (by omega)) (by simpa using hh)
      simpa using this
theorem find_none_at {α : Type} (p : α → Bool) (d : α) (l : List α) (n : Nat) (hn : l.length = n) (h : ∀ j, j < n → p (l.getD j d) = false) : l.find? p = none := by
  rw [List.find?_eq_none]
  intro x hx
  obtain ⟨i, hi, rfl⟩ := List.getElem_of_mem hx
  have := h i (by omega)
  rw [List.getD_eq_getElem?_getD, List.getElem?_eq_getElem hi, Option.getD_some] at this
  simp [this]
/-- None of the first chunks holds the place. -/
def NoHit (l : List Ck) (off : Int) (k : Nat) : Prop := ∀ j, j < k → hitC (l.getD j ck0).1 (l.getD j ck0).2 off = false
theorem NoHit.next {l : List Ck} {off x : Int} {d : ByteArray} {k : Nat} (h : NoHit l off k) (hx : l.getD k ck0 = (x, d)) (hh : hitC x d off = false) : NoHit l off (k + 1) := by
  intro j hj
  by_cases hj' : j < k
  · exact h j hj'
  · obtain rfl : j = k := by omega
    rw [hx]; exact hh
theorem NoHit.done {l : List Ck} {off : Int} {n : Nat} (h : NoHit l off n) (hn : l.length = n) : bAt l off = -1 := by
  unfold bAt
  rw [find_none_at (fun c : Ck => hitC c.1 c.2 off) ck0 l n hn h]
theorem NoHit.hit {l : List Ck} {off x : Int} {d : ByteArray} {k q : Nat} (h : NoHit l off k) (hk : k < l.length) (hx : l.getD k ck0 = (x, d)) (hh : hitC x d off = true) (hq : off - x = q) (hqd : q < d.size) : bAt l off = ((d[q]'hqd).toNat : Int) := by
  unfold bAt
  rw [find_at (fun c : Ck => hitC c.1 c.2 off) ck0 l k hk h (by rw [hx]; exact hh)]
  simp only [hx, hq, Int.toNat_natCast]
  congr 2
  show d.data.getD q 0 = d.data[q]
  have h' : q < d.data.size := hqd
  rw [Array.getD_eq_getD_getElem?, Array.getElem?_eq_getElem h', Option.getD_some]
theorem hit_cases (x off : Int) (d : ByteArray) : (off < 0 ∧ hitC x d off = false) ∨ (0 ≤ off ∧ x < 0 ∧ hitC x d off = false) ∨ (0 ≤ off ∧ 0 ≤ x ∧ off < x ∧ hitC x d off = false) ∨ (∃ q : Nat, 0 ≤ off ∧ 0 ≤ x ∧ off - x = q ∧ d.size ≤ q ∧ hitC x d off = false) ∨ (∃ q : Nat, 0 ≤ off ∧ 0 ≤ x ∧ off - x = q ∧ q < d.size ∧ hitC x d off = true) := by
  by_cases h1 : off < 0
  · left; refine ⟨h1, ?_⟩; unfold hitC; by_cases h2 : 0 ≤ x
    · have : decide (x ≤ off) = false := by simp; omega
      simp [this]
    · simp [h2]
  · by_cases h2 : x < 0
    · right; left; exact ⟨by omega, h2, by unfold hitC; simp; omega⟩
    · by_cases h3 : off < x
      · right; right; left; exact ⟨by omega, by omega, h3, by unfold hitC; simp; omega⟩
      · obtain ⟨q, hq⟩ : ∃ q : Nat, off - x = q := ⟨(off - x).toNat, by omega⟩
        by_cases h4 : q < d.size
        · right; right; right; right; exact ⟨q, by omega, by omega, hq, h4, by unfold hitC; simp; omega⟩
        · right; right; right; left; exact ⟨q, by omega, by omega, hq, by omega, by unfold hitC; simp; omega⟩
theorem Bk.two {w : World} {g : Nat} {T : TypeId} {x0 x1 : Value} (h : Bk w g T #[x0, x1]) : w.cell? ⟨g, 0, none⟩ = some x0 ∧ w.cell? ⟨g, 1, none⟩ = some x1 := ⟨(h.cell 0).trans rfl, (h.cell 1).trans rfl⟩
set_option maxHeartbeats 1000000 in
theorem sByteAt {A : Option Addr} {c n : Nat} {w : World} {B : Nat} {l : List Ck} (nx off : Int) (ho : (Lit.int .i64 off).wf = true) (hB : B ≤ w.heap.size) (hr : Rd w B A (encC l)) (hm : n ≤ 1048576) (HL : Hid (l.length = n)) (hd : ∀ k, k < n → (l.getD k ck0).2.size ≤ 1048576) (hw : ∀ k, k < n → (Lit.int .i64 (l.getD k ck0).1).wf = true) :
    Calls Try.prog 19 #[.agg #[.int .i64 nx, .slice A n c], .int .i64 off] w fun e w' => e = .returned (.int .i64 (bAt l off)) ∧ Below w.heap.size w w' := by
  have HD := Lib.hid hd; clear hd
  have HW := Lib.hid hw; clear hw
  have hb0 := bbox w (.int .i64 nx) (.slice A n c) 28
  have hk0 : Bk (w.alloc (.cells #[.int .i64 nx, .slice A n c] 28)) w.heap.size 28 #[.int .i64 nx, .slice A n c] := heap_alloc_new w _
  go_enter Try.func19, Try.ntmps19
  go_wp2_with fail
  generalize w.alloc (.cells #[.int .i64 nx, .slice A n c] 28) = w0 at hb0 hk0 ⊢
  have HK0 := Lib.hid hk0; clear hk0
  go_loopw [5, 6] (fun i _ wr => ∃ k : Nat, k ≤ n ∧ i = .int .i64 k ∧ NoHit l off k ∧ Below w.heap.size w wr ∧ Bk wr w.heap.size 28 #[.int .i64 nx, .slice A n c]) (fun i _ _ => n - (intOf i).toNat)
  case atStart => exact ⟨0, Nat.zero_le _, rfl, fun j hj => by omega, hb0, HK0.out⟩
  case round =>
    obtain ⟨k, hk, rfl, hno, hbw, hkw⟩ := hrel
    have HN := Lib.hid hno; clear hno
    clear hb0 HK0
    obtain ⟨b0, b1⟩ := hkw.two
    have HK := Lib.hid hkw; clear hkw
    by_cases hlt : k < n
    · obtain ⟨b, off1, x, d, rfl, hb, HX, c0, c1⟩ := (hr.below hbw hB).chk (k := k) (by rw [HL.out]; exact hlt)
      have hdd : d.size ≤ 1048576 := by have := HD.out k hlt; rw [HX.out] at this; exact this
      have hwx := HW.out k hlt
      rw [HX.out] at hwx
      have hx1 : x ≤ 9223372036854775807 ∧ -9223372036854775808 ≤ x := by simp [Lit.wf, IntKind.min, IntKind.max, IntKind.signed, IntKind.bits] at hwx; omega
      have hxa := hx1.1; have hxb := hx1.2; clear hx1 hwx
      have hom : off ≤ 9223372036854775807 ∧ -9223372036854775808 ≤ off := by simp [Lit.wf, IntKind.min, IntKind.max, IntKind.signed, IntKind.bits] at ho; omega
      have hoa := hom.1; have hob := hom.2; clear hom
      rcases hit_cases x off d with ⟨h1, h2⟩ | ⟨h0, h1, h2⟩ | ⟨h0, h1, h3, h2⟩ | ⟨q, h0, h1, hq, h3, h2⟩ | ⟨q, h0, h1, hq, h3, h2⟩
      · have HN2 := Lib.hid (HN.out.next HX.out h2)
        have HH := Lib.hid h2; clear h2
        go_wp2
        go_roundw
        case rel => exact ⟨k + 1, by omega, by go_num, HN2.out, hbw, HK.out⟩
        case measure => simp [intOf]; omega
      · have HN2 := Lib.hid (HN.out.next HX.out h2)
        have HH := Lib.hid h2; clear h2
        go_wp2
        go_roundw
        case rel => exact ⟨k + 1, by omega, by go_num, HN2.out, hbw, HK.out⟩
        case measure => simp [intOf]; omega
      · have HN2 := Lib.hid (HN.out.next HX.out h2)
        have HH := Lib.hid h2; clear h2
        go_wp2
        go_roundw
        case rel => exact ⟨k + 1, by omega, by go_num, HN2.out, hbw, HK.out⟩
        case measure => simp [intOf]; omega
      · have HN2 := Lib.hid (HN.out.next HX.out h2)
        have HH := Lib.hid h2; clear h2
        have hqm : q ≤ 9223372036854775807 := by omega
        go_wp2
        go_roundw
        case rel => exact ⟨k + 1, by omega, by go_num, HN2.out, hbw, HK.out⟩
        case measure => simp [intOf]; omega
      · have HV := Lib.hid (HN.out.hit (by rw [HL.out]; exact hlt) HX.out h2 hq h3)
        have HH := Lib.hid h2; clear h2
        go_wp2
        go_ret
        have hc8 := (d[q]'h3).toNat_lt
        refine ⟨?_, hbw⟩
        rw [HV.out]
        exact ret_int (w64b _ hc8)
    · obtain rfl : k = n := by omega
      have HV := Lib.hid (HN.out.done HL.out)
      go_wp2
      go_ret
      exact ⟨by rw [HV.out]; rfl, hbw⟩
end Go.Proofs.Ytnndhkdigmkddaa
