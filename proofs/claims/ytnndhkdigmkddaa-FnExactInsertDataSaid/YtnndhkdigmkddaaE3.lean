/- Buffers: szBuffer, toBuffer, eqBuffer. No conditions. -/
import Derived.Test.YtnndhkdigmkddaaE2
namespace Go.Proofs.Ytnndhkdigmkddaa
open Go.ChangeShapes Go.WideShapes Go.ChangeAt Go.RowKit Go.Sort
set_option linter.unusedVariables false
set_option linter.unusedSimpArgs false
theorem own_lower {w : World} {base base' : Nat} {e : TypeId} {size n : Nat} {v : Value} {xs : List Value} (h : w.ownsRow base e size v n xs) (hb : base' ≤ base) : w.ownsRow base' e size v n xs :=
  ⟨h.1, h.2.imp id (fun ⟨g, cap, cur, h1, h2, h3⟩ => ⟨g, cap, cur, h1, Nat.le_trans hb h2, h3⟩)⟩
theorem bbox (w : World) (x y : Value) (T : TypeId) : Below w.heap.size w (w.alloc (.cells #[x, y] T)) := (Below.refl _ _).alloc (Nat.le_refl _) _
theorem szBuffer_any (l : List Ck) (n : Nat) (A : Option Addr) (c : Nat) (nx left : Int) (w : World) (hr : Rd w w.heap.size A (encC l)) (hm : n ≤ 9223372036854775807) (hl : l.length = n) (hl0 : 0 ≤ left) (hl1 : left ≤ 1048576) (hd : ∀ k, k < n → (l.getD k ck0).2.size ≤ maxLen) :
    Calls Try.prog 6 #[.agg #[.int .i64 nx, .slice A n c], .int .i64 left] w fun e w' => ∃ r : Int, e = .returned (.int .i64 r) ∧ Below w.heap.size w w' ∧ (r = -1 ∨ Small l left r) := by
  have hb0 := bbox w (.int .i64 nx) (.slice A n c) 24
  go_enter Try.func6, Try.ntmps6
  go_wp2_with fail
  refine (szChunkS_any l n A c left _ w.heap.size hb0.size (hr.below hb0 (Nat.le_refl _)) hm hl hl0 hl1 hd).mono ?_
  rintro e w1 ⟨r, rfl, hb1, hr1⟩
  replace hb1 := below_next hb0 hb0.size hb1
  rcases hr1 with rfl | hs
  · go_wp2
    go_ret
    exact ⟨-1, rfl, hb1, .inl rfl⟩
  · have h0 := hs.1
    have hdr : decide (r < 0) = false := by simp; omega
    have HS := Lib.hid hs; clear hs
    go_wp2
    go_ret
    exact ⟨r, rfl, hb1, .inr HS.out⟩
theorem toBuffer_any {A : Option Addr} {c n : Nat} {w : World} {B : Nat} {l : List Ck} (nx : Int) (hB : B ≤ w.heap.size) (hr : Rd w B A (encC l)) (hm : n ≤ 1048576) (HL : Hid (l.length = n)) :
    Calls Try.prog 8 #[.agg #[.int .i64 nx, .slice A n c]] w fun e w' => ∃ g, e = .returned (.agg #[.int .i64 nx, .slice (some ⟨g, 0, none⟩) n n]) ∧ w.heap.size ≤ g ∧ Below w.heap.size w w' ∧ w'.ownsRow w.heap.size 46 2 (.slice (some ⟨g, 0, none⟩) n n) n (encC l) := by
  have hW : ∃ W : World, W = ((w.alloc (.cells #[.int .i64 nx, .slice A n c] 24)).alloc (.cells #[.int .i64 0, .slice none 0 0] 28)).alloc (.cells #[.int .i64 nx, .slice none 0 0] 28) := ⟨_, rfl⟩
  obtain ⟨W, hW⟩ := hW
  have hb0 : Below w.heap.size w W := by rw [hW]; exact (((Below.refl _ _).alloc (Nat.le_refl _) _).alloc (by simp) _).alloc (by simp; omega) _
  have hk3 : Bk W (w.heap.size + 1 + 1) 28 #[.int .i64 nx, .slice none 0 0] := by rw [hW]; have h := heap_alloc_new ((w.alloc (.cells #[.int .i64 nx, .slice A n c] 24)).alloc (.cells #[.int .i64 0, .slice none 0 0] 28)) (.cells #[.int .i64 nx, .slice none 0 0] 28); simpa [Bk] using h
  have hk2 : Bk W (w.heap.size + 1) 28 #[.int .i64 0, .slice none 0 0] := by
    have h1 : Bk ((w.alloc (.cells #[.int .i64 nx, .slice A n c] 24)).alloc (.cells #[.int .i64 0, .slice none 0 0] 28)) (w.heap.size + 1) 28 #[.int .i64 0, .slice none 0 0] := by
      have h := heap_alloc_new (w.alloc (.cells #[.int .i64 nx, .slice A n c] 24)) (.cells #[.int .i64 0, .slice none 0 0] 28); simpa [Bk] using h
    rw [hW]; exact h1.below ((Below.refl _ _).alloc (Nat.le_refl _) _) h1.lt
  have hsz : W.heap.size = w.heap.size + 3 := by rw [hW]; simp
  go_enter Try.func8, Try.ntmps8
  go_wp2_with fail
  rw [← hW]
  clear hW
  refine (toChunkS_any (B := B) (by omega) (hr.below hb0 (by omega)) (by omega) HL).mono ?_
  rintro e w1 ⟨rfl, hb1, ho1⟩
  have hk3' := hk3.below hb1 hk3.lt
  have hk2' := hk2.below hb1 hk2.lt
  have hb01 := below_next hb0 hb0.size hb1
  have d0 : w1.cell? ⟨w.heap.size + 1, 0, none⟩ = some (.int .i64 0) := (hk2'.cell 0).trans rfl
  have d1 : w1.cell? ⟨w.heap.size + 1, 1, none⟩ = some (.slice none 0 0) := (hk2'.cell 1).trans rfl
  have e0 : w1.cell? ⟨w.heap.size + 1 + 1, 0, none⟩ = some (.int .i64 nx) := (hk3'.cell 0).trans rfl
  have e1 : w1.cell? ⟨w.heap.size + 1 + 1, 1, none⟩ = some (.slice none 0 0) := (hk3'.cell 1).trans rfl
  have f0 := hk2'.frozen 0
  have f1 := hk2'.frozen 1
  have g0 := hk3'.frozen 0
  have g1 := hk3'.frozen 1
  clear hk2 hk3 hk2' hk3'
  go_wp2
  refine bodyPost_ret (v := .agg #[.int .i64 nx, .slice (some ⟨w.heap.size + 3, 0, none⟩) n n]) (by simp [results, Try.results8, go_sem, d0, d1, e0, e1]) rfl ⟨w.heap.size + 3, rfl, by omega, ?_, ?_⟩
  · exact ((hb01.setCell (p := ⟨w.heap.size + 1 + 1, 1, none⟩) (by show w.heap.size ≤ w.heap.size + 1 + 1; omega) _).setCell (p := ⟨w.heap.size + 1, 0, none⟩) (by show w.heap.size ≤ w.heap.size + 1; omega) _).setCell (p := ⟨w.heap.size + 1, 1, none⟩) (by show w.heap.size ≤ w.heap.size + 1; omega) _
  · rw [hsz] at ho1
    have h1 := ((ownsRow_setCell_below ho1 (a := ⟨w.heap.size + 1 + 1, 1, none⟩) (by show w.heap.size + 1 + 1 < w.heap.size + 3; omega) (.slice (some ⟨w.heap.size + 3, 0, none⟩) n n)))
    have h2 := ownsRow_setCell_below h1 (a := ⟨w.heap.size + 1, 0, none⟩) (by show w.heap.size + 1 < w.heap.size + 3; omega) (.int .i64 nx)
    have h3 := ownsRow_setCell_below h2 (a := ⟨w.heap.size + 1, 1, none⟩) (by show w.heap.size + 1 < w.heap.size + 3; omega) (.slice (some ⟨w.heap.size + 3, 0, none⟩) n n)
    exact own_lower h3 (by omega)
def eqBb (nx : Int) (l : List Ck) (nx' : Int) (l' : List Ck) : Bool := nx == nx' && eqCs l l'
theorem eqBb_self (nx : Int) (l : List Ck) : eqBb nx l nx l = true := by simp [eqBb, eqCs_self]
theorem eqBuffer_any (nx nx' : Int) (l m : List Ck) (n n' : Nat) (A A' : Option Addr) (c c' : Nat) (w : World) (hr : Rd w w.heap.size A (encC l)) (hs : Rd w w.heap.size A' (encC m)) (hm : n ≤ 9223372036854775807) (hm' : n' ≤ 9223372036854775807) (hl : l.length = n) (hlm : m.length = n') :
    Calls Try.prog 10 #[.agg #[.int .i64 nx, .slice A n c], .agg #[.int .i64 nx', .slice A' n' c']] w fun e w' => e = .returned (.bool (eqBb nx l nx' m)) ∧ Below w.heap.size w w' := by
  have hb0 : Below w.heap.size w ((w.alloc (.cells #[.int .i64 nx, .slice A n c] 28)).alloc (.cells #[.int .i64 nx', .slice A' n' c'] 28)) := ((Below.refl _ _).alloc (Nat.le_refl _) _).alloc (by simp) _
  cases h : (nx == nx')
  · go_enter Try.func10, Try.ntmps10
    go_wp2
    go_ret
    exact ⟨ret_bool (by simp [eqBb, h]), hb0⟩
  · go_enter Try.func10, Try.ntmps10
    go_wp2_with fail
    refine (eqChunkS_any l m n n' A A' c c' _ w.heap.size hb0.size (hr.below hb0 (Nat.le_refl _)) (hs.below hb0 (Nat.le_refl _)) hm hm' hl hlm).mono ?_
    rintro e w1 ⟨rfl, hb1⟩
    replace hb1 := below_next hb0 hb0.size hb1
    have hq : eqBb nx l nx' m = eqCs l m := by simp [eqBb, h]
    cases hx : eqCs l m
    · go_wp2
      go_ret
      exact ⟨ret_bool (by rw [hq, hx]), hb1⟩
    · go_wp2
      go_ret
      exact ⟨ret_bool (by rw [hq, hx]), hb1⟩
end Go.Proofs.Ytnndhkdigmkddaa
