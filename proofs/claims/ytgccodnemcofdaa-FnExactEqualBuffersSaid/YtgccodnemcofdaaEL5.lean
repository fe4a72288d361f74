/- Walk of the law on EqualBuffers. -/
import Derived.Test.YtgccodnemcofdaaE8
import Derived.Test.YtgccodnemcofdaaEOpen
import Derived.Deep.RegionHeld3
namespace Go.Proofs.Ytgccodnemcofdaa
open Go.ChangeShapes Go.WideShapes Go.ChangeAt Go.RowKit Go.Sort
set_option linter.unusedVariables false
set_option linter.unusedSimpArgs false
@[reducible] def Two2 (w : World) (g0 g1 : Nat) (v0 v1 v2 v3 : Value) (w' : World) : Prop := Below w.heap.size w w' ∧ g0 < w'.heap.size ∧ g1 < w'.heap.size ∧ w'.cell? ⟨g0, 0, none⟩ = some v0 ∧ w'.cell? ⟨g0, 1, none⟩ = some v1 ∧ w'.cell? ⟨g1, 0, none⟩ = some v2 ∧ w'.cell? ⟨g1, 1, none⟩ = some v3
theorem two2_start {w w1 : World} {T T' : TypeId} {g0 g1 : Nat} {v0 v1 v2 v3 : Value} (hb : Below w.heap.size w w1) (hk : Bk w1 g0 T #[v0, v1]) (hj : Bk w1 g1 T' #[v2, v3]) : Two2 w g0 g1 v0 v1 v2 v3 w1.drew := by
  obtain ⟨c0, c1⟩ := hk.two
  obtain ⟨d0, d1⟩ := hj.two
  exact ⟨hb.drew, hk.lt, hj.lt, c0, c1, d0, d1⟩
theorem two2_below {w W W' : World} {g0 g1 : Nat} {v0 v1 v2 v3 : Value} (h : Two2 w g0 g1 v0 v1 v2 v3 W) (hb : Below W.heap.size W W') : Two2 w g0 g1 v0 v1 v2 v3 W' := by
  obtain ⟨h0, h1, h2, c0, c1, d0, d1⟩ := h
  exact ⟨below_next h0 h0.size hb, Nat.lt_of_lt_of_le h1 hb.size, Nat.lt_of_lt_of_le h2 hb.size, (hb.cell h1).trans c0, (hb.cell h1).trans c1, (hb.cell h2).trans d0, (hb.cell h2).trans d1⟩
theorem Bk.drew_ {w : World} {g : Nat} {T : TypeId} {cs : Array Value} (h : Bk w g T cs) : Bk w.drew g T cs := h
set_option maxHeartbeats 1000000 in
theorem walk_FnExactEqualBuffers (nx : Int) (A : Option Addr) (c n : Nat) (l : List Ck) (nx' : Int) (A' : Option Addr) (c' n' : Nat) (m : List Ck) (w : World) (hr : Rd w w.heap.size A (encC l)) (hm : n ≤ 9223372036854775807) (hl : l.length = n) (hd : ∀ k, k < n → (l.getD k ck0).2.size ≤ maxLen)
    (hr' : Rd w w.heap.size A' (encC m)) (hm' : n' ≤ 9223372036854775807) (hl' : m.length = n') (hd' : ∀ k, k < n' → (m.getD k ck0).2.size ≤ maxLen) :
    Calls Try.prog 4 #[.agg #[.int .i64 nx, .slice A n c], .agg #[.int .i64 nx', .slice A' n' c']] w fun e w' => e = .returned (.bool true) ∧ Below w.heap.size w w' := by
  obtain ⟨W, hW⟩ : ∃ W, W = (w.alloc (.cells #[.int .i64 nx, .slice A n c] 24)).alloc (.cells #[.int .i64 nx', .slice A' n' c'] 24) := ⟨_, rfl⟩
  have hb0 : Below w.heap.size w W := by rw [hW]; exact ((Below.refl _ _).alloc (Nat.le_refl _) _).alloc (by simp) _
  have hk0 : Bk W w.heap.size 24 #[.int .i64 nx, .slice A n c] := by
    have h1 : Bk (w.alloc (.cells #[.int .i64 nx, .slice A n c] 24)) w.heap.size 24 #[.int .i64 nx, .slice A n c] := heap_alloc_new w _
    rw [hW]; exact h1.below ((Below.refl _ _).alloc (Nat.le_refl _) _) h1.lt
  have hj0 : Bk W (w.heap.size + 1) 24 #[.int .i64 nx', .slice A' n' c'] := by
    have h := heap_alloc_new (w.alloc (.cells #[.int .i64 nx, .slice A n c] 24)) (.cells #[.int .i64 nx', .slice A' n' c'] 24); rw [hW]; simpa [Bk] using h
  go_enter Try.func4, Try.ntmps4
  go_wp2_with fail
  rw [← hW]
  clear hW
  refine (szBuffer_any l n A c nx 1048576 W ((hr.below hb0 (Nat.le_refl _)).more hb0.size) hm hl (by decide) (by decide) hd).mono ?_
  rintro e w1 ⟨r, rfl, hb1, hr1⟩
  have hk1 := hk0.below hb1 hk0.lt
  have hj1 := hj0.below hb1 hj0.lt
  replace hb1 := below_next hb0 hb0.size hb1
  rcases hr1 with rfl | hs
  · go_wp2
    go_ret
    exact ⟨rfl, hb1⟩
  · have hlen := hs.len (by decide)
    have h0 := hs.1
    have hdr : decide (r < 0) = false := by simp; omega
    have hrm : r ≤ 1048576 := hlen.2
    have hln : n ≤ 1048576 := by have := hlen.1; omega
    obtain ⟨b0, b1⟩ := hk1.two
    obtain ⟨d0, d1⟩ := hj1.two
    clear hlen
    have HS := Lib.hid hs; clear hs
    go_wp2_with fail
    refine (szBuffer_any m n' A' c' nx' r w1 ((hr'.below hb1 (Nat.le_refl _)).more hb1.size) hm' hl' h0 hrm hd').mono ?_
    rintro e w2 ⟨r2, rfl, hb2, hr2⟩
    have hk2 := hk1.below hb2 hk1.lt
    have hj2 := hj1.below hb2 hj1.lt
    replace hb2 := below_next hb1 hb1.size hb2
    rcases hr2 with rfl | hs2
    · go_wp2
      go_ret
      exact ⟨rfl, hb2⟩
    · have hlen2 := hs2.len hrm
      have h02 := hs2.1
      have hdr2 : decide (r2 < 0) = false := by simp; omega
      have hln2 : n' ≤ 1048576 := by have := hlen2.1; omega
      clear hlen2 b0 b1 d0 d1
      have HS2 := Lib.hid hs2; clear hs2
      have HL := Lib.hid hl
      have HM := Lib.hid hl'
      obtain ⟨b0, b1⟩ := hk2.two
      obtain ⟨d0, d1⟩ := hj2.two
      --TAIL
      go_wp2_with fail
      have hn2 := two2_start hb2 hk2 hj2
      clear b0 b1 d0 d1
      go_region_held3 (fun w' => Below w.heap.size w w' ∧ w.heap.size < w'.heap.size ∧ w.heap.size + 1 < w'.heap.size ∧ w'.cell? ⟨w.heap.size, 0, none⟩ = some (.int .i64 nx) ∧ w'.cell? ⟨w.heap.size, 1, none⟩ = some (.slice A n c) ∧ w'.cell? ⟨w.heap.size + 1, 0, none⟩ = some (.int .i64 nx') ∧ w'.cell? ⟨w.heap.size + 1, 1, none⟩ = some (.slice A' n' c'))
        (first | exact hn2 | exact two2_below (by assumption) hb5 | exact two2_below (by assumption) hb4 | exact two2_below (by assumption) hb3 | go_keep)
        (first
          | (go_at_call 14; (fail_if_success (have := ho3)); refine (toBuffer_any nx (B := w.heap.size) hb2.drew.size (hr.below hb2.drew (Nat.le_refl _)) hln HL).mono ?_; rintro e w3 ⟨g3, rfl, hg3, hb3, ho3⟩; have hb03 := below_next hb2.drew hb2.drew.size hb3)
          | (go_at_call 14; refine (toBuffer_any nx' (B := w.heap.size) hb03.size (hr'.below hb03 (Nat.le_refl _)) hln2 HM).mono ?_; rintro e w4 ⟨g4, rfl, hg4, hb4, ho4⟩; have ho34 := own_step ho3 hb4)
          | (go_at_call 17; refine (sEqBuf nx nx' (B := w4.heap.size) (Nat.le_refl _) (own_rd ho34) (own_rd ho4) (Nat.le_trans hln (by decide)) (Nat.le_trans hln2 (by decide)) HL HM).mono ?_; rintro e w5 ⟨rfl, hb5⟩))
      have hT5 : Two2 w (w.heap.size) (w.heap.size + 1) (.int .i64 nx) (.slice A n c) (.int .i64 nx') (.slice A' n' c') w5 := by assumption
      clear ho3 ho4 ho34 hb3 hb4 hb5 hb03 hn2 hk2 hj2
      obtain ⟨hb5, hlA, hlB, b0, b1, d0, d1⟩ := hT5
      have hT5 : Two2 w (w.heap.size) (w.heap.size + 1) (.int .i64 nx) (.slice A n c) (.int .i64 nx') (.slice A' n' c') w5 := ⟨hb5, hlA, hlB, b0, b1, d0, d1⟩
      have HT5 := Lib.hid hT5; clear hT5
      go_wp2_with fail
      refine (toBuffer_any nx (B := w.heap.size) hb5.size (hr.below hb5 (Nat.le_refl _)) hln HL).mono ?_
      rintro e w6 ⟨g6, rfl, hg6, hb6, ho6⟩
      have hT6 := two2_below HT5.out hb6
      obtain ⟨hb06, hlA6, hlB6, b60, b61, d60, d61⟩ := hT6
      clear b0 b1 d0 d1
      go_wp2_with fail
      have hT7 := two2_below (w := w) ⟨hb06, hlA6, hlB6, b60, b61, d60, d61⟩ ((Below.refl _ _).alloc (Nat.le_refl _) (.cells #[.int .i64 nx, .slice (some ⟨g6, 0, none⟩) n n] 29))
      have hx7 : Bk (w6.alloc (.cells #[.int .i64 nx, .slice (some ⟨g6, 0, none⟩) n n] 29)) w6.heap.size 29 #[.int .i64 nx, .slice (some ⟨g6, 0, none⟩) n n] := heap_alloc_new w6 _
      have ho7 := own_step ho6 ((Below.refl w6.heap.size w6).alloc (Nat.le_refl _) (.cells #[.int .i64 nx, .slice (some ⟨g6, 0, none⟩) n n] 29))
      clear b60 b61 d60 d61
      generalize w6.alloc (.cells #[.int .i64 nx, .slice (some ⟨g6, 0, none⟩) n n] 29) = w7 at hT7 hx7 ho7 ⊢
      generalize w6.heap.size = gx at hx7 ⊢
      obtain ⟨hb07, hlA7, hlB7, b70, b71, d70, d71⟩ := hT7
      refine (toBuffer_any nx' (B := w.heap.size) hb07.size (hr'.below hb07 (Nat.le_refl _)) hln2 HM).mono ?_
      rintro e w8 ⟨g8, rfl, hg8, hb8, ho8⟩
      have hT8 := two2_below (w := w) ⟨hb07, hlA7, hlB7, b70, b71, d70, d71⟩ hb8
      have hx8 := hx7.below hb8 hx7.lt
      have ho78 := own_step ho7 hb8
      clear b70 b71 d70 d71
      have HT8 := Lib.hid hT8; clear hT8
      have hT9 := two2_below HT8.out ((Below.refl w8.heap.size w8).alloc (Nat.le_refl _) (.cells #[.int .i64 nx', .slice (some ⟨g8, 0, none⟩) n' n'] 29))
      have hy9 : Bk (w8.alloc (.cells #[.int .i64 nx', .slice (some ⟨g8, 0, none⟩) n' n'] 29)) w8.heap.size 29 #[.int .i64 nx', .slice (some ⟨g8, 0, none⟩) n' n'] := heap_alloc_new w8 _
      have hx9 := hx8.below ((Below.refl w8.heap.size w8).alloc (Nat.le_refl _) (.cells #[.int .i64 nx', .slice (some ⟨g8, 0, none⟩) n' n'] 29)) hx8.lt
      have ho9 := own_step ho8 ((Below.refl w8.heap.size w8).alloc (Nat.le_refl _) (.cells #[.int .i64 nx', .slice (some ⟨g8, 0, none⟩) n' n'] 29))
      have ho79 := own_step ho78 ((Below.refl w8.heap.size w8).alloc (Nat.le_refl _) (.cells #[.int .i64 nx', .slice (some ⟨g8, 0, none⟩) n' n'] 29))
      obtain ⟨p0, p1⟩ := hx9.two
      obtain ⟨q0, q1⟩ := hy9.two
      go_wp2_with fail
      clear p0 p1 q0 q1
      generalize w8.alloc (.cells #[.int .i64 nx', .slice (some ⟨g8, 0, none⟩) n' n'] 29) = w9 at hT9 hy9 hx9 ho9 ho79 ⊢
      generalize w8.heap.size = gy at hy9 ⊢
      refine (iEqBuf nx nx' (B := w9.heap.size) (Nat.le_refl _) (own_rd ho79) (own_rd ho9) (Nat.le_trans hln (by decide)) (Nat.le_trans hln2 (by decide)) HL HM).mono ?_
      rintro e w10 ⟨rfl, hb10⟩
      have hT10 := two2_below hT9 hb10
      have hx10 := hx9.below hb10 hx9.lt
      have hy10 := hy9.below hb10 hy9.lt
      have ho10 := own_step ho9 hb10
      have ho710 := own_step ho79 hb10
      have hself := eqBb_self nx l
      have hself' := eqBb_self nx' m
      generalize hEQ : eqBb nx l nx' m = E
      have hbb : (E != E) = false := by simp
      obtain ⟨hb010, hlA10, hlB10, b100, b101, d100, d101⟩ := hT10
      obtain ⟨p0, p1⟩ := hx10.two
      obtain ⟨q0, q1⟩ := hy10.two
      go_wp2_with fail
      have hs1 : Two2 w (gx) (w.heap.size) (.int .i64 nx) (.slice (some ⟨g6, 0, none⟩) n n) (.int .i64 nx) (.slice A n c) w10.drew := ⟨hb010.drew, hx10.lt, hlA10, p0, p1, b100, b101⟩
      have hs2 : Two2 w (gy) (w.heap.size + 1) (.int .i64 nx') (.slice (some ⟨g8, 0, none⟩) n' n') (.int .i64 nx') (.slice A' n' c') w10.drew := ⟨hb010.drew, hy10.lt, hlB10, q0, q1, d100, d101⟩
      clear b100 b101 d100 d101 p0 p1 q0 q1
      go_region_held3 (fun w' => Below w.heap.size w w' ∧ gx < w'.heap.size ∧ w.heap.size < w'.heap.size ∧ w'.cell? ⟨gx, 0, none⟩ = some (.int .i64 nx) ∧ w'.cell? ⟨gx, 1, none⟩ = some (.slice (some ⟨g6, 0, none⟩) n n) ∧ w'.cell? ⟨w.heap.size, 0, none⟩ = some (.int .i64 nx) ∧ w'.cell? ⟨w.heap.size, 1, none⟩ = some (.slice A n c))
        (first | exact hs1 | exact two2_below (by assumption) hb12 | exact two2_below (by assumption) hb11 | go_keep)
        (first
          | (go_at_call 14; refine (toBuffer_any nx (B := w.heap.size) hb010.drew.size (hr.below hb010.drew (Nat.le_refl _)) hln HL).mono ?_; rintro e w11 ⟨g11, rfl, hg11, hb11, ho11⟩; have ho711 := own_step ho710.drew hb11)
          | (go_at_call 16; refine (eqBuffer_any nx nx l l n n _ _ _ _ _ (own_rd ho711) (own_rd ho11) (Nat.le_trans hln (by decide)) (Nat.le_trans hln (by decide)) hl hl).mono ?_; rintro e w12 ⟨rfl, hb12⟩; rw [hself]))
      replace hs2 := two2_below (two2_below hs2 hb11) hb12
      have ho12 := own_step (own_step ho10.drew hb11) hb12
      clear ho711 ho11 hb11 hb12 hs1
      obtain ⟨hb012, hlY, hlB, q0, q1, d0, d1⟩ := hs2
      go_wp2_with fail
      have hs3 : Two2 w (gy) (w.heap.size + 1) (.int .i64 nx') (.slice (some ⟨g8, 0, none⟩) n' n') (.int .i64 nx') (.slice A' n' c') w12.drew := ⟨hb012.drew, hlY, hlB, q0, q1, d0, d1⟩
      clear q0 q1 d0 d1
      go_region_held3 (fun w' => Below w.heap.size w w' ∧ gy < w'.heap.size ∧ w.heap.size + 1 < w'.heap.size ∧ w'.cell? ⟨gy, 0, none⟩ = some (.int .i64 nx') ∧ w'.cell? ⟨gy, 1, none⟩ = some (.slice (some ⟨g8, 0, none⟩) n' n') ∧ w'.cell? ⟨w.heap.size + 1, 0, none⟩ = some (.int .i64 nx') ∧ w'.cell? ⟨w.heap.size + 1, 1, none⟩ = some (.slice A' n' c'))
        (first | exact hs3 | exact two2_below (by assumption) hb14 | exact two2_below (by assumption) hb13 | go_keep)
        (first
          | (go_at_call 14; refine (toBuffer_any nx' (B := w.heap.size) hb012.drew.size (hr'.below hb012.drew (Nat.le_refl _)) hln2 HM).mono ?_; rintro e w13 ⟨g13, rfl, hg13, hb13, ho13⟩; have ho1213 := own_step ho12.drew hb13; have hb013 := below_next hb012.drew hb012.drew.size hb13)
          | (go_at_call 16; refine (eqBuffer_any nx' nx' m m n' n' _ _ _ _ _ (own_rd ho1213) (own_rd ho13) (Nat.le_trans hln2 (by decide)) (Nat.le_trans hln2 (by decide)) hl' hl').mono ?_; rintro e w14 ⟨rfl, hb14⟩; rw [hself']; have hb014 := below_next hb013 hb013.size hb14))
      go_wp2
      go_ret
      exact ⟨rfl, hb014⟩
end Go.Proofs.Ytgccodnemcofdaa
