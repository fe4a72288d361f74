/- Walk of the law on EndOf. -/
import Derived.Test.YtgccodnemcofdaaE7
import Derived.Test.YtgccodnemcofdaaEOpen
import Derived.Deep.RegionHeld3
namespace Go.Proofs.Ytgccodnemcofdaa
open Go.ChangeShapes Go.WideShapes Go.ChangeAt Go.RowKit Go.Sort
set_option linter.unusedVariables false
set_option linter.unusedSimpArgs false
set_option maxHeartbeats 1000000 in
theorem walk_FnExactEndOf (nx : Int) (A : Option Addr) (c n : Nat) (l : List Ck) (w : World) (hr : Rd w w.heap.size A (encC l)) (hm : n ≤ 9223372036854775807) (hl : l.length = n) (hd : ∀ k, k < n → (l.getD k ck0).2.size ≤ maxLen) (hw : ∀ k, k < n → (Lit.int .i64 (l.getD k ck0).1).wf = true) (hnx : (Lit.int .i64 nx).wf = true) :
    Calls Try.prog 7 #[.agg #[.int .i64 nx, .slice A n c]] w fun e w' => e = .returned (.bool true) ∧ Below w.heap.size w w' := by
  have hb0 := bbox w (.int .i64 nx) (.slice A n c) 24
  have hk0 : Bk (w.alloc (.cells #[.int .i64 nx, .slice A n c] 24)) w.heap.size 24 #[.int .i64 nx, .slice A n c] := heap_alloc_new w _
  go_enter Try.func7, Try.ntmps7
  go_wp2_with fail
  generalize w.alloc (.cells #[.int .i64 nx, .slice A n c] 24) = w0 at hb0 hk0 ⊢
  refine (szBuffer_any l n A c nx 1048576 w0 ((hr.below hb0 (Nat.le_refl _)).more hb0.size) hm hl (by decide) (by decide) hd).mono ?_
  rintro e w1 ⟨r, rfl, hb1, hr1⟩
  have hk1 := hk0.below hb1 hk0.lt
  replace hb1 := below_next hb0 hb0.size hb1
  rcases hr1 with rfl | hs
  · go_wp2
    go_ret
    exact ⟨rfl, hb1⟩
  · have hlen := (hs.len (by decide)).1
    have hdat : ∀ k, k < n → (l.getD k ck0).2.size ≤ 1048576 := fun k hk => hs.data (by decide) k (by omega)
    have h0 := hs.1
    have hdr : decide (r < 0) = false := by simp; omega
    rw [hl] at hlen
    have HL := Lib.hid hl
    have HS := Lib.hid hs; clear hs
    obtain ⟨b0, b1⟩ := hk1.two
    go_wp2_with fail
    refine (toBuffer_any nx (B := w.heap.size) hb1.size (hr.below hb1 (Nat.le_refl _)) hlen HL).mono ?_
    rintro e w2 ⟨g2, rfl, hg2, hb2, ho2⟩
    have hk2 := hk1.below hb2 hk1.lt
    replace hb2 := below_next hb1 hb1.size hb2
    clear b0 b1
    obtain ⟨b0, b1⟩ := hk2.two
    go_wp2_with fail
    refine (sEnd_ (B := w2.heap.size) nx hnx (Nat.le_refl _) (own_rd ho2) hlen HL hdat hw).mono ?_
    rintro e w3 ⟨rfl, hb3⟩
    have hk3 := hk2.below hb3 hk2.lt
    replace hb3 := below_next hb2 hb2.size hb3
    clear b0 b1
    obtain ⟨b0, b1⟩ := hk3.two
    go_wp2_with fail
    refine (toBuffer_any nx (B := w.heap.size) hb3.size (hr.below hb3 (Nat.le_refl _)) hlen HL).mono ?_
    rintro e w4 ⟨g4, rfl, hg4, hb4, ho4⟩
    have hk4 := hk3.below hb4 hk3.lt
    replace hb4 := below_next hb3 hb3.size hb4
    clear b0 b1
    obtain ⟨b0, b1⟩ := hk4.two
    go_wp2_with fail
    have hx0 := bbox w4 (.int .i64 nx) (.slice (some ⟨g4, 0, none⟩) n n) 29
    have hkx0 : Bk (w4.alloc (.cells #[.int .i64 nx, .slice (some ⟨g4, 0, none⟩) n n] 29)) w4.heap.size 29 #[.int .i64 nx, .slice (some ⟨g4, 0, none⟩) n n] := heap_alloc_new w4 _
    have hk5 := hk4.below hx0 hk4.lt
    have ho5 := own_step ho4 hx0
    have hb5 := below_next hb4 hb4.size hx0
    have hgx : w.heap.size ≤ w4.heap.size := hb4.size
    generalize w4.alloc (.cells #[.int .i64 nx, .slice (some ⟨g4, 0, none⟩) n n] 29) = w5 at hx0 hkx0 hk5 ho5 hb5 ⊢
    generalize w4.heap.size = gx at hkx0 hgx ⊢
    clear b0 b1
    refine (iEnd_ (B := w5.heap.size) nx hnx (Nat.le_refl _) (own_rd ho5) hlen HL hdat hw).mono ?_
    rintro e w6 ⟨rfl, hb6⟩
    have hk6 := hk5.below hb6 hk5.lt
    have hkx6 := hkx0.below hb6 hkx0.lt
    have ho6 := own_step ho5 hb6
    replace hb6 := below_next hb5 hb5.size hb6
    obtain ⟨b0, b1⟩ := hk6.two
    obtain ⟨d0, d1⟩ := hkx6.two
    have hself := eqBb_self nx l
    have hlt1 := hk6.lt
    have hlt2 := hkx6.lt
    go_wp2_with fail
    go_region_held3 (fun w' => w'.cell? ⟨w.heap.size, 0, none⟩ = some (.int .i64 nx) ∧ w'.cell? ⟨w.heap.size, 1, none⟩ = some (.slice A n c) ∧ w'.cell? ⟨gx, 0, none⟩ = some (.int .i64 nx) ∧ w'.cell? ⟨gx, 1, none⟩ = some (.slice (some ⟨g4, 0, none⟩) n n))
      (first | go_keep | exact ⟨s0, s1, s2, s3⟩ | exact ⟨t0, t1, t2, t3⟩)
      (first
        | (go_at_call 14; refine (toBuffer_any nx (B := w.heap.size) hb6.drew.size (hr.below hb6.drew (Nat.le_refl _)) hlen HL).mono ?_; rintro e w7 ⟨g7, rfl, hg7, hb7, ho7⟩; have s0 := (hb7.cell (p := ⟨w.heap.size, 0, none⟩) hlt1).trans b0; have s1 := (hb7.cell (p := ⟨w.heap.size, 1, none⟩) hlt1).trans b1; have s2 := (hb7.cell (p := ⟨gx, 0, none⟩) hlt2).trans d0; have s3 := (hb7.cell (p := ⟨gx, 1, none⟩) hlt2).trans d1; have ho67 := own_step ho6.drew hb7; have hb07 := below_next hb6.drew hb6.drew.size hb7)
        | (go_at_call 16; refine (eqBuffer_any nx nx l l n n _ _ _ _ _ (own_rd ho67) (own_rd ho7) (Nat.le_trans hlen (by decide)) (Nat.le_trans hlen (by decide)) hl hl).mono ?_; rintro e w8 ⟨rfl, hb8⟩; rw [hself]; have t0 := (hb8.cell (p := ⟨w.heap.size, 0, none⟩) (Nat.lt_of_lt_of_le hlt1 hb7.size)).trans s0; have t1 := (hb8.cell (p := ⟨w.heap.size, 1, none⟩) (Nat.lt_of_lt_of_le hlt1 hb7.size)).trans s1; have t2 := (hb8.cell (p := ⟨gx, 0, none⟩) (Nat.lt_of_lt_of_le hlt2 hb7.size)).trans s2; have t3 := (hb8.cell (p := ⟨gx, 1, none⟩) (Nat.lt_of_lt_of_le hlt2 hb7.size)).trans s3; have hb08 := below_next hb07 hb07.size hb8))
    go_wp2
    go_ret
    exact ⟨rfl, hb08⟩
end Go.Proofs.Ytgccodnemcofdaa
