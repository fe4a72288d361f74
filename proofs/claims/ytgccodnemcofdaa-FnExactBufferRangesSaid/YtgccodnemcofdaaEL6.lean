/- Walk of the law on BufferRanges. -/
import Derived.Test.YtgccodnemcofdaaE10
import Derived.Test.YtgccodnemcofdaaE11
import Derived.Test.YtgccodnemcofdaaEOpen
import Derived.Deep.RegionHeld3
namespace Go.Proofs.Ytgccodnemcofdaa
open Go.ChangeShapes Go.WideShapes Go.ChangeAt Go.RowKit Go.Sort
set_option linter.unusedVariables false
set_option linter.unusedSimpArgs false
set_option maxHeartbeats 1000000 in
theorem walk_FnExactBufferRanges (nx : Int) (A : Option Addr) (c n : Nat) (l : List Ck) (w : World) (hr : Rd w w.heap.size A (encC l)) (hm : n ≤ 9223372036854775807) (hl : l.length = n) (hd : ∀ k, k < n → (l.getD k ck0).2.size ≤ maxLen) (hw : ∀ k, k < n → (Lit.int .i64 (l.getD k ck0).1).wf = true) (hnx : (Lit.int .i64 nx).wf = true) :
    Calls Try.prog 8 #[.agg #[.int .i64 nx, .slice A n c]] w fun e w' => e = .returned (.bool true) ∧ Below w.heap.size w w' := by
  have hb0 := bbox w (.int .i64 nx) (.slice A n c) 24
  have hk0 : Bk (w.alloc (.cells #[.int .i64 nx, .slice A n c] 24)) w.heap.size 24 #[.int .i64 nx, .slice A n c] := heap_alloc_new w _
  go_enter Try.func8, Try.ntmps8
  go_wp2_with fail
  generalize w.alloc (.cells #[.int .i64 nx, .slice A n c] 24) = w0 at hb0 hk0 ⊢
  refine (szBuffer_any l n A c nx 1048576 w0 ((hr.below hb0 (Nat.le_refl _)).more hb0.size) hm hl (by decide) (by decide) hd).mono ?_
  rintro e w1 ⟨r, rfl, hb1, hr1⟩
  have hk1 := hk0.below hb1 hk0.lt
  replace hb1 := below_next hb0 hb0.size hb1
  rcases hr1 with rfl | hs
  · go_wp2
    go_ret
    exact ⟨rfl, hb1⟩
  · have hlen := (hs.len (by decide)).1
    have hdat : ∀ k, k < n → (l.getD k ck0).2.size ≤ 1048576 := fun k hk => hs.data (by decide) k (by omega)
    have h0 := hs.1
    have hdr : decide (r < 0) = false := by simp; omega
    rw [hl] at hlen
    have HL := Lib.hid hl
    have HS := Lib.hid hs; clear hs
    obtain ⟨b0, b1⟩ := hk1.two
    go_wp2_with fail
    refine (toBuffer_any nx (B := w.heap.size) hb1.size (hr.below hb1 (Nat.le_refl _)) hlen HL).mono ?_
    rintro e w2 ⟨g2, rfl, hg2, hb2, ho2⟩
    have hk2 := hk1.below hb2 hk1.lt
    replace hb2 := below_next hb1 hb1.size hb2
    clear b0 b1
    obtain ⟨b0, b1⟩ := hk2.two
    go_wp2_with fail
    refine (sBR (B := w2.heap.size) nx hnx (Nat.le_refl _) (own_rd ho2) hlen HL hdat hw).mono ?_
    rintro e w3 ⟨A3, c3, rfl, hb3, ho3⟩
    obtain ⟨L, hL⟩ : ∃ L, rgB nx l = L := ⟨_, rfl⟩
    rw [hL] at ho3 ⊢
    have hLn : L.length ≤ 1048576 := by rw [← hL]; exact Nat.le_trans (rgB_len nx l) (by omega)
    have hselfR := eqRs_self L
    have hk3 := hk2.below hb3 hk2.lt
    have h3lt := hk3.lt
    replace hb3 := below_next hb2 hb2.size hb3
    clear b0 b1
    obtain ⟨b0, b1⟩ := hk3.two
    go_wp2_with fail
    refine (toBuffer_any nx (B := w.heap.size) hb3.size (hr.below hb3 (Nat.le_refl _)) hlen HL).mono ?_
    rintro e w4 ⟨g4, rfl, hg4, hb4, ho4⟩
    have hk4 := hk3.below hb4 hk3.lt
    have ho34 := own_step ho3 hb4
    replace hb4 := below_next hb3 hb3.size hb4
    clear b0 b1
    go_wp2_with fail
    have hx0 := bbox w4 (.int .i64 nx) (.slice (some ⟨g4, 0, none⟩) n n) 29
    have hkx0 : Bk (w4.alloc (.cells #[.int .i64 nx, .slice (some ⟨g4, 0, none⟩) n n] 29)) w4.heap.size 29 #[.int .i64 nx, .slice (some ⟨g4, 0, none⟩) n n] := heap_alloc_new w4 _
    have hk5 := hk4.below hx0 hk4.lt
    have ho5 := own_step ho4 hx0
    have ho35 := own_step ho34 hx0
    have hb5 := below_next hb4 hb4.size hx0
    have hgx : w.heap.size ≤ w4.heap.size := hb4.size
    have hg4lt : g4 < w4.heap.size := (ho4.lt g4 rfl).2
    generalize w4.alloc (.cells #[.int .i64 nx, .slice (some ⟨g4, 0, none⟩) n n] 29) = w5 at hx0 hkx0 hk5 ho5 ho35 hb5 ⊢
    generalize w4.heap.size = gx at hkx0 hgx hg4lt ⊢
    refine (iBR (B := w5.heap.size) nx (Nat.le_refl _) (own_rd ho5) hlen HL hdat hw).mono ?_
    rintro e w6 ⟨A6, c6, rfl, hb6, ho6⟩
    rw [hL] at ho6 ⊢
    have hk6 := hk5.below hb6 hk5.lt
    have hkx6 := hkx0.below hb6 hkx0.lt
    have ho46 := own_step ho5 hb6
    have ho36 := own_step ho35 hb6
    replace hb6 := below_next hb5 hb5.size hb6
    go_wp2_with fail
    refine (eqRangeS_any L L _ _ _ _ _ _ w6 w6.heap.size (Nat.le_refl _) (own_rd ho6) (own_rd ho36) (by omega) (by omega) rfl rfl).mono ?_
    rintro e w7 ⟨rfl, hb7⟩
    rw [hselfR]
    have hk7 := hk6.below hb7 hk6.lt
    have hkx7 := hkx6.below hb7 hkx6.lt
    have ho47 := own_step ho46 hb7
    have ho37 := own_step ho36 hb7
    have ho67 := own_step ho6 hb7
    replace hb7 := below_next hb6 hb6.size hb7
    obtain ⟨b0, b1⟩ := hk7.two
    obtain ⟨d0, d1⟩ := hkx7.two
    have hself := eqBb_self nx l
    have hlt1 := hk7.lt
    have hlt2 := hkx7.lt
    go_wp2_with fail
    go_region_held3 (fun w' => w'.cell? ⟨w.heap.size, 0, none⟩ = some (.int .i64 nx) ∧ w'.cell? ⟨w.heap.size, 1, none⟩ = some (.slice A n c) ∧ w'.cell? ⟨gx, 0, none⟩ = some (.int .i64 nx) ∧ w'.cell? ⟨gx, 1, none⟩ = some (.slice (some ⟨g4, 0, none⟩) n n))
      (first | go_keep | exact ⟨s0, s1, s2, s3⟩ | exact ⟨t0, t1, t2, t3⟩)
      (first
        | (go_at_call 14; refine (toBuffer_any nx (B := w.heap.size) hb7.drew.size (hr.below hb7.drew (Nat.le_refl _)) hlen HL).mono ?_; rintro e w8 ⟨g8, rfl, hg8, hb8, ho8⟩; have s0 := (hb8.cell (p := ⟨w.heap.size, 0, none⟩) hlt1).trans b0; have s1 := (hb8.cell (p := ⟨w.heap.size, 1, none⟩) hlt1).trans b1; have s2 := (hb8.cell (p := ⟨gx, 0, none⟩) hlt2).trans d0; have s3 := (hb8.cell (p := ⟨gx, 1, none⟩) hlt2).trans d1; have ho48 := own_step ho47.drew hb8; have hb08 := below_next hb7.drew hb7.drew.size hb8)
        | (go_at_call 16; refine (eqBuffer_any nx nx l l n n _ _ _ _ _ (own_rd ho48) (own_rd ho8) (Nat.le_trans hlen (by decide)) (Nat.le_trans hlen (by decide)) hl hl).mono ?_; rintro e w9 ⟨rfl, hb9⟩; rw [hself]; have t0 := (hb9.cell (p := ⟨w.heap.size, 0, none⟩) (Nat.lt_of_lt_of_le hlt1 hb8.size)).trans s0; have t1 := (hb9.cell (p := ⟨w.heap.size, 1, none⟩) (Nat.lt_of_lt_of_le hlt1 hb8.size)).trans s1; have t2 := (hb9.cell (p := ⟨gx, 0, none⟩) (Nat.lt_of_lt_of_le hlt2 hb8.size)).trans s2; have t3 := (hb9.cell (p := ⟨gx, 1, none⟩) (Nat.lt_of_lt_of_le hlt2 hb8.size)).trans s3; have hb09 := below_next hb08 hb08.size hb9))
    have hk9 := ((show Bk w7.drew w.heap.size 24 #[.int .i64 nx, .slice A n c] from hk7).below hb8 hlt1).below hb9 (Nat.lt_of_lt_of_le hlt1 hb8.size)
    have ho49 := own_step ho48 hb9
    have ho39 := own_step (own_step ho37.drew hb8) hb9
    have ho69 := own_step (own_step ho67.drew hb8) hb9
    clear b0 b1 d0 d1 s0 s1 s2 s3 t0 t1 ho48 ho8 hb8 hb9
    have hlt9 := hk9.lt
    have hg9 : g4 ≠ w.heap.size := by omega
    go_wp2_with fail
    have hg4b : g4 < w9.heap.size := (ho49.lt g4 rfl).2
    refine (markBuffer_any nx 1 ho49 (by omega) (by decide) (by decide) (by omega)).mono ?_
    rintro e w10 ⟨rfl, ho410, hg10⟩
    have hg10' : w9.grownBy w10 (some g4) := hg10
    have h010 := below_only hb09 hg10' hb09.size (fun k hk => by injection hk; omega)
    have ho310 := own_other ho39 hg10' (fun k hk e => by injection hk; have := (ho3.lt _ e).2; omega)
    have hg45 : g4 < w5.heap.size := (ho5.lt g4 rfl).2
    have ho610 := own_far ho69 hg10' (fun k hk => by injection hk; omega)
    have hk10 := hk9.grown hg10' (fun e => by injection e; omega)
    obtain ⟨zk, hzk⟩ : ∃ zk : Int, ((1 + 2 * n : Nat) : Int) = zk := ⟨_, rfl⟩
    have hzk0 : decide (zk < 0) = false := by simp; omega
    rw [hzk]
    clear hzk hg10
    go_wp2_with fail
    refine (eqRangeS_any L L _ _ _ _ _ _ w10 w10.heap.size (Nat.le_refl _) (own_rd ho610) (own_rd ho310) (by omega) (by omega) rfl rfl).mono ?_
    rintro e w11 ⟨rfl, hb11⟩
    rw [hselfR]
    have hk11 := hk10.below hb11 hk10.lt
    have ho311 := own_step ho310 hb11
    have ho611 := own_step ho610 hb11
    replace hb11 := below_next h010 h010.size hb11
    go_wp2_with fail
    refine (markRangeS_any 1 ho611 (by omega) (by omega) (by omega)).mono ?_
    rintro e w12 ⟨rfl, ho612, hg12⟩
    have hA6 : ∀ k, (Value.slice A6 L.length c6).ownBlock = some k → w5.heap.size ≤ k := fun k hk => (ho6.lt k hk).1
    have h012 := below_only hb11 hg12 hb11.size (fun k hk => by have := hA6 k hk; have := hb5.size; omega)
    have ho312 := own_other ho311 hg12 (fun k hk e => by have := hA6 k hk; have := (ho3.lt _ e).2; omega)
    have hk12 := hk11.grown hg12 (fun e => by have := hA6 _ e.symm; have := hk5.lt; omega)
    go_wp2_with fail
    refine (heldRangeS_any 1 (own_rd ho612) (by omega) (by omega) (by omega)).mono ?_
    rintro e w' ⟨rfl, rfl⟩
    obtain ⟨b0, b1⟩ := hk12.two
    go_wp2_with fail
    refine (toBuffer_any nx (B := w.heap.size) h012.size (hr.below h012 (Nat.le_refl _)) hlen HL).mono ?_
    rintro e w13 ⟨g13, rfl, hg13, hb13, ho13⟩
    have ho313 := own_step ho312 hb13
    have ho613 := own_step ho612 hb13
    replace hb13 := below_next h012 h012.size hb13
    clear b0 b1
    go_wp2_with fail
    refine (iBR (B := w13.heap.size) nx (Nat.le_refl _) (own_rd ho13) hlen HL hdat hw).mono ?_
    rintro e w14 ⟨A14, c14, rfl, hb14, ho14⟩
    rw [hL] at ho14 ⊢
    have ho314 := own_step ho313 hb14
    have ho614 := own_step ho613 hb14
    replace hb14 := below_next hb13 hb13.size hb14
    go_wp2_with fail
    refine (eqRangeS_any L L _ _ _ _ _ _ w14 w14.heap.size (Nat.le_refl _) (own_rd ho14) (own_rd ho314) (by omega) (by omega) rfl rfl).mono ?_
    rintro e w15 ⟨rfl, hb15⟩
    rw [hselfR]
    have ho615 := own_step ho614 hb15
    replace hb15 := below_next hb14 hb14.size hb15
    go_wp2_with fail
    refine (heldRangeS_any 1 (own_rd ho615) (by omega) (by omega) (by omega)).mono ?_
    rintro e w' ⟨rfl, rfl⟩
    go_wp2
    go_ret
    exact ⟨rfl, hb15⟩
end Go.Proofs.Ytgccodnemcofdaa
