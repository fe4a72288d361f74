/- Walk of the law on InsertData. -/
import Derived.Test.YtnndhkdigmkddaaJ7
import Derived.Test.YtnndhkdigmkddaaE13
import Derived.Test.YtnndhkdigmkddaaE10
import Derived.Test.YtnndhkdigmkddaaEOpen
import Derived.Deep.RegionHeld3
namespace Go.Proofs.Ytnndhkdigmkddaa
open Go.ChangeShapes Go.WideShapes Go.ChangeAt Go.RowKit
set_option linter.unusedVariables false
set_option linter.unusedSimpArgs false
theorem insV_len (nx : Int) (l : List Ck) (off : Int) (d : ByteArray) : (insV nx l off d).length ≤ l.length + 1 := by
  cases hk : insOk nx l off d
  · rw [insV_no hk]; omega
  · rw [insV_yes hk, insK_len]; exact insR_len nx l off d
set_option maxRecDepth 20000 in
set_option maxHeartbeats 4000000 in
theorem walk_FnExactInsertData (nx : Int) (A : Option Addr) (c n : Nat) (l : List Ck) (of : Int) (hof : (Lit.int .i64 of).wf = true) (d : ByteArray) (hdz : d.size ≤ maxLen) (w : World) (hr : Rd w w.heap.size A (encC l)) (hm : n ≤ 9223372036854775807) (hl : l.length = n) (hd : ∀ k, k < n → (l.getD k ck0).2.size ≤ maxLen) (hw : ∀ k, k < n → (Lit.int .i64 (l.getD k ck0).1).wf = true) (hnx : (Lit.int .i64 nx).wf = true) :
    Calls Try.prog 4 #[.agg #[.int .i64 nx, .slice A n c], .int .i64 of, .string d] w fun e w' => e = .returned (.bool true) ∧ Below w.heap.size w w' := by
  have hb0 := bbox w (.int .i64 nx) (.slice A n c) 24
  have hk0 : Bk (w.alloc (.cells #[.int .i64 nx, .slice A n c] 24)) w.heap.size 24 #[.int .i64 nx, .slice A n c] := heap_alloc_new w _
  have hof12 : of ≤ 9223372036854775807 ∧ -9223372036854775808 ≤ of := by simp [Lit.wf, IntKind.min, IntKind.max, IntKind.signed, IntKind.bits] at hof; omega
  have hof1 := hof12.1; have hof2 := hof12.2
  unfold maxLen at hdz
  clear hof12
  by_cases hbig : 1048576 < d.size
  · have hdb : decide ((1048576 : Int) < (d.size : Int)) = true := by simp; omega
    go_enter Try.func4, Try.ntmps4
    go_wp2
    go_ret
    exact ⟨rfl, hb0⟩
  have hds : d.size ≤ 1048576 := by omega
  have hdb : decide ((1048576 : Int) < (d.size : Int)) = false := by simp; omega
  go_enter Try.func4, Try.ntmps4
  go_wp2_with fail
  generalize w.alloc (.cells #[.int .i64 nx, .slice A n c] 24) = w0 at hb0 hk0 ⊢
  refine (szBuffer_any l n A c nx 1048576 w0 ((hr.below hb0 (Nat.le_refl _)).more hb0.size) hm hl (by decide) (by decide) hd).mono ?_
  rintro e w1 ⟨r, rfl, hb1, hr1⟩
  have hk1 := hk0.below hb1 hk0.lt
  replace hb1 := below_next hb0 hb0.size hb1
  rcases hr1 with rfl | hs
  · go_wp2
    go_ret
    exact ⟨rfl, hb1⟩
  · have hlen := (hs.len (by decide)).1
    have hdat : ∀ k, k < n → (l.getD k ck0).2.size ≤ 1048576 := fun k hk => hs.data (by decide) k (by omega)
    have h0 := hs.1
    have hdr : decide (r < 0) = false := by simp; omega
    rw [hl] at hlen
    have HL := Lib.hid hl
    have HS := Lib.hid hs; clear hs
    obtain ⟨b0, b1⟩ := hk1.two
    go_wp2_with fail
    refine (toBuffer_any nx (B := w.heap.size) hb1.size (hr.below hb1 (Nat.le_refl _)) hlen HL).mono ?_
    rintro e w2 ⟨g2, rfl, hg2, hb2, ho2⟩
    have hk2 := hk1.below hb2 hk1.lt
    replace hb2 := below_next hb1 hb1.size hb2
    clear b0 b1
    obtain ⟨b0, b1⟩ := hk2.two
    go_wp2_with fail
    refine (sIns (B := w2.heap.size) nx of d hds hnx hof2 hof1 (Nat.le_refl _) (own_rd ho2) hlen HL hdat hw (fun e => by cases e)).mono ?_
    rintro e w3 ⟨A3, c3, rfl, hb3, ho3⟩
    have o3 := OwR.of_own ho3
    obtain ⟨L, hL⟩ : ∃ L, insV nx l of d = L := ⟨_, rfl⟩
    rw [hL] at o3 ⊢
    have hLn : L.length ≤ 1048577 := by rw [← hL]; exact Nat.le_trans (insV_len nx l of d) (by omega)
    obtain ⟨q, hq⟩ : ∃ q, L.length = q := ⟨_, rfl⟩
    rw [hq] at hLn o3 ⊢
    have hself2 := eqBb_self nx L
    have hself := eqBb_self nx l
    have hq9 : q ≤ 9223372036854775807 := Nat.le_trans hLn (by decide)
    have hn9 : n ≤ 9223372036854775807 := Nat.le_trans hlen (by decide)
    have HQ := Lib.hid hq; have HLL := Lib.hid hL
    clear hq hL b0 b1 ho3
    have kA := hk2
    have hb := hb2
    clear hk2 hb2
    replace kA := kA.below hb3 kA.lt
    replace hb := below_next hb hb.size hb3
    clear hb3
    go_upto_region 8 with (fail)
    have al := bbox w3 (.int .i64 nx) (.slice A3 q c3) 28
    have k7 : Bk (w3.alloc (.cells #[(.int .i64 nx), (.slice A3 q c3)] 28)) w3.heap.size 28 #[(.int .i64 nx), (.slice A3 q c3)] := heap_alloc_new w3 _
    have lt_g7 : w.heap.size < w3.heap.size := kA.lt
    replace kA := kA.below al kA.lt
    replace o3 := o3.below al
    replace hb := below_next hb hb.size al
    clear al
    generalize w3.alloc (.cells #[(.int .i64 nx), (.slice A3 q c3)] 28) = w4 at kA k7 o3 hb ⊢
    generalize w3.heap.size = g7 at k7 lt_g7   ⊢
    try clear b0 b1
    obtain ⟨b0, b1⟩ := kA.two
    go_wp2_with fail
    refine (toBuffer_any nx (B := w.heap.size) hb.size (hr.below hb (Nat.le_refl _)) hlen HL).mono ?_
    rintro e w5 ⟨g5, rfl, hg5, hb5, o5⟩
    have lt75 : g7 < g5 := Nat.lt_of_lt_of_le k7.lt hg5
    have ltA5 : w.heap.size < g5 := Nat.lt_trans lt_g7 lt75
    have ne35 : ∀ k, blk A3 = some k → k < g5 := fun k hk => Nat.lt_of_lt_of_le (o3.at_ hk).2 hg5
    replace kA := kA.below hb5 kA.lt
    replace k7 := k7.below hb5 k7.lt
    replace o3 := o3.below hb5
    replace hb := below_next hb hb.size hb5
    clear hb5 b0 b1
    replace o5 := own_lower o5 (Nat.zero_le _)
    go_upto_region 9 with (fail)
    have al := bbox w5 (.int .i64 nx) (.slice (some ⟨g5, 0, none⟩) n n) 28
    have k8 : Bk (w5.alloc (.cells #[(.int .i64 nx), (.slice (some ⟨g5, 0, none⟩) n n)] 28)) w5.heap.size 28 #[(.int .i64 nx), (.slice (some ⟨g5, 0, none⟩) n n)] := heap_alloc_new w5 _
    have lt_g8 : w.heap.size < w5.heap.size := kA.lt
    have lt_g7_g8 : g7 < w5.heap.size := k7.lt
    have lt58 : g5 < w5.heap.size := (o5.lt g5 rfl).2
    replace kA := kA.below al kA.lt
    replace k7 := k7.below al k7.lt
    replace o5 := own_step o5 al
    replace o3 := o3.below al
    replace hb := below_next hb hb.size al
    clear al
    generalize w5.alloc (.cells #[(.int .i64 nx), (.slice (some ⟨g5, 0, none⟩) n n)] 28) = w6 at kA k7 k8 o5 o3 hb ⊢
    generalize w5.heap.size = g8 at k8 lt_g8 lt_g7_g8 lt58 ⊢
    obtain ⟨d0, d1⟩ := k8.two
    go_wp2_with fail
    refine (iIns (B := w6.heap.size) nx of d hds hnx hof2 hof1 (Nat.le_refl _) (own_rd o5) hlen HL hdat hw (fun e => by cases e)).mono ?_
    rintro e w7 ⟨A7, c7, rfl, hb7, ho7⟩
    have o7 := OwR.of_own ho7
    clear ho7
    rw [HLL.out] at o7 ⊢
    rw [HQ.out] at o7 ⊢
    have ge7 : ∀ k, blk A7 = some k → g8 < k ∧ g5 < k ∧ g7 < k ∧ w.heap.size < k := fun k hk => ⟨Nat.lt_of_lt_of_le k8.lt (o7.at_ hk).1, Nat.lt_of_lt_of_le (o5.lt g5 rfl).2 (o7.at_ hk).1, Nat.lt_of_lt_of_le k7.lt (o7.at_ hk).1, Nat.lt_of_lt_of_le kA.lt (o7.at_ hk).1⟩
    have ne37 : ∀ k, blk A7 = some k → blk A3 ≠ some k := fun k hk e => Nat.lt_irrefl _ (Nat.lt_of_lt_of_le (Nat.lt_trans (ne35 k e) (o5.lt g5 rfl).2) (o7.at_ hk).1)
    replace kA := kA.below hb7 kA.lt
    replace k7 := k7.below hb7 k7.lt
    replace k8 := k8.below hb7 k8.lt
    replace o5 := own_step o5 hb7
    replace o3 := o3.below hb7
    replace hb := below_next hb hb.size hb7
    clear hb7 d0 d1
    replace o7 := o7.lower (Nat.zero_le _)
    go_upto_region 10 with (fail)
    have al := bbox w7 (.int .i64 nx) (.slice A7 q c7) 28
    have k10 : Bk (w7.alloc (.cells #[(.int .i64 nx), (.slice A7 q c7)] 28)) w7.heap.size 28 #[(.int .i64 nx), (.slice A7 q c7)] := heap_alloc_new w7 _
    have lt_g10 : w.heap.size < w7.heap.size := kA.lt
    have lt_g7_g10 : g7 < w7.heap.size := k7.lt
    have lt_g8_g10 : g8 < w7.heap.size := k8.lt
    have ne710 : ∀ k, blk A7 = some k → k < w7.heap.size := fun k hk => (o7.at_ hk).2
    replace kA := kA.below al kA.lt
    replace k7 := k7.below al k7.lt
    replace k8 := k8.below al k8.lt
    replace o5 := own_step o5 al
    replace o3 := o3.below al
    replace o7 := o7.below al
    replace hb := below_next hb hb.size al
    clear al
    generalize w7.alloc (.cells #[(.int .i64 nx), (.slice A7 q c7)] 28) = w8 at kA k7 k8 k10 o5 o3 o7 hb ⊢
    generalize w7.heap.size = g10 at k10 lt_g10 lt_g7_g10 lt_g8_g10 ne710 ⊢
    obtain ⟨r0, r1⟩ := k10.two
    obtain ⟨s0, s1⟩ := k7.two
    go_wp2_with fail
    refine (eqBuffer_any nx nx L L q q _ _ _ _ _ o7.rd o3.rd hq9 hq9 HQ.out HQ.out).mono ?_
    rintro e w9 ⟨rfl, hbx⟩
    rw [hself2]
    replace kA := kA.below hbx kA.lt
    replace k7 := k7.below hbx k7.lt
    replace k8 := k8.below hbx k8.lt
    replace k10 := k10.below hbx k10.lt
    replace o5 := own_step o5 hbx
    replace o3 := o3.below hbx
    replace o7 := o7.below hbx
    replace hb := below_next hb hb.size hbx
    clear hbx r0 r1 s0 s1
    obtain ⟨b0, b1⟩ := kA.two
    obtain ⟨d0, d1⟩ := k8.two
    have hlt1 := kA.lt
    have hlt2 := k8.lt
    go_wp2_with fail
    go_region_held3 (fun w' => w'.cell? ⟨w.heap.size, 0, none⟩ = some (.int .i64 nx) ∧ w'.cell? ⟨w.heap.size, 1, none⟩ = some (.slice A n c) ∧ w'.cell? ⟨g8, 0, none⟩ = some (.int .i64 nx) ∧ w'.cell? ⟨g8, 1, none⟩ = some (.slice (some ⟨g5, 0, none⟩) n n))
      (first | go_keep | exact ⟨s0, s1, s2, s3⟩ | exact ⟨t0, t1, t2, t3⟩)
      (first
        | (go_at_call 8; refine (toBuffer_any nx (B := w.heap.size) hb.drew.size (hr.below hb.drew (Nat.le_refl _)) hlen HL).mono ?_; rintro e w10 ⟨g11, rfl, hg11, hb8, ho8⟩; have s0 := (hb8.cell (p := ⟨w.heap.size, 0, none⟩) hlt1).trans b0; have s1 := (hb8.cell (p := ⟨w.heap.size, 1, none⟩) hlt1).trans b1; have s2 := (hb8.cell (p := ⟨g8, 0, none⟩) hlt2).trans d0; have s3 := (hb8.cell (p := ⟨g8, 1, none⟩) hlt2).trans d1; have ho48 := own_step o5.drew hb8; have hb08 := below_next hb.drew hb.drew.size hb8)
        | (go_at_call 10; refine (eqBuffer_any nx nx l l n n _ _ _ _ _ (own_rd ho48) (own_rd ho8) hn9 hn9 hl hl).mono ?_; rintro e w11 ⟨rfl, hb9⟩; rw [hself]; have t0 := (hb9.cell (p := ⟨w.heap.size, 0, none⟩) (Nat.lt_of_lt_of_le hlt1 hb8.size)).trans s0; have t1 := (hb9.cell (p := ⟨w.heap.size, 1, none⟩) (Nat.lt_of_lt_of_le hlt1 hb8.size)).trans s1; have t2 := (hb9.cell (p := ⟨g8, 0, none⟩) (Nat.lt_of_lt_of_le hlt2 hb8.size)).trans s2; have t3 := (hb9.cell (p := ⟨g8, 1, none⟩) (Nat.lt_of_lt_of_le hlt2 hb8.size)).trans s3; have hb09 := below_next hb08 hb08.size hb9))
    have hbD := below_next (show Below w9.heap.size w9 w9.drew from (Below.refl _ _).drew) (Nat.le_refl _) hb8
    replace hb := hb09
    replace hb9 := below_next hbD hbD.size hb9
    replace kA := kA.below hb9 kA.lt
    replace k7 := k7.below hb9 k7.lt
    replace k8 := k8.below hb9 k8.lt
    replace k10 := k10.below hb9 k10.lt
    replace o5 := own_step o5 hb9
    replace o3 := o3.below hb9
    replace o7 := o7.below hb9
    clear b0 b1 d0 d1 s0 s1 s2 s3 t0 t1 t2 t3 ho48 ho8 hb8 hb9 hbD hb08 hb09 hlt1 hlt2
    obtain ⟨d0, d1⟩ := k8.two
    go_wp2_with fail
    refine (markBuffer_any nx 1 o5 (Nat.zero_le _) (by decide) (by decide) (by omega)).mono ?_
    rintro e w12 ⟨rfl, o5', hg12⟩
    have hg : w11.grownBy w12 (some g5) := hg12
    replace hb := below_only hb hg hb.size (fun k hk => by injection hk; omega)
    replace kA := kA.grown hg (fun e => by injection e; omega)
    replace k7 := k7.grown hg (fun e => by injection e; omega)
    replace k8 := k8.grown hg (fun e => by injection e; omega)
    replace k10 := k10.grown hg (fun e => by injection e; have := lt_g8_g10; omega)
    replace o3 := o3.other hg (fun k hk e => by injection hk; have := ne35 k e; omega)
    replace o7 := o7.other hg (fun k hk e => by injection hk; have := (ge7 k e).2.1; omega)
    clear o5 o5' hg hg12 d0 d1
    obtain ⟨zk, hzk⟩ : ∃ zk : Int, ((1 + 2 * n : Nat) : Int) = zk := ⟨_, rfl⟩
    have hzk0 : decide (zk < 0) = false := by simp; omega
    rw [hzk]
    clear hzk
    obtain ⟨r0, r1⟩ := k10.two
    obtain ⟨s0, s1⟩ := k7.two
    go_wp2_with fail
    refine (eqBuffer_any nx nx L L q q _ _ _ _ _ o7.rd o3.rd hq9 hq9 HQ.out HQ.out).mono ?_
    rintro e w13 ⟨rfl, hbx⟩
    rw [hself2]
    replace kA := kA.below hbx kA.lt
    replace k7 := k7.below hbx k7.lt
    replace k8 := k8.below hbx k8.lt
    replace k10 := k10.below hbx k10.lt
    replace o3 := o3.below hbx
    replace o7 := o7.below hbx
    replace hb := below_next hb hb.size hbx
    clear hbx r0 r1 s0 s1
    obtain ⟨r0, r1⟩ := k10.two
    go_wp2_with fail
    refine (markBuffer_off nx 1 o7 (Nat.zero_le _) (by decide) (by decide) (by omega)).mono ?_
    rintro e w14 ⟨rfl, o7', hg⟩
    replace hb := below_only hb hg hb.size (fun k hk => Nat.le_of_lt (ge7 k hk).2.2.2)
    replace kA := kA.grown hg (fun e => Nat.lt_irrefl _ (ge7 _ e.symm).2.2.2)
    replace k7 := k7.grown hg (fun e => Nat.lt_irrefl _ (ge7 _ e.symm).2.2.1)
    replace k8 := k8.grown hg (fun e => Nat.lt_irrefl _ (ge7 _ e.symm).1)
    replace k10 := k10.grown hg (fun e => Nat.lt_irrefl _ (ne710 _ e.symm))
    replace o3 := o3.other hg (fun k hk e => ne37 k hk e)
    clear o7 hg r0 r1
    have o7 := o7'
    clear o7'
    obtain ⟨zm, hzm⟩ : ∃ zm : Int, ((1 + 2 * q : Nat) : Int) = zm := ⟨_, rfl⟩
    have hzm0 : decide (zm < 0) = false := by simp; omega
    rw [hzm]
    have HZM := Lib.hid hzm
    clear hzm
    obtain ⟨r0, r1⟩ := k10.two
    go_wp2_with fail
    refine (heldBuffer_any nx 1 o7.rd (Nat.le_refl _) (by decide) (by decide) (by omega)).mono ?_
    rintro e w15 ⟨rfl, hbx⟩
    rw [HZM.out]
    replace kA := kA.below hbx kA.lt
    replace k7 := k7.below hbx k7.lt
    replace k8 := k8.below hbx k8.lt
    replace k10 := k10.below hbx k10.lt
    replace o3 := o3.below hbx
    replace o7 := o7.below hbx
    replace hb := below_next hb hb.size hbx
    clear hbx r0 r1
    try clear b0 b1
    obtain ⟨b0, b1⟩ := kA.two
    go_wp2_with fail
    refine (toBuffer_any nx (B := w.heap.size) hb.size (hr.below hb (Nat.le_refl _)) hlen HL).mono ?_
    rintro e w16 ⟨g16, rfl, hg16, hbx, o16⟩
    replace kA := kA.below hbx kA.lt
    replace k7 := k7.below hbx k7.lt
    replace k8 := k8.below hbx k8.lt
    replace k10 := k10.below hbx k10.lt
    replace o3 := o3.below hbx
    replace o7 := o7.below hbx
    replace hb := below_next hb hb.size hbx
    clear hbx b0 b1
    go_wp2_with fail
    refine (iIns (B := w16.heap.size) nx of d hds hnx hof2 hof1 (Nat.le_refl _) (own_rd o16) hlen HL hdat hw (fun e => by cases e)).mono ?_
    rintro e w17 ⟨A17, c17, rfl, hbx, ho17⟩
    have o17 := OwR.of_own ho17
    clear ho17
    rw [HLL.out] at o17 ⊢
    rw [HQ.out] at o17 ⊢
    replace kA := kA.below hbx kA.lt
    replace k7 := k7.below hbx k7.lt
    replace k8 := k8.below hbx k8.lt
    replace k10 := k10.below hbx k10.lt
    replace o3 := o3.below hbx
    replace o7 := o7.below hbx
    replace hb := below_next hb hb.size hbx
    clear hbx o16
    go_upto_region 27 with (fail)
    have al := bbox w17 (.int .i64 nx) (.slice A17 q c17) 28
    have k15 : Bk (w17.alloc (.cells #[(.int .i64 nx), (.slice A17 q c17)] 28)) w17.heap.size 28 #[(.int .i64 nx), (.slice A17 q c17)] := heap_alloc_new w17 _
    have lt_g15 : w.heap.size < w17.heap.size := kA.lt
    have lt_g7_g15 : g7 < w17.heap.size := k7.lt
    have lt_g8_g15 : g8 < w17.heap.size := k8.lt
    have lt_g10_g15 : g10 < w17.heap.size := k10.lt
    replace kA := kA.below al kA.lt
    replace k7 := k7.below al k7.lt
    replace k8 := k8.below al k8.lt
    replace k10 := k10.below al k10.lt
    replace o3 := o3.below al
    replace o7 := o7.below al
    replace o17 := o17.below al
    replace hb := below_next hb hb.size al
    clear al
    generalize w17.alloc (.cells #[(.int .i64 nx), (.slice A17 q c17)] 28) = w18 at kA k7 k8 k10 k15 o3 o7 o17 hb ⊢
    generalize w17.heap.size = g15 at k15 lt_g15 lt_g7_g15 lt_g8_g15 lt_g10_g15  ⊢
    obtain ⟨r0, r1⟩ := k15.two
    obtain ⟨s0, s1⟩ := k7.two
    go_wp2_with fail
    refine (eqBuffer_any nx nx L L q q _ _ _ _ _ o17.rd o3.rd hq9 hq9 HQ.out HQ.out).mono ?_
    rintro e w19 ⟨rfl, hbx⟩
    rw [hself2]
    replace kA := kA.below hbx kA.lt
    replace k7 := k7.below hbx k7.lt
    replace k8 := k8.below hbx k8.lt
    replace k10 := k10.below hbx k10.lt
    replace k15 := k15.below hbx k15.lt
    replace o3 := o3.below hbx
    replace o7 := o7.below hbx
    replace o17 := o17.below hbx
    replace hb := below_next hb hb.size hbx
    clear hbx r0 r1 s0 s1
    obtain ⟨r0, r1⟩ := k10.two
    go_wp2_with fail
    refine (heldBuffer_any nx 1 o7.rd (Nat.le_refl _) (by decide) (by decide) (by omega)).mono ?_
    rintro e w20 ⟨rfl, hbx⟩
    rw [HZM.out]
    replace kA := kA.below hbx kA.lt
    replace k7 := k7.below hbx k7.lt
    replace k8 := k8.below hbx k8.lt
    replace k10 := k10.below hbx k10.lt
    replace k15 := k15.below hbx k15.lt
    replace o3 := o3.below hbx
    replace o7 := o7.below hbx
    replace o17 := o17.below hbx
    replace hb := below_next hb hb.size hbx
    clear hbx r0 r1
    go_wp2
    go_ret
    exact ⟨rfl, hb⟩
end Go.Proofs.Ytnndhkdigmkddaa
