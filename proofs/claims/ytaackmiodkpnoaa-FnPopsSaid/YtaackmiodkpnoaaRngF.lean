/- Contracts of CommonRanges of the implementation. No conditions. -/
import Derived.Test.YtaackmiodkpnoaaRngC
import Derived.Maps.AppendAt
namespace Go.Proofs.Ytaackmiodkpnoaa
open Go.ChangeShapes Go.WideShapes Go.ChangeAt Go.RowKit Go.Sort RM
set_option linter.unusedVariables false
/-- The state of a call that builds a slice of ranges. -/
structure Own (w wr : World) (v : Value) (L : List R) : Prop where
  own : wr.ownsRow w.heap.size 31 2 v L.length (encR L)
  bel : Below w.heap.size w wr
theorem Own.below {w wr w1 : World} {v : Value} {L : List R} (h : Own w wr v L) (hb : Below wr.heap.size wr w1) : Own w w1 v L :=
  ⟨own_step h.own hb, below_next h.bel h.bel.size hb⟩
theorem Own.app {w wr Wp w1 : World} {x y : Int} {v v' : Value} {L : List R} {m : Nat} (h : Own w wr v L) (hp : Below wr.heap.size wr Wp) (hm : m = L.length + 1) (ho : w1.ownsRow w.heap.size 31 2 v' m (encR L ++ [.int .i64 x, .int .i64 y])) (hg : Wp.grownBy w1 v.ownBlock) : Own w w1 v' (L ++ [(x, y)]) := by
  have h1 := h.below hp
  subst hm
  refine ⟨by rw [encR_snoc]; simpa using ho, h1.bel.grown hg h1.bel.size (fun k hk => (h.own.lt _ hk).1)⟩
theorem Own.fin {w wr : World} {v : Value} {L : List R} (h : Own w wr v L) : OutR w L (.returned v) wr := OutR.of_own h.bel h.own rfl
/-- A box beside the row that is built. -/
structure Box (wr : World) (v : Value) (g : Nat) (x y : Int) : Prop where
  bk : Bk wr g 31 #[.int .i64 x, .int .i64 y]
  ne : v.ownBlock ≠ some g
theorem Box.below {wr w1 : World} {v : Value} {g : Nat} {x y : Int} (h : Box wr v g x y) (hb : Below wr.heap.size wr w1) : Box w1 v g x y := ⟨h.bk.below hb h.bk.lt, h.ne⟩
theorem Box.app {wr Wp w1 : World} {v v' : Value} {g : Nat} {x y : Int} (h : Box wr v g x y) (hp : Below wr.heap.size wr Wp) (hg : Wp.grownBy w1 v.ownBlock) (hat : v'.ownBlock = v.ownBlock ∨ v'.ownBlock = some Wp.heap.size) : Box w1 v' g x y := by
  refine ⟨(h.bk.below hp h.bk.lt).grown hg (fun e => h.ne e.symm), fun e => ?_⟩
  rcases hat with k | k
  · exact h.ne (k.symm.trans e)
  · have := h.bk.lt
    have := hp.size
    rw [k] at e
    injection e with e
    omega
theorem com_snoc {l : List R} {k : Nat} {x y : Int} (f : R → List R) (hk : k < l.length) (h : l.getD k (0, 0) = (x, y)) : (l.take (k + 1)).flatMap f = (l.take k).flatMap f ++ f (x, y) := by
  rw [take_snoc hk h, List.flatMap_append]; simp
theorem com_len (a b : List R) (k j n n' : Nat) (x : R) (ha : a.length = n) (hb : b.length = n') (hk : k < n) (hn : n ≤ 1048576) (hn' : n' ≤ 1048576) :
    ((a.take k).flatMap (fun x => b.flatMap fun y => comOne x y)).length + ((b.take j).flatMap fun y => comOne x y).length ≤ 1099511627776 := by
  have h1 := comAll_len (a.take k) b
  unfold comAll at h1
  have h2 := comRow_len x (b.take j)
  have h3 : (a.take k).length ≤ n - 1 := by rw [List.length_take]; omega
  have h4 : (b.take j).length ≤ n' := by rw [List.length_take]; omega
  have h5 : (a.take k).length * b.length ≤ (n - 1) * n' := by rw [hb]; exact Nat.mul_le_mul_right _ h3
  have h6 : (n - 1) * n' + n' = n * n' := by rw [← Nat.succ_mul]; congr 1; omega
  have h7 : n * n' ≤ 1048576 * 1048576 := Nat.mul_le_mul hn hn'
  omega
theorem Own.drewN {w wr : World} {v : Value} {L : List R} (h : Own w wr v L) (n : Nat) : Own w (wr.drewN n) v L := ⟨h.own, below_drewN h.bel n⟩
theorem Box.drewN {wr : World} {v : Value} {g : Nat} {x y : Int} (h : Box wr v g x y) (n : Nat) : Box (wr.drewN n) v g x y := ⟨h.bk, h.ne⟩
theorem comOne_if {x y x2 y2 lo hi : Int} (h1 : (if x < x2 then x2 else x) = lo) (h2 : (if y2 < y then y2 else y) = hi) : comOne (x, y) (x2, y2) = if lo < hi then [(lo, hi)] else [] := by
  unfold comOne
  rw [max_if, min_if, h1, h2]
set_option maxRecDepth 20000 in
set_option maxHeartbeats 2000000 in
theorem iCom {A A' : Option Addr} {c c' n n' : Nat} {w : World} {B : Nat} {a b : List R} (hB : B ≤ w.heap.size) (hr : Rd w B A (encR a)) (hs : Rd w B A' (encR b)) (hm : n ≤ 1048576) (hm' : n' ≤ 1048576) (HA : Hid (a.length = n)) (HB : Hid (b.length = n')) :
    Calls Try.prog 12 #[.slice A n c, .slice A' n' c'] w (OutR w (comR a b)) := by
  obtain ⟨i0, hi, hz0, hz1, hz2⟩ := info_parts info_rng
  have hown := own_empty w w.heap.size 31 2 (Nat.le_refl _)
  have hb1 : Below w.heap.size w (w.alloc (.cells #[] 31)) := (Below.refl _ _).alloc (Nat.le_refl _) _
  have HV0 : Hid (Own w (w.alloc (.cells #[] 31)) (.slice (some ⟨w.heap.size, 0, none⟩) 0 0) []) := ⟨hown, hb1⟩
  clear hown
  cases hI : isRs a
  · have HR := Lib.hid (show comR a b = [] by unfold comR; rw [hI]; rfl)
    go_enter Try.func12, Try.ntmps12
    go_wp2_with fail
    generalize w.alloc (.cells #[] 31) = w1 at hb1 HV0 ⊢
    refine (iIs (B := B) (by have := hb1.size; omega) (hr.below hb1 hB) (by omega) HA).mono ?_
    rintro e w2 ⟨rfl, hb2⟩
    have HV1 := Lib.hid (HV0.out.below hb2)
    rw [hI]
    go_wp2
    go_ret
    rw [HR.out]
    exact HV1.out.fin
  · cases hJ : isRs b
    · have HR := Lib.hid (show comR a b = [] by unfold comR; rw [hI, hJ]; rfl)
      go_enter Try.func12, Try.ntmps12
      go_wp2_with fail
      generalize w.alloc (.cells #[] 31) = w1 at hb1 HV0 ⊢
      refine (iIs (B := B) (by have := hb1.size; omega) (hr.below hb1 hB) (by omega) HA).mono ?_
      rintro e w2 ⟨rfl, hb2⟩
      have h02 := below_next hb1 hb1.size hb2
      have HV1 := Lib.hid (HV0.out.below hb2)
      rw [hI]
      go_wp2_with fail
      refine (iIs (B := B) (by have := h02.size; omega) (hs.below h02 hB) (by omega) HB).mono ?_
      rintro e w3 ⟨rfl, hb3⟩
      have HV2 := Lib.hid (HV1.out.below hb3)
      rw [hJ]
      go_wp2
      go_ret
      rw [HR.out]
      exact HV2.out.fin
    · have HR := Lib.hid (show comR a b = a.flatMap (fun x => b.flatMap fun y => comOne x y) by unfold comR; rw [hI, hJ]; rfl)
      go_enter Try.func12, Try.ntmps12
      go_wp2_with fail
      generalize w.alloc (.cells #[] 31) = w1 at hb1 HV0 ⊢
      refine (iIs (B := B) (by have := hb1.size; omega) (hr.below hb1 hB) (by omega) HA).mono ?_
      rintro e w2 ⟨rfl, hb2⟩
      have h02 := below_next hb1 hb1.size hb2
      have HV1 := Lib.hid (HV0.out.below hb2)
      rw [hI]
      go_wp2_with fail
      refine (iIs (B := B) (by have := h02.size; omega) (hs.below h02 hB) (by omega) HB).mono ?_
      rintro e w3 ⟨rfl, hb3⟩
      have HV2 := Lib.hid (HV1.out.below hb3)
      rw [hJ]
      have HI := Lib.hid hI; clear hI
      have HJ := Lib.hid hJ; clear hJ
      clear HV0 HV1 hb1 hb2 hb3 h02
      go_wp2
      go_loopw [5, 24] (fun v i wr => ∃ k : Nat, k ≤ n ∧ i = .int .i64 k ∧ Own w wr v ((a.take k).flatMap fun x => b.flatMap fun y => comOne x y)) (fun v i _ => n - (intOf i).toNat)
      case atStart => exact ⟨0, Nat.zero_le _, rfl, HV2.out⟩
      case round =>
        obtain ⟨k, hk, rfl, hinv⟩ := hrel
        clear HV2
        have HV := Lib.hid hinv; clear hinv
        by_cases hlt : k < n
        · obtain ⟨b', off', x, y, rfl, hb', HX, d0, d1⟩ := (hr.below HV.out.bel hB).rng (k := k) (by rw [HA.out]; exact hlt)
          have HS := Lib.hid (com_snoc (fun x => b.flatMap fun y => comOne x y) (by rw [HA.out]; exact hlt) HX.out)
          have HLN := Lib.hid (fun j => com_len a b k j n n' (x, y) HA.out HB.out hlt hm hm')
          generalize (a.take k).flatMap (fun x => b.flatMap fun y => comOne x y) = L at HV HS HLN ⊢
          have hp1 : Below wr.heap.size wr (wr.alloc (.cells #[.int .i64 x, .int .i64 y] 31)) := (Below.refl _ _).alloc (Nat.le_refl _) _
          have HV3 := Lib.hid (HV.out.below hp1)
          have HBX : Hid (Box (wr.alloc (.cells #[.int .i64 x, .int .i64 y] 31)) u5 wr.heap.size x y) := ⟨heap_alloc_new wr _, fun e => by have := (HV.out.own.lt _ e).2; omega⟩
          clear hp1
          go_wp2
          clear HV d0 d1
          generalize hg : wr.heap.size = g at HBX ⊢
          generalize wr.alloc (.cells #[.int .i64 x, .int .i64 y] 31) = w4 at HV3 HBX ⊢
          clear hg
          go_loopw [5, 30] (fun v i wr => ∃ j : Nat, j ≤ n' ∧ i = .int .i64 j ∧ Own w wr v (L ++ (b.take j).flatMap (comOne (x, y))) ∧ Box wr v g x y) (fun v i _ => n' - (intOf i).toNat)
          case atStart => exact ⟨0, Nat.zero_le _, rfl, by simpa using HV3.out, HBX.out⟩
          case round =>
            obtain ⟨j, hj, rfl, hinv, hbox⟩ := hrel
            clear HV3 HBX
            have HV := Lib.hid hinv; have HBX := Lib.hid hbox
            clear hinv hbox
            by_cases hlt2 : j < n'
            · obtain ⟨b2, off2, x2, y2, rfl, hb2, HX2, e0, e1⟩ := (hs.below HV.out.bel hB).rng (k := j) (by rw [HB.out]; exact hlt2)
              have hp2 : Below wr.heap.size wr (wr.alloc (.cells #[.int .i64 x2, .int .i64 y2] 31)) := (Below.refl _ _).alloc (Nat.le_refl _) _
              have HV3 := Lib.hid (HV.out.below hp2)
              have HBX3 := Lib.hid (HBX.out.below hp2)
              have kb : Bk (wr.alloc (.cells #[.int .i64 x2, .int .i64 y2] 31)) wr.heap.size 31 #[.int .i64 x2, .int .i64 y2] := heap_alloc_new wr _
              have hgl : g < wr.heap.size := HBX.out.bk.lt
              go_wp2
              clear e0 e1 hp2 HV HBX
              generalize wr.heap.size = gy at kb hgl ⊢
              generalize wr.alloc (.cells #[.int .i64 x2, .int .i64 y2] 31) = W1 at HV3 HBX3 kb ⊢
              have q0 := HBX3.out.bk.cell 0
              have q1 := HBX3.out.bk.cell 1
              have r0 := kb.cell 0
              have r1 := kb.cell 1
              go_quiet (fail)
              obtain ⟨lo, hlo⟩ : ∃ lo, (if x < x2 then x2 else x) = lo := ⟨_, rfl⟩
              obtain ⟨hi', hhi⟩ : ∃ hi', (if y2 < y then y2 else y) = hi' := ⟨_, rfl⟩
              have HC := Lib.hid (comOne_if hlo hhi)
              rw [hlo, hhi]
              clear hlo hhi q0 q1 r0 r1 kb hgl
              have HS2 := Lib.hid (com_snoc (comOne (x, y)) (by rw [HB.out]; exact hlt2) HX2.out)
              have HL2 := Lib.hid (HLN.out j)
              have HV4 := Lib.hid (HV3.out.drewN nq)
              have HBX4 := Lib.hid (HBX3.out.drewN nq)
              clear HV3 HBX3
              generalize W1.drewN nq = W2 at HV4 HBX4 ⊢
              generalize (b.take j).flatMap (comOne (x, y)) = M at HV4 HS2 HL2 ⊢
              have hlen := Lib.hid (show (L ++ M).length ≤ 1099511627776 by have := HL2.out; rw [List.length_append]; exact this)
              by_cases hlh : lo < hi'
              · have HC2 := Lib.hid (show comOne (x, y) (x2, y2) = [(lo, hi')] by rw [HC.out, if_pos hlh])
                have hp3 : Below W2.heap.size W2 (W2.alloc (.cells #[.int .i64 lo, .int .i64 hi'] 31)) := (Below.refl _ _).alloc (Nat.le_refl _) _
                have HP3 := Lib.hid hp3; clear hp3
                go_wp2_with (at_builtin; refine wpList_append_own_at _ rfl _ _ 24 rfl w.heap.size 31 i0 (.agg #[.int .i64 0, .int .i64 0]) 2 16 Try.underlying24 hi hz0 hz1 hz2 rfl (by decide) _ _ _ rfl (HV4.out.own.alloc _) ⟨W2.heap.size, 0, none⟩ 1 1 [.int .i64 lo, .int .i64 hi'] rfl rfl (news2 _ _ (by simp)) (one2 _ _) (by have := hlen.out; unfold maxLen; omega) (by have := hlen.out; omega) (by have := HV4.out.bel.size; simp; omega) ?_)
                intro v1 W3 hown1 hgrow1 hnil1 hat1
                have HV5 := Lib.hid (HV4.out.app HP3.out (by simp) hown1 hgrow1)
                have HBX5 := Lib.hid (HBX4.out.app HP3.out hgrow1 (by simpa using hat1))
                clear hown1 hgrow1 hnil1 hat1
                go_wp2
                go_roundw
                case rel => exact ⟨j + 1, by omega, by go_num, by rw [HS2.out, HC2.out, ← List.append_assoc]; exact HV5.out, HBX5.out⟩
                case measure => simp [intOf]; omega
              · have HC2 := Lib.hid (show comOne (x, y) (x2, y2) = [] by rw [HC.out, if_neg hlh])
                go_wp2
                go_roundw
                case rel => exact ⟨j + 1, by omega, by go_num, by rw [HS2.out, HC2.out, List.append_nil]; exact HV4.out, HBX4.out⟩
                case measure => simp [intOf]; omega
            · go_wp2
              go_roundw
              case rel => exact ⟨k + 1, by omega, by go_num, by rw [HS.out]; have := HV.out; rw [gap_all HB.out (by omega)] at this; exact this⟩
              case measure => simp [intOf]; omega
        · go_wp2
          go_ret
          rw [HR.out]
          have := HV.out.fin
          rwa [gap_all HA.out (by omega)] at this
end Go.Proofs.Ytaackmiodkpnoaa
