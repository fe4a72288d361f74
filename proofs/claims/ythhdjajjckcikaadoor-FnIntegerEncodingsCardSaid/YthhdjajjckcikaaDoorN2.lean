/- ParseInt: one contract for each package. The library's listed variables are premises on the world. -/
import Derived.Test.YthhdjajjckcikaaDoorNL1
import Derived.Lib.AtoiErrMem
namespace Go.Proofs.YthhdjajjckcikaaDoor
open Go.ChangeShapes Go.WideShapes Go.ChangeAt Go.RowKit Go.Sort
set_option linter.unusedVariables false
set_option linter.unusedSimpArgs false
/-- The two errors of the library hold interface values. -/
def Errs (w : World) : Prop := (∃ tp p, w.var? Tryd.prog "strconv.ErrSyntax" = some #[.iface tp p]) ∧ ∃ tp p, w.var? Tryd.prog "strconv.ErrRange" = some #[.iface tp p]
theorem Errs.below {w w' : World} {B : Nat} (h : Errs w) (hb : Below B w w') (hB : 2 ≤ B) : Errs w' := by
  obtain ⟨⟨t1, p1, h1⟩, ⟨t2, p2, h2⟩⟩ := h
  have k0 := hb.block 0 (by omega)
  have k1 := hb.block 1 (by omega)
  refine ⟨⟨t1, p1, ?_⟩, ⟨t2, p2, ?_⟩⟩
  · rw [← h1]; unfold World.var?
    simp only [show Tryd.prog.globalNamed "strconv.ErrSyntax" = some 0 from by kernel_rfl, Option.bind_some, k0]
  · rw [← h2]; unfold World.var?
    simp only [show Tryd.prog.globalNamed "strconv.ErrRange" = some 1 from by kernel_rfl, Option.bind_some, k1]
/-- What both packages' ParseInt accept. -/
def okP (l : List UInt8) : Bool := decide (l.length ≤ 10) && (decide (Lib.itoa (NM.signed l) = l) && (decide (-999999999 ≤ NM.signed l) && decide (NM.signed l ≤ 999999999)))
theorem okP_iff (l : List UInt8) : okP l = true ↔ NM.parses l (NM.signed l) := by
  unfold okP NM.parses
  simp only [Bool.and_eq_true, decide_eq_true_eq]
  constructor
  · rintro ⟨_, h1, h2, h3⟩; exact ⟨h1, h2, h3⟩
  · rintro ⟨h1, h2, h3⟩
    have := ((NM.specOk_iff l).2 ⟨h1, h2, h3⟩).2.1
    exact ⟨this, h1, h2, h3⟩
theorem okP_long {l : List UInt8} (h : 10 < l.length) : okP l = false := by
  unfold okP; rw [show decide (l.length ≤ 10) = false by simp; omega]; rfl
def paV (l : List UInt8) : Int := if okP l then NM.signed l else 0
theorem okP_impl {l : List UInt8} {v : Int} (h : Lib.atoiAll l = .ok v) (h2 : Lib.itoa v = l) (h3 : -999999999 ≤ v) (h4 : v ≤ 999999999) : okP l = true ∧ NM.signed l = v := by
  have hp : NM.parses l v := ⟨h2, h3, h4⟩
  have hs := NM.parses_signed hp
  rw [hs] at hp
  exact ⟨(okP_iff l).2 hp, hs.symm⟩
theorem okP_no {l : List UInt8} (h : ∀ v, Lib.atoiAll l = .ok v → Lib.itoa v = l → -999999999 ≤ v → v ≤ 999999999 → False) : okP l = false := by
  rw [Bool.eq_false_iff]
  intro hk
  have hp := (okP_iff l).1 hk
  obtain ⟨a, b, c, d⟩ := (NM.impl_iff l _).2 hp
  exact h _ a b c d
theorem itB_neq {v : Int} {s : ByteArray} : (itB v = s) ↔ Lib.itoa v = s.data.toList := by
  constructor
  · rintro rfl; rfl
  · intro h; exact bytes_ext h
set_option maxRecDepth 20000 in
set_option maxHeartbeats 2000000 in
theorem iPar (s : ByteArray) (hs : s.size ≤ 1048576) (w : World) (ht : Tab w) (he : Errs w) : Calls Tryd.prog 16 #[.string s] w fun e w' => e = .returned (.tuple #[.int .i64 (paV s.data.toList), .bool (okP s.data.toList)]) ∧ Below w.heap.size w w' := by
  have hlen : s.data.toList.length = s.size := Array.length_toList
  have hlt := ht.lt
  by_cases hl : 10 < s.size
  · have hd : decide ((10 : Int) < (s.size : Int)) = true := by simp; omega
    have hk := okP_long (show 10 < s.data.toList.length by rw [hlen]; exact hl)
    have hv : paV s.data.toList = 0 := by unfold paV; rw [hk]; rfl
    rw [hk, hv]
    go_enter Tryd.func16, Tryd.ntmps16
    go_wp2
    go_ret2
    exact ⟨rfl, Below.refl _ _⟩
  · have hd : decide ((10 : Int) < (s.size : Int)) = false := by simp; omega
    rcases Tryd.isSyn_cases (Lib.atoiAll s.data.toList) with ha | ha | ⟨v, ha⟩
    · have hk : okP s.data.toList = false := okP_no (fun v h => by rw [h] at ha; exact absurd ha (fun h9 => by cases h9))
      have hv : paV s.data.toList = 0 := by unfold paV; rw [hk]; rfl
      rw [hk, hv]
      obtain ⟨⟨tp, p, hvar⟩, _⟩ := he
      go_enter Tryd.func16, Tryd.ntmps16
      go_wp2_with fail
      refine (Tryd.strconv_Atoi_syn_var s (by omega) ha tp p w hvar).mono ?_
      rintro e w1 ⟨N, rfl, _, _, hb1⟩
      go_wp2
      go_ret2
      exact ⟨rfl, hb1⟩
    · have hk : okP s.data.toList = false := okP_no (fun v h => by rw [ha] at h; cases h)
      have hv : paV s.data.toList = 0 := by unfold paV; rw [hk]; rfl
      rw [hk, hv]
      obtain ⟨_, ⟨tp, p, hvar⟩⟩ := he
      go_enter Tryd.func16, Tryd.ntmps16
      go_wp2_with fail
      refine (Tryd.strconv_Atoi_range_var s (by omega) ha tp p w hvar).mono ?_
      rintro e w1 ⟨N, rfl, _, _, hb1⟩
      go_wp2
      go_ret2
      exact ⟨rfl, hb1⟩
    · obtain ⟨hv0, hv1⟩ : -9223372036854775808 ≤ v ∧ v ≤ 9223372036854775807 := Lib.atoiAll_bounds ha
      have key : ∀ (x : Int) (b : Bool), (x = paV s.data.toList ∧ b = okP s.data.toList) → True := fun _ _ _ => trivial
      by_cases h2 : itB v = s
      · by_cases h3 : -999999999 ≤ v ∧ v ≤ 999999999
        · obtain ⟨hk, hsg⟩ := okP_impl ha (itB_neq.1 h2) h3.1 h3.2
          have hv : paV s.data.toList = v := by unfold paV; rw [hk, hsg]; rfl
          rw [hk, hv]
          have d1 : decide (-999999999 ≤ v) = true := by simp; omega
          have d2 : decide (v ≤ 999999999) = true := by simp; omega
          go_enter Tryd.func16, Tryd.ntmps16
          go_wp2_with fail
          refine (Tryd.strconv_Atoi_ok s (by omega) v ha w).mono ?_
          rintro e w1 ⟨rfl, hw1⟩
          have hb1 : Below w.heap.size w w1 := by
            rcases hw1 with rfl | ⟨t, rfl⟩
            · exact Below.refl _ _
            · exact Lib.bytesWorld_below w _ t
          clear hw1
          go_wp2_with fail
          refine (Tryd.strconv_Itoa v hv0 hv1 w1 (ht.below hb1 hlt)).mono ?_
          rintro e w2 ⟨rfl, k, os, rfl⟩
          have h02 := below_next hb1 hb1.size (below_grow w1 k os)
          rw [show (⟨(Lib.itoa v).toArray⟩ : ByteArray) = s from h2]
          generalize grow (w1.drewN k) os = w2 at h02 ⊢
          go_wp2_with (first | (go_at_call 21; go_in))
          go_ret2
          exact ⟨rfl, h02⟩
        · have hk : okP s.data.toList = false := okP_no (fun v' h _ h3' h4' => by rw [ha] at h; injection h with h; subst h; exact h3 ⟨h3', h4'⟩)
          have hv : paV s.data.toList = 0 := by unfold paV; rw [hk]; rfl
          rw [hk, hv]
          go_enter Tryd.func16, Tryd.ntmps16
          go_wp2_with fail
          refine (Tryd.strconv_Atoi_ok s (by omega) v ha w).mono ?_
          rintro e w1 ⟨rfl, hw1⟩
          have hb1 : Below w.heap.size w w1 := by
            rcases hw1 with rfl | ⟨t, rfl⟩
            · exact Below.refl _ _
            · exact Lib.bytesWorld_below w _ t
          clear hw1
          go_wp2_with fail
          refine (Tryd.strconv_Itoa v hv0 hv1 w1 (ht.below hb1 hlt)).mono ?_
          rintro e w2 ⟨rfl, k, os, rfl⟩
          have h02 := below_next hb1 hb1.size (below_grow w1 k os)
          rw [show (⟨(Lib.itoa v).toArray⟩ : ByteArray) = s from h2]
          generalize grow (w1.drewN k) os = w2 at h02 ⊢
          by_cases h5 : -999999999 ≤ v
          · have d1 : decide (-999999999 ≤ v) = true := by simp; omega
            have d2 : decide (v ≤ 999999999) = false := by simp; omega
            go_wp2_with (first | (go_at_call 21; go_in))
            go_ret2
            exact ⟨rfl, h02⟩
          · have d1 : decide (-999999999 ≤ v) = false := by simp; omega
            go_wp2_with (first | (go_at_call 21; go_in))
            go_ret2
            exact ⟨rfl, h02⟩
      · have hk : okP s.data.toList = false := okP_no (fun v' h h2' _ _ => by rw [ha] at h; injection h with h; subst h; exact h2 (itB_neq.2 h2'))
        have hv : paV s.data.toList = 0 := by unfold paV; rw [hk]; rfl
        rw [hk, hv]
        go_enter Tryd.func16, Tryd.ntmps16
        go_wp2_with fail
        refine (Tryd.strconv_Atoi_ok s (by omega) v ha w).mono ?_
        rintro e w1 ⟨rfl, hw1⟩
        have hb1 : Below w.heap.size w w1 := by
          rcases hw1 with rfl | ⟨t, rfl⟩
          · exact Below.refl _ _
          · exact Lib.bytesWorld_below w _ t
        clear hw1
        go_wp2_with fail
        refine (Tryd.strconv_Itoa v hv0 hv1 w1 (ht.below hb1 hlt)).mono ?_
        rintro e w2 ⟨rfl, k, os, rfl⟩
        have h02 := below_next hb1 hb1.size (below_grow w1 k os)
        generalize grow (w1.drewN k) os = w2 at h02 ⊢
        rw [show (⟨(Lib.itoa v).toArray⟩ : ByteArray) = itB v from rfl]
        generalize itB v = s2 at h2 ⊢
        have hne : (s2.toList == s.toList) = false := by
          rw [beq_eq_false_iff_ne]; intro e
          rw [ByteArray.toList_eq, ByteArray.toList_eq] at e
          exact h2 (bytes_inj e)
        go_wp2
        go_ret2
        exact ⟨rfl, h02⟩
end Go.Proofs.YthhdjajjckcikaaDoor
