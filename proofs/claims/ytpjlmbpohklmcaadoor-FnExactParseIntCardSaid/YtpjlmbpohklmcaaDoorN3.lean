/- ParseInt of the reference. No conditions. -/
import Derived.Test.YtpjlmbpohklmcaaDoorN2
namespace Go.Proofs.YtpjlmbpohklmcaaDoor
open Go.ChangeShapes Go.WideShapes Go.ChangeAt Go.RowKit Go.Sort
set_option linter.unusedVariables false
set_option linter.unusedSimpArgs false
theorem pv_lt (l : List UInt8) : ∀ a, NM.pv a l < (a + 1) * 10 ^ l.length := by
  induction l with
  | nil => intro a; simp [NM.pv]
  | cons c l ih =>
    intro a
    simp only [NM.pv, List.length_cons, Nat.pow_succ]
    refine Nat.lt_of_lt_of_le (ih _) ?_
    have h : (if NM.isDig c then a * 10 + (c.toNat - 48) else a) + 1 ≤ (a + 1) * 10 := by
      split
      · rename_i h; unfold NM.isDig at h; simp at h; omega
      · omega
    calc _ ≤ ((a + 1) * 10) * 10 ^ l.length := Nat.mul_le_mul_right _ h
      _ = (a + 1) * (10 ^ l.length * 10) := by rw [Nat.mul_assoc, Nat.mul_comm 10]
theorem pk_le (l : List UInt8) : NM.pk l ≤ l.length := by
  induction l with
  | nil => exact Nat.le_refl _
  | cons c l ih => simp only [NM.pk, List.length_cons]; split <;> omega
theorem take_next {l : List UInt8} {i : Nat} {c : UInt8} (h : i < l.length) (hc : l[i] = c) : l.take (i + 1) = l.take i ++ [c] := by
  rw [List.take_succ_eq_append_getElem h, hc]
theorem pv_next {l : List UInt8} {i : Nat} {c : UInt8} (h : i < l.length) (hc : l[i] = c) : NM.pv 0 (l.take (i + 1)) = if NM.isDig c then NM.pv 0 (l.take i) * 10 + (c.toNat - 48) else NM.pv 0 (l.take i) := by
  rw [take_next h hc, NM.pv_append]; rfl
theorem pk_next {l : List UInt8} {i : Nat} {c : UInt8} (h : i < l.length) (hc : l[i] = c) : NM.pk (l.take (i + 1)) = NM.pk (l.take i) + if NM.isDig c then 1 else 0 := by
  rw [take_next h hc, NM.pk_append]; simp [NM.pk]
theorem pv_bd {l : List UInt8} {i : Nat} (h : i ≤ 11) : NM.pv 0 (l.take i) < 100000000000 := by
  have h1 := pv_lt (l.take i) 0
  have h2 : (l.take i).length ≤ 11 := by rw [List.length_take]; omega
  have h3 : (10 : Nat) ^ (l.take i).length ≤ 10 ^ 11 := Nat.pow_le_pow_right (by decide) h2
  have h4 : (10 : Nat) ^ 11 = 100000000000 := by decide
  omega
theorem pk_bd {l : List UInt8} {i : Nat} (h : i ≤ 11) : NM.pk (l.take i) ≤ 11 := by
  have := pk_le (l.take i)
  have h2 : (l.take i).length ≤ 11 := by rw [List.length_take]; omega
  omega
theorem okP_spec {l : List UInt8} (h1 : NM.pk l ≤ 9) (h2 : l.length ≤ 10) (h3 : Lib.itoa (NM.signed l) = l) : okP l = true := (okP_iff l).2 ((NM.specOk_iff l).1 ⟨h1, h2, h3⟩)
theorem okP_spec_no {l : List UInt8} (h : ¬ (NM.pk l ≤ 9 ∧ l.length ≤ 10 ∧ Lib.itoa (NM.signed l) = l)) : okP l = false := by
  rw [Bool.eq_false_iff]; intro hk; exact h ((NM.specOk_iff l).2 ((okP_iff l).1 hk))
theorem byte_at {s : ByteArray} {i : Nat} (h : i < s.size) : (s.data.toList)[i]'(by rw [Array.length_toList]; exact h) = s[i]'h := by
  rw [Array.getElem_toList]; rfl
set_option maxRecDepth 20000 in
set_option maxHeartbeats 4000000 in
theorem sPar (s : ByteArray) (hs : s.size ≤ 1048576) (w : World) : Calls Tryd.prog 8 #[.string s] w fun e w' => e = .returned (.tuple #[.int .i64 (paV s.data.toList), .bool (okP s.data.toList)]) ∧ Below w.heap.size w w' := by
  have hlen : s.data.toList.length = s.size := Array.length_toList
  obtain ⟨l, hl⟩ : ∃ l, s.data.toList = l := ⟨_, rfl⟩
  rw [hl] at hlen ⊢
  have HL := Lib.hid hl; clear hl
  have HLEN := Lib.hid hlen; clear hlen
  go_enter Tryd.func8, Tryd.ntmps8
  go_wp2
  go_loopw [4, 5, 6] (fun n k i wr => ∃ (j p q : Nat), i = .int .i64 j ∧ n = .int .i64 p ∧ k = .int .i64 q ∧ j ≤ s.size ∧ j ≤ 11 ∧ Hid (NM.pv 0 (l.take j) = p) ∧ Hid (NM.pk (l.take j) = q) ∧ p < 100000000000 ∧ q ≤ 11 ∧ w = wr) (fun n k i _ => 11 - (intOf i).toNat)
  case atStart => exact ⟨0, 0, 0, rfl, rfl, rfl, Nat.zero_le _, by decide, by simp [NM.pv, Hid], by simp [NM.pk, Hid], by decide, by decide, rfl⟩
  case round =>
    obtain ⟨j, p, q, rfl, rfl, rfl, hj, hj11, HP, HQ, hpb, hqb, rfl⟩ := hrel
    by_cases hjs : j < s.size
    · by_cases hj1 : j < 11
      · have d11 : decide ((j : Int) < 11) = true := by simp; omega
        have d11n : decide (j < 11) = true := by simp; omega
        obtain ⟨c, hc⟩ : ∃ c, s[j]'hjs = c := ⟨_, rfl⟩
        have hlc : l[j]'(by rw [HLEN.out]; exact hjs) = c := by rw [← hc, ← byte_at hjs]; congr 1; exact HL.out.symm
        have hn1 := pv_next (by rw [HLEN.out]; exact hjs) hlc
        have hn2 := pk_next (by rw [HLEN.out]; exact hjs) hlc
        rw [HP.out] at hn1
        rw [HQ.out] at hn2
        have hb1 := pv_bd (l := l) (i := j + 1) (by omega)
        have hb2 := pk_bd (l := l) (i := j + 1) (by omega)
        have hk3 : (((s[j]'hjs).toNat : Nat) : Int) = (c.toNat : Int) := by rw [hc]
        have hcl := c.toNat_lt
        obtain ⟨cn, hcn⟩ : ∃ cn, c.toNat = cn := ⟨_, rfl⟩
        by_cases hdg : 48 ≤ cn ∧ cn ≤ 57
        · have hi : NM.isDig c = true := by unfold NM.isDig; rw [hcn]; simp; omega
          rw [hi] at hn1 hn2
          rw [hcn] at hn1 hk3 hcl
          have e1 : decide ((48 : Int) ≤ (cn : Int)) = true := by simp; omega
          have e2 : decide ((cn : Int) ≤ 57) = true := by simp; omega
          have e1n : decide (48 ≤ cn) = true := by simp; omega
          have e2n : decide (cn ≤ 57) = true := by simp; omega
          obtain ⟨h48, h57⟩ := hdg
          have HN1 := Lib.hid (show NM.pv 0 (l.take (j + 1)) = p * 10 + (cn - 48) from hn1)
          have HN2 := Lib.hid (show NM.pk (l.take (j + 1)) = q + 1 from hn2)
          have hpb2 : p * 10 + (cn - 48) < 100000000000 := by have := HN1.out; omega
          have hqb2 : q + 1 ≤ 11 := by have := HN2.out; omega
          clear hn1 hn2 hb1 hb2 hlc hi hcn hc
          go_wp2
          go_roundw
          case rel => exact ⟨j + 1, p * 10 + (cn - 48), q + 1, by go_num, by congr 1; push_cast; omega, by go_num, hjs, by omega, HN1, HN2, hpb2, hqb2, trivial⟩
          case measure => simp [intOf]; omega
        · have hi : NM.isDig c = false := by unfold NM.isDig; rw [hcn]; simp; omega
          rw [hi] at hn1 hn2
          rw [hcn] at hk3 hcl
          have HN1 := Lib.hid (show NM.pv 0 (l.take (j + 1)) = p from hn1)
          have HN2 := Lib.hid (show NM.pk (l.take (j + 1)) = q from hn2)
          clear hn1 hn2 hb1 hb2 hlc hi hcn hc
          by_cases h48 : 48 ≤ cn
          · have e1 : decide ((48 : Int) ≤ (cn : Int)) = true := by simp; omega
            have e2 : decide ((cn : Int) ≤ 57) = false := by simp; omega
            have e1n : decide (48 ≤ cn) = true := by simp; omega
            have e2n : decide (cn ≤ 57) = false := by simp; omega
            go_wp2
            go_roundw
            case rel => exact ⟨j + 1, p, q, by go_num, rfl, rfl, hjs, by omega, HN1, HN2, hpb, hqb, trivial⟩
            case measure => simp [intOf]; omega
          · have e1 : decide ((48 : Int) ≤ (cn : Int)) = false := by simp; omega
            have e1n : decide (48 ≤ cn) = false := by simp; omega
            go_wp2
            go_roundw
            case rel => exact ⟨j + 1, p, q, by go_num, rfl, rfl, hjs, by omega, HN1, HN2, hpb, hqb, trivial⟩
            case measure => simp [intOf]; omega
      · -- eleven places were read: the string is too long
        have d11 : decide ((j : Int) < 11) = false := by simp; omega
        have d11n : decide (j < 11) = false := by simp; omega
        have hl10 : decide ((10 : Int) < (s.size : Int)) = true := by simp; omega
        have hl0 : decide ((0 : Int) < (s.size : Int)) = true := by simp; omega
        have hs0 : 0 < s.size := by omega
        have HK := Lib.hid (okP_long (show 10 < l.length by rw [HLEN.out]; omega))
        have HV := Lib.hid (show paV l = 0 by unfold paV; rw [HK.out]; rfl)
        go_wp2_with fail
        all_goals go_ret2
        all_goals exact ⟨by rw [HV.out, HK.out]; exact rfl, Below.refl _ _⟩
    · obtain rfl : j = s.size := by omega
      have htk : l.take s.size = l := List.take_of_length_le (by rw [HLEN.out]; exact Nat.le_refl _)
      rw [htk] at HP HQ
      clear htk
      have hjd : decide ((s.size : Int) < (s.size : Int)) = false := by simp
      by_cases h10 : 10 < s.size
      · have hl10 : decide ((10 : Int) < (s.size : Int)) = true := by simp; omega
        have hl0 : decide ((0 : Int) < (s.size : Int)) = true := by simp; omega
        have hs0 : 0 < s.size := by omega
        have HK := Lib.hid (okP_long (show 10 < l.length by rw [HLEN.out]; omega))
        have HV := Lib.hid (show paV l = 0 by unfold paV; rw [HK.out]; rfl)
        go_wp2_with fail
        all_goals go_ret2
        all_goals exact ⟨by rw [HV.out, HK.out]; exact rfl, Below.refl _ _⟩
      · have hl10 : decide ((10 : Int) < (s.size : Int)) = false := by simp; omega
        by_cases h9 : 9 < q
        · have hq9 : decide ((9 : Int) < (q : Int)) = true := by simp; omega
          have hq9n : decide (9 < q) = true := by simp; omega
          have HK := Lib.hid (okP_spec_no (l := l) (fun h => by have := h.1; rw [HQ.out] at this; omega))
          have HV := Lib.hid (show paV l = 0 by unfold paV; rw [HK.out]; rfl)
          go_wp2_with fail
          all_goals go_ret2
          all_goals exact ⟨by rw [HV.out, HK.out]; exact rfl, Below.refl _ _⟩
        · have hq9 : decide ((9 : Int) < (q : Int)) = false := by simp; omega
          have hq9n : decide (9 < q) = false := by simp; omega
          have fin : ∀ (v : Int) (s2 : ByteArray), True := fun _ _ => trivial
          by_cases h0 : 0 < s.size
          · have hl0 : decide ((0 : Int) < (s.size : Int)) = true := by simp; omega
            obtain ⟨c, hc⟩ : ∃ c, s[0]'h0 = c := ⟨_, rfl⟩
            have hlc : l[0]'(by rw [HLEN.out]; exact h0) = c := by rw [← hc, ← byte_at h0]; congr 1; exact HL.out.symm
            have hhd : l.head? = some c := by rw [List.head?_eq_getElem?, List.getElem?_eq_getElem (by rw [HLEN.out]; exact h0), hlc]
            have hk3 : (((s[0]'h0).toNat : Nat) : Int) = (c.toNat : Int) := by rw [hc]
            by_cases h45 : c.toNat = 45
            · have hc45 : c = 45 := UInt8.toNat_inj.1 h45
              have HSG := Lib.hid (show NM.signed l = -(p : Int) by unfold NM.signed; rw [hhd, hc45, if_pos rfl, HP.out])
              rw [h45] at hk3
              clear hlc hhd hc h45 hc45
              obtain ⟨v, hv⟩ : ∃ v : Int, -(p : Int) = v := ⟨_, rfl⟩
              have hvb : -9223372036854775808 ≤ v ∧ v ≤ 9223372036854775807 := by omega
              rw [hv] at HSG
              by_cases h2 : itB v = s
              · have HK := Lib.hid (okP_spec (l := l) (by rw [HQ.out]; omega) (by rw [HLEN.out]; omega) (by rw [HSG.out, ← HL.out]; exact itB_neq.1 h2))
                have HV := Lib.hid (show paV l = v by unfold paV; rw [HK.out, HSG.out]; rfl)
                have HS2 := Lib.hid h2; clear h2
                go_wp2_with fail
                try rw [hv]
                refine (sFmt v hvb.1 hvb.2 _).mono ?_
                rintro e w2 ⟨rfl, hb2⟩
                rw [HS2.out]
                go_wp2
                go_ret2
                exact ⟨by rw [HV.out, HK.out]; exact rfl, hb2⟩
              · have HK := Lib.hid (okP_spec_no (l := l) (fun h => h2 (itB_neq.2 (by have := h.2.2; rw [HSG.out, ← HL.out] at this; exact this))))
                have HV := Lib.hid (show paV l = 0 by unfold paV; rw [HK.out]; rfl)
                go_wp2_with fail
                try rw [hv]
                refine (sFmt v hvb.1 hvb.2 _).mono ?_
                rintro e w2 ⟨rfl, hb2⟩
                generalize itB v = s2 at h2 ⊢
                have hne2 : (s2.toList == s.toList) = false := by
                  rw [beq_eq_false_iff_ne]; intro e
                  rw [ByteArray.toList_eq, ByteArray.toList_eq] at e
                  exact h2 (bytes_inj e)
                go_wp2
                go_ret2
                exact ⟨by rw [HV.out, HK.out]; exact rfl, hb2⟩
            · have hc45 : ¬ c = 45 := fun e => h45 (by rw [e]; rfl)
              have HSG := Lib.hid (show NM.signed l = (p : Int) by unfold NM.signed; rw [hhd, if_neg (by simpa using hc45), HP.out])
              obtain ⟨cn, hcn⟩ : ∃ cn, c.toNat = cn := ⟨_, rfl⟩
              rw [hcn] at hk3 h45
              have hne : ((cn : Int) == 45) = false := by simp; omega
              clear hlc hhd hc hc45
              obtain ⟨v, hv⟩ : ∃ v : Int, (p : Int) = v := ⟨_, rfl⟩
              have hvb : -9223372036854775808 ≤ v ∧ v ≤ 9223372036854775807 := by omega
              rw [hv] at HSG
              by_cases h2 : itB v = s
              · have HK := Lib.hid (okP_spec (l := l) (by rw [HQ.out]; omega) (by rw [HLEN.out]; omega) (by rw [HSG.out, ← HL.out]; exact itB_neq.1 h2))
                have HV := Lib.hid (show paV l = v by unfold paV; rw [HK.out, HSG.out]; rfl)
                have HS2 := Lib.hid h2; clear h2
                go_wp2_with fail
                try rw [hv]
                refine (sFmt v hvb.1 hvb.2 _).mono ?_
                rintro e w2 ⟨rfl, hb2⟩
                rw [HS2.out]
                go_wp2
                go_ret2
                exact ⟨by rw [HV.out, HK.out]; exact rfl, hb2⟩
              · have HK := Lib.hid (okP_spec_no (l := l) (fun h => h2 (itB_neq.2 (by have := h.2.2; rw [HSG.out, ← HL.out] at this; exact this))))
                have HV := Lib.hid (show paV l = 0 by unfold paV; rw [HK.out]; rfl)
                go_wp2_with fail
                try rw [hv]
                refine (sFmt v hvb.1 hvb.2 _).mono ?_
                rintro e w2 ⟨rfl, hb2⟩
                generalize itB v = s2 at h2 ⊢
                have hne2 : (s2.toList == s.toList) = false := by
                  rw [beq_eq_false_iff_ne]; intro e
                  rw [ByteArray.toList_eq, ByteArray.toList_eq] at e
                  exact h2 (bytes_inj e)
                go_wp2
                go_ret2
                exact ⟨by rw [HV.out, HK.out]; exact rfl, hb2⟩
          · have hl0 : decide ((0 : Int) < (s.size : Int)) = false := decide_eq_false (by omega)
            have hln : l = [] := List.eq_nil_of_length_eq_zero (by rw [HLEN.out]; omega)
            have HSG := Lib.hid (show NM.signed l = (p : Int) by unfold NM.signed; rw [← HP.out, hln]; rfl)
            clear hln
            obtain ⟨v, hv⟩ : ∃ v : Int, (p : Int) = v := ⟨_, rfl⟩
            have hvb : -9223372036854775808 ≤ v ∧ v ≤ 9223372036854775807 := by omega
            rw [hv] at HSG
            by_cases h2 : itB v = s
            · have HK := Lib.hid (okP_spec (l := l) (by rw [HQ.out]; omega) (by rw [HLEN.out]; omega) (by rw [HSG.out, ← HL.out]; exact itB_neq.1 h2))
              have HV := Lib.hid (show paV l = v by unfold paV; rw [HK.out, HSG.out]; rfl)
              have HS2 := Lib.hid h2; clear h2
              go_wp2_with fail
              try rw [hv]
              refine (sFmt v hvb.1 hvb.2 _).mono ?_
              rintro e w2 ⟨rfl, hb2⟩
              rw [HS2.out]
              go_wp2
              go_ret2
              exact ⟨by rw [HV.out, HK.out]; exact rfl, hb2⟩
            · have HK := Lib.hid (okP_spec_no (l := l) (fun h => h2 (itB_neq.2 (by have := h.2.2; rw [HSG.out, ← HL.out] at this; exact this))))
              have HV := Lib.hid (show paV l = 0 by unfold paV; rw [HK.out]; rfl)
              go_wp2_with fail
              try rw [hv]
              refine (sFmt v hvb.1 hvb.2 _).mono ?_
              rintro e w2 ⟨rfl, hb2⟩
              generalize itB v = s2 at h2 ⊢
              have hne2 : (s2.toList == s.toList) = false := by
                rw [beq_eq_false_iff_ne]; intro e
                rw [ByteArray.toList_eq, ByteArray.toList_eq] at e
                exact h2 (bytes_inj e)
              go_wp2
              go_ret2
              exact ⟨by rw [HV.out, HK.out]; exact rfl, hb2⟩
end Go.Proofs.YtpjlmbpohklmcaaDoor
