/- The walk of the law FnIntegerEncodings. The library's listed variables are premises on the world. -/
import Derived.Test.YthhdjajjckcikaaDoorND3
import Derived.Test.YthhdjajjckcikaaDoorNDm
namespace Go.Proofs.YthhdjajjckcikaaDoor
open Go.ChangeShapes Go.WideShapes Go.ChangeAt Go.RowKit Go.Sort QM VM
set_option linter.unusedVariables false
set_option linter.unusedSimpArgs false
theorem isEmptyN {d : ByteArray} : d.toList.isEmpty = decide (d.size = 0) := by
  rw [ByteArray.toList_eq]
  obtain ⟨⟨l⟩⟩ := d
  cases l <;> simp [ByteArray.size]
theorem fix_facts2 (n k : Int) (t : ByteArray) (ht : t.size ≤ 40) : (fixI n k).size ≤ 7 ∧ (fixI n k ++ t).size ≤ 1048576 ∧ (((fixI n k).toList.isEmpty = true ∧ ∃ (a : Int) (b : Bool), dfV (fixI n k ++ t) k = .tuple #[.int .i64 a, .bool b]) ∨ ((fixI n k).toList.isEmpty = false ∧ ((fixI n k).size : Int) = k ∧ dfV (fixI n k ++ t) k = .tuple #[.int .i64 n, .bool true])) := by
  rcases fix_facts n k t with ⟨h, r⟩ | ⟨h1, h7, h2, h3⟩
  · have hz : (fixI n k).size = 0 := by rw [h]; rfl
    exact ⟨by omega, by rw [ByteArray.size_append]; omega, .inl ⟨by rw [isEmptyN]; exact decide_eq_true hz, r⟩⟩
  · exact ⟨h7, by rw [ByteArray.size_append]; omega, .inr ⟨by rw [isEmptyN]; exact decide_eq_false (by omega), h2, h3⟩⟩
set_option maxRecDepth 20000 in
set_option maxHeartbeats 16000000 in
theorem walk_FnIntegerEncodings {A : Option Addr} {c n : Nat} {l : List Int} (w : World) (ht : Tab w) (he : Errs w) (hr : Rd w w.heap.size A (cby l)) (hn : n ≤ maxLen) (HL : Hid (l.length = n)) :
    Calls Tryd.prog 3 #[.slice A n c] w fun e w' => e = .returned (.bool true) ∧ Below w.heap.size w w' := by
  unfold maxLen at hn
  by_cases hs : n ≤ 1048576
  · have hd : decide ((1048576 : Int) < (n : Int)) = false := by simp; omega
    have HT := Lib.hid ht
    have HE := Lib.hid he
    have htl := ht.lt
    have h2l : 2 ≤ w.heap.size := by have := ht.lt; omega
    clear ht he
    go_enter Tryd.func3, Tryd.ntmps3
    go_wp2_with (first | (go_at_call 4; go_in))
    refine (drawEncodeVarint hr hs HL).mono ?_
    rintro e w1 ⟨v, rfl, ⟨x, rfl, hx⟩, hb1⟩
    have HX := Lib.hid hx
    clear hx
    go_wp2_with fail
    refine (drawEncodeHex ((hr.below hb1 (Nat.le_refl _)).more hb1.size) hs HL).mono ?_
    rintro e w2 ⟨v, rfl, ⟨tl, rfl, htl40⟩, hb2⟩
    replace hb1 := below_next hb1 hb1.size hb2
    clear hb2
    go_wp2_with fail
    refine (iEVI _ _).mono ?_
    rintro e w3 ⟨rfl, hb3⟩
    replace hb1 := below_next hb1 hb1.size hb3
    clear hb3
    have hdv : (0 ≤ x ∧ x ≤ 562949953421311 ∧ dvV (evI x ++ tl) = .tuple #[.int .i64 x, .int .i64 ((evI x).size : Nat)] ∧ (evI x).size ≤ 8 ∧ (evI x).toList.isEmpty = false ∧ (evI x).size ≠ 0) ∨ ((x < 0 ∨ 562949953421311 < x) ∧ evI x = ⟨#[]⟩) := by
      rcases ev_cases x with h | ⟨N, rfl, hN⟩
      · exact .inr ⟨h, evI_out h⟩
      · left
        rw [evI_in hN]
        obtain ⟨h1, h2, h3⟩ := dv_ev hN tl
        exact ⟨by omega, by omega, h1, h3, by rw [isEmptyN]; exact decide_eq_false (by omega), by omega⟩
    have HDV := Lib.hid hdv
    clear hdv
    obtain ⟨s, hse⟩ : ∃ s, evI x = s := ⟨_, rfl⟩
    rw [hse] at HDV ⊢
    clear hse
    have hts : tl.size ≤ 40 := htl40
    obtain ⟨va, vb, hv0⟩ := dv_form tl
    rcases HDV.out with ⟨h0, h1, hv, hz8, hem, hne⟩ | ⟨hout | hout, rfl⟩
    case' inl =>
      have d0 : decide (0 ≤ x) = true := by simp; omega
      have d1 : decide (x ≤ 562949953421311) = true := by simp; omega
      have hss : (s ++ tl).size ≤ 1048576 := by rw [ByteArray.size_append]; omega
      clear hne hv0 h0 h1
    case' inr.inl =>
      have d0 : decide (0 ≤ x) = false := by simp; omega
      have hss : tl.size ≤ 1048576 := by omega
      have hv := hv0
      clear hout
    case' inr.inr =>
      have d0 : decide (0 ≤ x) = true := by simp; omega
      have d1 : decide (x ≤ 562949953421311) = false := by simp; omega
      have hss : tl.size ≤ 1048576 := by omega
      have hv := hv0
      clear hout
    all_goals clear HDV
    all_goals go_wp2_with (first
        | (go_at_call 8; refine (iDV _ hss _).mono ?_; rintro e w' ⟨rfl, rfl⟩; rw [hv]))
    all_goals clear hv
    all_goals refine (drawEncodeFixed ((hr.below hb1 (Nat.le_refl _)).more hb1.size) hs HL).mono ?_
    all_goals rintro e w4 ⟨v, rfl, ⟨x2, k2, rfl, ⟨hx20, hx21⟩, hk0, hk1⟩, hb4⟩
    all_goals replace hb1 := below_next hb1 hb1.size hb4
    all_goals clear hb4
    all_goals have hff := fix_facts2 x2 k2 tl htl40
    all_goals have hsz := itB_sz ⟨hx20, hx21⟩
    all_goals have hszi : (itB x2).size ≤ 1048576 := by omega
    all_goals have hpf := par_facts x2
    all_goals obtain ⟨hh1, hh2, hh3⟩ := hex_facts tl
    all_goals have hhz : (ehB tl).size ≤ 1048576 := by omega
    all_goals have htz : tl.size ≤ 1048576 := by omega
    all_goals have HP := Lib.hid hpf
    all_goals clear hpf
    all_goals obtain ⟨f, hfe⟩ : ∃ f, fixI x2 k2 = f := ⟨_, rfl⟩
    all_goals rw [hfe] at hff
    all_goals have HFE := Lib.hid hfe
    all_goals clear hfe
    all_goals obtain ⟨hf7, hfs, hff2⟩ := hff
    all_goals rcases hff2 with ⟨hfem, f1, f2, hdf⟩ | ⟨hfem, hfk, hdf⟩
    all_goals go_wp2_with fail
    all_goals refine (iFixI _ _ hx21 _).mono ?_
    all_goals rintro e w5 ⟨rfl, hb5⟩
    all_goals rw [HFE.out]
    all_goals go_wp2_with fail
    all_goals refine (iDF _ _ hfs _).mono ?_
    all_goals rintro e w' ⟨rfl, rfl⟩
    all_goals rw [hdf]
    all_goals go_wp2_with fail
    all_goals refine (sFixI _ _ hx21 _).mono ?_
    all_goals rintro e w6 ⟨rfl, hb6⟩
    all_goals rw [HFE.out]
    all_goals replace hb1 := below_next (below_next hb1 hb1.size hb5) (below_next hb1 hb1.size hb5).size hb6
    all_goals clear hb5 hb6
    all_goals go_wp2_with fail
    all_goals refine (iEH _ htz _).mono ?_
    all_goals rintro e w7 ⟨rfl, hb7⟩
    all_goals replace hb1 := below_next hb1 hb1.size hb7
    all_goals clear hb7
    all_goals go_wp2_with fail
    all_goals refine (iDH _ hhz _).mono ?_
    all_goals rintro e w8 ⟨rfl, hb8⟩
    all_goals replace hb1 := below_next hb1 hb1.size hb8
    all_goals clear hb8
    all_goals rw [hh1, hh2]
    all_goals go_wp2_with fail
    all_goals refine (iFmt _ hx20 hx21 _ (HT.out.below hb1 htl)).mono ?_
    all_goals rintro e w9 ⟨rfl, hb9⟩
    all_goals replace hb1 := below_next hb1 hb1.size hb9
    all_goals clear hb9
    all_goals go_wp2_with fail
    all_goals refine (iPar _ hszi _ (HT.out.below hb1 htl) (HE.out.below hb1 h2l)).mono ?_
    all_goals rintro e w10 ⟨rfl, hb10⟩
    all_goals replace hb1 := below_next hb1 hb1.size hb10
    all_goals clear hb10
    all_goals obtain ⟨hp1, hp2⟩ := HP.out
    all_goals obtain ⟨oP, hoP⟩ : ∃ b, okP (itB x2).data.toList = b := ⟨_, rfl⟩
    all_goals obtain ⟨pV, hpV⟩ : ∃ b, paV (itB x2).data.toList = b := ⟨_, rfl⟩
    all_goals rw [hoP, hpV]
    all_goals rw [hoP] at hp1 hp2
    all_goals rw [hpV] at hp2
    all_goals clear hoP hpV HP
    all_goals rcases (show x2 ≤ -1000000000 ∨ 1000000000 ≤ x2 ∨ (-1000000000 < x2 ∧ x2 < 1000000000) by omega) with hA | hA | ⟨hA, hB⟩
    all_goals first
      | (have e0 : decide (-1000000000 < x2) = true := by simp; omega
         have e1 : decide (x2 < 1000000000) = true := by simp; omega
         rw [e0, e1] at hp1
         subst hp1
         have hpq := (hp2 rfl).symm
         subst hpq
         clear hp2)
      | (have e0 : decide (-1000000000 < x2) = true := by simp; omega
         have e1 : decide (x2 < 1000000000) = false := by simp; omega
         rw [e0, e1] at hp1
         subst hp1
         clear hp2)
      | (have e0 : decide (-1000000000 < x2) = false := by simp; omega
         rw [e0] at hp1
         simp only [Bool.false_and] at hp1
         subst hp1
         clear hp2)
    all_goals clear hA
    all_goals go_wp2_with fail
    all_goals refine (sFmt _ hx20 hx21 _).mono ?_
    all_goals rintro e w11 ⟨rfl, hb11⟩
    all_goals replace hb1 := below_next hb1 hb1.size hb11
    all_goals clear hb11
    all_goals go_wp2_with fail
    all_goals go_ret
    all_goals exact ⟨rfl, hb1⟩
  · have hd : decide ((1048576 : Int) < (n : Int)) = true := by simp; omega
    go_enter Tryd.func3, Tryd.ntmps3
    go_wp2_with (first | (go_at_call 4; go_in))
    go_ret
    exact ⟨rfl, Below.refl _ _⟩
end Go.Proofs.YthhdjajjckcikaaDoor
