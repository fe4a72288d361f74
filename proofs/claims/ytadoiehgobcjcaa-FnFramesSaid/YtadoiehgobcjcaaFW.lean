/- The walk of the law FnFrames. No conditions. -/
import Derived.Test.YtadoiehgobcjcaaA6
import Derived.Test.YtadoiehgobcjcaaFD
namespace Go.Proofs.Ytadoiehgobcjcaa
open Go.ChangeShapes Go.WideShapes Go.ChangeAt Go.RowKit Go.Sort QM
set_option linter.unusedVariables false
set_option linter.unusedSimpArgs false
theorem run_eql_fr (a b c : Int) (d : ByteArray) (e : Bool) (g l m : Int) (u : Bool) (a' b' c' : Int) (d' : ByteArray) (e' : Bool) (g' l' m' : Int) (u' : Bool) (w : World) :
    (binOp .eql 40 (.agg #[.int .i64 a, .int .i64 b, .int .i64 c, .string d, .bool e, .int .i64 g, .int .i64 l, .int .i64 m, .bool u]) (.agg #[.int .i64 a', .int .i64 b', .int .i64 c', .string d', .bool e', .int .i64 g', .int .i64 l', .int .i64 m', .bool u'])).run Try.prog w = .ok (.bool (eqFb a b c d e g l m u a' b' c' d' e' g' l' m' u')) w := by
  by_cases h0 : a = a'
  rotate_left
  · have h0' : (a == a') = false := by rw [beq_eq_false_iff_ne]; exact h0
    simp [go_sem, eqFb, h0, h0']
  subst h0
  by_cases h1 : b = b'
  rotate_left
  · have h1' : (b == b') = false := by rw [beq_eq_false_iff_ne]; exact h1
    simp [go_sem, eqFb, h1, h1']
  subst h1
  by_cases h2 : c = c'
  rotate_left
  · have h2' : (c == c') = false := by rw [beq_eq_false_iff_ne]; exact h2
    simp [go_sem, eqFb, h2, h2']
  subst h2
  by_cases h3 : d.toList = d'.toList
  rotate_left
  · have h3' : (d.toList == d'.toList) = false := by rw [beq_eq_false_iff_ne]; exact h3
    simp [go_sem, eqFb, h3, h3']
  by_cases h4 : e = e'
  rotate_left
  · have h4' : (e == e') = false := by rw [beq_eq_false_iff_ne]; exact h4
    simp [go_sem, eqFb, h4, h4', h3]
  subst h4
  by_cases h5 : g = g'
  rotate_left
  · have h5' : (g == g') = false := by rw [beq_eq_false_iff_ne]; exact h5
    simp [go_sem, eqFb, h5, h5', h3]
  subst h5
  by_cases h6 : l = l'
  rotate_left
  · have h6' : (l == l') = false := by rw [beq_eq_false_iff_ne]; exact h6
    simp [go_sem, eqFb, h6, h6', h3]
  subst h6
  by_cases h7 : m = m'
  rotate_left
  · have h7' : (m == m') = false := by rw [beq_eq_false_iff_ne]; exact h7
    simp [go_sem, eqFb, h7, h7', h3]
  subst h7
  by_cases h8 : u = u'
  rotate_left
  · have h8' : (u == u') = false := by rw [beq_eq_false_iff_ne]; exact h8
    simp [go_sem, eqFb, h8, h8', h3]
  subst h8
  simp [go_sem, eqFb, h3]
theorem eqFb_self (a b c : Int) (d : ByteArray) (e : Bool) (g l m : Int) (u : Bool) : eqFb a b c d e g l m u a b c d e g l m u = true := by simp [eqFb]
theorem dfO_facts3 {s : ByteArray} (hs : s.size ≤ 1048576) {p : Int} {f : Fr} {q : Int} (h : dfO s p = some (f, q)) : f.d.size ≤ 1048576 ∧ p < q ∧ q ≤ s.size ∧ okF f = true := by
  unfold dfO at h
  obtain ⟨h1, h2⟩ := Option.filter_eq_some_iff.1 h
  have := frO_facts hs h1
  exact ⟨this.1, by omega, this.2.2.2, h2⟩
/-- What reading says, in the two cases. -/
theorem df_two (s : ByteArray) (hs : s.size ≤ 1048576) (p : Int) : dfVal (dfO s p) = .tuple #[.agg #[.int .i64 0, .int .i64 0, .int .i64 0, .string ⟨#[]⟩, .bool false, .int .i64 0, .int .i64 0, .int .i64 0, .bool false], .int .i64 0, .bool false] ∨
    ∃ (xa xb xc : Int) (xd : ByteArray) (xe : Bool) (xg xl xm : Int) (xu : Bool) (q : Int), dfVal (dfO s p) = .tuple #[.agg #[.int .i64 xa, .int .i64 xb, .int .i64 xc, .string xd, .bool xe, .int .i64 xg, .int .i64 xl, .int .i64 xm, .bool xu], .int .i64 q, .bool true] ∧ isFB xa xb xc xd xe xg xl xm xu = true ∧ xd.size ≤ 1048576 ∧ p < q ∧ q ≤ s.size := by
  cases h : dfO s p with
  | none => exact .inl rfl
  | some x =>
    obtain ⟨⟨xa, xb, xc, xd, xe, xg, xl, xm, xu⟩, q⟩ := x
    obtain ⟨h1, h2, h3, h4⟩ := dfO_facts3 hs h
    exact .inr ⟨xa, xb, xc, xd, xe, xg, xl, xm, xu, q, rfl, h4, h1, h2, h3⟩
theorem sKindB' (k : Int) (w : World) : Calls Try.prog 35 #[.int .i64 k] w fun e w' => e = .returned (.string (kindB k)) ∧ Below w.heap.size w w' :=
  (sKind k w).mono fun e w' ⟨h1, h2⟩ => ⟨h1, h2 ▸ Below.refl _ _⟩
theorem iKindB' (k : Int) (w : World) : Calls Try.prog 34 #[.int .i64 k] w fun e w' => e = .returned (.string (kindB k)) ∧ Below w.heap.size w w' :=
  (iKind k w).mono fun e w' ⟨h1, h2⟩ => ⟨h1, h2 ▸ Below.refl _ _⟩
set_option maxRecDepth 20000 in
set_option maxHeartbeats 16000000 in
theorem walk_FnFrames {A : Option Addr} {c n : Nat} {l : List Int} (w : World) (hr : Rd w w.heap.size A (bys l)) (hn : n ≤ maxLen) (HL : Hid (l.length = n)) :
    Calls Try.prog 4 #[.slice A n c] w fun e w' => e = .returned (.bool true) ∧ Below w.heap.size w w' := by
  unfold maxLen at hn
  by_cases hs : n ≤ 1048576
  · have hd : decide ((1048576 : Int) < (n : Int)) = false := by simp; omega
    go_enter Try.func4, Try.ntmps4
    go_wp2_with (first | (go_at_call 6; go_in))
    refine (drawEncodeFrame hr hs HL).mono ?_
    rintro e w1 ⟨v, rfl, ⟨⟨fa, fb, fc, fd, fe, fg, fl, fm, fu⟩, hfd, rfl⟩, hb⟩
    simp only at hfd
    go_wp2_with fail
    have al := (Below.refl w1.heap.size w1).alloc (Nat.le_refl _) (.cells #[.int .i64 fa, .int .i64 fb, .int .i64 fc, .string fd, .bool fe, .int .i64 fg, .int .i64 fl, .int .i64 fm, .bool fu] 40)
    have kf : Bk (w1.alloc (.cells #[.int .i64 fa, .int .i64 fb, .int .i64 fc, .string fd, .bool fe, .int .i64 fg, .int .i64 fl, .int .i64 fm, .bool fu] 40)) w1.heap.size 40 #[.int .i64 fa, .int .i64 fb, .int .i64 fc, .string fd, .bool fe, .int .i64 fg, .int .i64 fl, .int .i64 fm, .bool fu] := heap_alloc_new w1 _
    replace hb := below_next hb hb.size al
    generalize w1.alloc (.cells #[.int .i64 fa, .int .i64 fb, .int .i64 fc, .string fd, .bool fe, .int .i64 fg, .int .i64 fl, .int .i64 fm, .bool fu] 40) = W1 at kf hb ⊢
    generalize w1.heap.size = gf at kf ⊢
    clear al
    have hs6 : fd.size ≤ 1048576 := by omega
    have hE := encFB_size fa fb fc fd fe fg fl fm fu
    refine (iEncF fa fb fc fd fe fg fl fm fu hs6 _).mono ?_
    rintro e w2 ⟨rfl, hb2⟩
    replace kf := kf.below hb2 kf.lt
    replace hb := below_next hb hb.size hb2
    clear hb2
    have hone : isFB fa fb fc fd fe fg fl fm fu = true → dfVal (dfO (encFB fa fb fc fd fe fg fl fm fu) 0) = .tuple #[.agg #[.int .i64 fa, .int .i64 fb, .int .i64 fc, .string fd, .bool fe, .int .i64 fg, .int .i64 fl, .int .i64 fm, .bool fu], .int .i64 ((encFB fa fb fc fd fe fg fl fm fu).size : Int), .bool true] := fun h => by
      have h1 : dfO (encFB fa fb fc fd fe fg fl fm fu) 0 = some ((⟨fa, fb, fc, fd, fe, fg, fl, fm, fu⟩ : Fr), ((encFB fa fb fc fd fe fg fl fm fu).size : Int)) := dfO_one ⟨fa, fb, fc, fd, fe, fg, fl, fm, fu⟩ h
      rw [h1]; rfl
    have hzero : isFB fa fb fc fd fe fg fl fm fu = false → encFB fa fb fc fd fe fg fl fm fu = ⟨#[]⟩ := fun h => encOf_out (f := ⟨fa, fb, fc, fd, fe, fg, fl, fm, fu⟩) h
    have hz0 : isFB fa fb fc fd fe fg fl fm fu = false → dfVal (dfO (encFB fa fb fc fd fe fg fl fm fu) 0) = .tuple #[.agg #[.int .i64 0, .int .i64 0, .int .i64 0, .string ⟨#[]⟩, .bool false, .int .i64 0, .int .i64 0, .int .i64 0, .bool false], .int .i64 0, .bool false] := fun h => by rw [hzero h, dfO_nil]; rfl
    obtain ⟨s, hse⟩ : ∃ s, encFB fa fb fc fd fe fg fl fm fu = s := ⟨_, rfl⟩
    obtain ⟨ok, hok⟩ : ∃ b, isFB fa fb fc fd fe fg fl fm fu = b := ⟨_, rfl⟩
    rw [hse, hok] at hone hz0
    rw [hse] at hE ⊢
    have HSE := Lib.hid hse; have HOK := Lib.hid hok; clear hse hok hzero
    have hss : s.size ≤ 1048576 := by omega
    have hform : ∃ (xa xb xc : Int) (xd : ByteArray) (xe : Bool) (xg xl xm : Int) (xu : Bool) (q : Int), dfVal (dfO s 0) = .tuple #[.agg #[.int .i64 xa, .int .i64 xb, .int .i64 xc, .string xd, .bool xe, .int .i64 xg, .int .i64 xl, .int .i64 xm, .bool xu], .int .i64 q, .bool ok] ∧ (ok = true → eqFb xa xb xc xd xe xg xl xm xu fa fb fc fd fe fg fl fm fu = true ∧ q = (s.size : Int)) := by
      cases ok
      · exact ⟨_, _, _, _, _, _, _, _, _, _, hz0 rfl, fun h => by cases h⟩
      · exact ⟨_, _, _, _, _, _, _, _, _, _, hone rfl, fun _ => ⟨eqFb_self _ _ _ _ _ _ _ _ _, rfl⟩⟩
    clear hone hz0
    obtain ⟨xa, xb, xc, xd, xe, xg, xl, xm, xu, q, hv, hvx⟩ := hform
    go_wp2_with fail
    refine (iDF' s hss 0 _).mono ?_
    rintro e w3 ⟨hb3, rfl⟩
    rw [hv]
    replace kf := kf.below hb3 kf.lt
    replace hb := below_next hb hb.size hb3
    clear hb3
    go_wp2_with fail
    have al := (Below.refl w3.heap.size w3).alloc (Nat.le_refl _) (.cells #[.int .i64 xa, .int .i64 xb, .int .i64 xc, .string xd, .bool xe, .int .i64 xg, .int .i64 xl, .int .i64 xm, .bool xu] 40)
    have kg : Bk (w3.alloc (.cells #[.int .i64 xa, .int .i64 xb, .int .i64 xc, .string xd, .bool xe, .int .i64 xg, .int .i64 xl, .int .i64 xm, .bool xu] 40)) w3.heap.size 40 #[.int .i64 xa, .int .i64 xb, .int .i64 xc, .string xd, .bool xe, .int .i64 xg, .int .i64 xl, .int .i64 xm, .bool xu] := heap_alloc_new w3 _
    replace kf := kf.below al kf.lt
    replace hb := below_next hb hb.size al
    generalize w3.alloc (.cells #[.int .i64 xa, .int .i64 xb, .int .i64 xc, .string xd, .bool xe, .int .i64 xg, .int .i64 xl, .int .i64 xm, .bool xu] 40) = W3 at kf kg hb ⊢
    generalize w3.heap.size = gg at kg ⊢
    clear al hE
    have cE : ∀ W, Calls Try.prog 27 #[.agg #[.int .i64 fa, .int .i64 fb, .int .i64 fc, .string fd, .bool fe, .int .i64 fg, .int .i64 fl, .int .i64 fm, .bool fu]] W fun e w' => e = .returned (.string s) ∧ Below W.heap.size W w' := fun W => by
      have := sEncF fa fb fc fd fe fg fl fm fu hs6 W; rwa [HSE.out] at this
    have cI : ∀ W, Calls Try.prog 28 #[.agg #[.int .i64 fa, .int .i64 fb, .int .i64 fc, .string fd, .bool fe, .int .i64 fg, .int .i64 fl, .int .i64 fm, .bool fu]] W fun e w' => e = .returned (.bool ok) ∧ Below W.heap.size W w' := fun W => by
      have := iIs fa fb fc fd fe fg fl fm fu hs6 W; rwa [HOK.out] at this
    have cS : ∀ W, Calls Try.prog 29 #[.agg #[.int .i64 fa, .int .i64 fb, .int .i64 fc, .string fd, .bool fe, .int .i64 fg, .int .i64 fl, .int .i64 fm, .bool fu]] W fun e w' => e = .returned (.bool ok) ∧ Below W.heap.size W w' := fun W => by
      have := sIs fa fb fc fd fe fg fl fm fu hs6 W; rwa [HOK.out] at this
    have cZ : ∀ W, Calls Try.prog 30 #[.agg #[.int .i64 fa, .int .i64 fb, .int .i64 fc, .string fd, .bool fe, .int .i64 fg, .int .i64 fl, .int .i64 fm, .bool fu]] W fun e w' => e = .returned (.int .i64 (s.size : Int)) ∧ Below W.heap.size W w' := fun W => by
      have := iFS fa fb fc fd fe fg fl fm fu hs6 W; rwa [HSE.out] at this
    obtain ⟨c0, c1, c2, c3, c4, c5, c6, c7, c8⟩ := kf.nine
    obtain ⟨d0, d1, d2, d3, d4, d5, d6, d7, d8⟩ := kg.nine
    replace c0 := cell_regrown c0
    replace d0 := cell_regrown d0
    replace c1 := cell_regrown c1
    replace d1 := cell_regrown d1
    replace c2 := cell_regrown c2
    replace d2 := cell_regrown d2
    replace c3 := cell_regrown c3
    replace d3 := cell_regrown d3
    replace c4 := cell_regrown c4
    replace d4 := cell_regrown d4
    replace c5 := cell_regrown c5
    replace d5 := cell_regrown d5
    replace c6 := cell_regrown c6
    replace d6 := cell_regrown d6
    replace c7 := cell_regrown c7
    replace d7 := cell_regrown d7
    replace c8 := cell_regrown c8
    replace d8 := cell_regrown d8
    cases ok
    · skip
      refine wp_region_quiet_below (by kernel_rfl) (by kernel_rfl) ?_
      repeat (go_big_quiet_step ((first | (go_at_call 27; exact Calls.regrown_of (cE _)) | (go_at_call 28; exact Calls.regrown_of (cI _)) | (go_at_call 29; exact Calls.regrown_of (cS _)) | (go_at_call 30; exact Calls.regrown_of (cZ _)))))
      refine wpQuiet_nil ?_
      intro _ hw'
      obtain ⟨⟨dq, osq⟩, hw''⟩ := hw'
      subst hw''
      replace hb := below_next hb hb.size (below_regrown _ dq osq)
      replace kf := kf.below (below_regrown _ dq osq) kf.lt
      generalize grow (redrawn _ dq) osq = W4 at hb kf ⊢
      clear cE cI cS cZ kg
      clear c0 c1 c2 c3 c4 c5 c6 c7 c8 d0 d1 d2 d3 d4 d5 d6 d7 d8
      go_wp2_with fail
      refine (drawDecodeFrame ((hr.below hb (Nat.le_refl _)).more hb.size) hs HL).mono ?_
      rintro e w5 ⟨v, rfl, ⟨t, p, rfl, ht, hp0, hp1⟩, hb5⟩
      replace kf := kf.below hb5 kf.lt
      replace hb := below_next hb hb.size hb5
      clear hb5
      have ht6 : t.size ≤ 1048576 := by omega
      have hI := fun W => iDF' t ht6 p W
      have hS := fun W => sDF t ht6 p W
      rcases df_two t ht6 p with hv2 | ⟨ya, yb, yc, yd, ye, yg, yl, ym, yu, r, hv2, hok2, hyd, hpr, hrt⟩
      · rw [hv2] at hI hS
        go_wp2_with fail
        refine (hI _).mono ?_
        rintro e w6 ⟨hb6, rfl⟩
        replace kf := kf.below hb6 kf.lt
        replace hb := below_next hb hb.size hb6
        clear hb6
        go_wp2_with fail
        have al := (Below.refl w6.heap.size w6).alloc (Nat.le_refl _) (.cells #[.int .i64 0, .int .i64 0, .int .i64 0, .string ⟨#[]⟩, .bool false, .int .i64 0, .int .i64 0, .int .i64 0, .bool false] 40)
        have kh : Bk (w6.alloc (.cells #[.int .i64 0, .int .i64 0, .int .i64 0, .string ⟨#[]⟩, .bool false, .int .i64 0, .int .i64 0, .int .i64 0, .bool false] 40)) w6.heap.size 40 #[.int .i64 0, .int .i64 0, .int .i64 0, .string ⟨#[]⟩, .bool false, .int .i64 0, .int .i64 0, .int .i64 0, .bool false] := heap_alloc_new w6 _
        replace kf := kf.below al kf.lt
        replace hb := below_next hb hb.size al
        generalize w6.alloc (.cells #[.int .i64 0, .int .i64 0, .int .i64 0, .string ⟨#[]⟩, .bool false, .int .i64 0, .int .i64 0, .int .i64 0, .bool false] 40) = W6 at kf kh hb ⊢
        generalize w6.heap.size = gh at kh ⊢
        clear al
        refine (hS _).mono ?_
        rintro e w7 ⟨hb7, rfl⟩
        replace kf := kf.below hb7 kf.lt
        replace kh := kh.below hb7 kh.lt
        replace hb := below_next hb hb.size hb7
        clear hb7
        go_wp2_with fail
        have al := (Below.refl w7.heap.size w7).alloc (Nat.le_refl _) (.cells #[.int .i64 0, .int .i64 0, .int .i64 0, .string ⟨#[]⟩, .bool false, .int .i64 0, .int .i64 0, .int .i64 0, .bool false] 40)
        have kk : Bk (w7.alloc (.cells #[.int .i64 0, .int .i64 0, .int .i64 0, .string ⟨#[]⟩, .bool false, .int .i64 0, .int .i64 0, .int .i64 0, .bool false] 40)) w7.heap.size 40 #[.int .i64 0, .int .i64 0, .int .i64 0, .string ⟨#[]⟩, .bool false, .int .i64 0, .int .i64 0, .int .i64 0, .bool false] := heap_alloc_new w7 _
        replace kf := kf.below al kf.lt
        replace kh := kh.below al kh.lt
        replace hb := below_next hb hb.size al
        generalize w7.alloc (.cells #[.int .i64 0, .int .i64 0, .int .i64 0, .string ⟨#[]⟩, .bool false, .int .i64 0, .int .i64 0, .int .i64 0, .bool false] 40) = W7 at kf kh kk hb ⊢
        generalize w7.heap.size = gk at kk ⊢
        clear al hI hS hv2
        refine (drawKindName ((hr.below hb (Nat.le_refl _)).more hb.size) hs HL).mono ?_
        rintro e w8 ⟨v, rfl, ⟨kn, rfl⟩, hb8⟩
        replace kf := kf.below hb8 kf.lt
        replace kh := kh.below hb8 kh.lt
        replace kk := kk.below hb8 kk.lt
        replace hb := below_next hb hb.size hb8
        clear hb8
        obtain ⟨c0, c1, c2, c3, c4, c5, c6, c7, c8⟩ := kf.nine
        obtain ⟨d0, d1, d2, d3, d4, d5, d6, d7, d8⟩ := kh.nine
        obtain ⟨e0, e1, e2, e3, e4, e5, e6, e7, e8⟩ := kk.nine
        replace c0 := cell_regrown c0; replace d0 := cell_regrown d0; replace e0 := cell_regrown e0
        replace c1 := cell_regrown c1; replace d1 := cell_regrown d1; replace e1 := cell_regrown e1
        replace c2 := cell_regrown c2; replace d2 := cell_regrown d2; replace e2 := cell_regrown e2
        replace c3 := cell_regrown c3; replace d3 := cell_regrown d3; replace e3 := cell_regrown e3
        replace c4 := cell_regrown c4; replace d4 := cell_regrown d4; replace e4 := cell_regrown e4
        replace c5 := cell_regrown c5; replace d5 := cell_regrown d5; replace e5 := cell_regrown e5
        replace c6 := cell_regrown c6; replace d6 := cell_regrown d6; replace e6 := cell_regrown e6
        replace c7 := cell_regrown c7; replace d7 := cell_regrown d7; replace e7 := cell_regrown e7
        replace c8 := cell_regrown c8; replace d8 := cell_regrown d8; replace e8 := cell_regrown e8
        have kS := fun W => sKindB' kn W
        have kI := fun W => iKindB' kn W
        have aS := fun W => sAboutB fa fb fc fd fe fg fl fm fu hs6 W
        have aI := fun W => iAboutB fa fb fc fd fe fg fl fm fu hs6 W
        have heq := fun W => run_eql_fr 0 0 0 ⟨#[]⟩ false 0 0 0 false 0 0 0 ⟨#[]⟩ false 0 0 0 false W
        simp only [eqFb_self] at heq
        go_wp2_with fail
        refine wp_region_quiet_below (by kernel_rfl) (by kernel_rfl) ?_
        repeat (go_big_quiet_step ((first | (go_at_call 34; exact Calls.regrown_of (kI _)) | (go_at_call 35; exact Calls.regrown_of (kS _)) | (go_at_call 36; exact Calls.regrown_of (aI _)) | (go_at_call 37; exact Calls.regrown_of (aS _)))))
        refine wpQuiet_nil ?_
        intro _ hw'
        obtain ⟨⟨dq, osq⟩, hw''⟩ := hw'
        subst hw''
        replace hb := below_next hb hb.size (below_regrown _ dq osq)
        generalize grow (redrawn _ dq) osq = W9 at hb ⊢
        clear c0 c1 c2 c3 c4 c5 c6 c7 c8 d0 d1 d2 d3 d4 d5 d6 d7 d8 e0 e1 e2 e3 e4 e5 e6 e7 e8
        go_wp2
        go_ret
        exact ⟨rfl, hb⟩
      · rw [hv2] at hI hS
        go_wp2_with fail
        refine (hI _).mono ?_
        rintro e w6 ⟨hb6, rfl⟩
        replace kf := kf.below hb6 kf.lt
        replace hb := below_next hb hb.size hb6
        clear hb6
        go_wp2_with fail
        have al := (Below.refl w6.heap.size w6).alloc (Nat.le_refl _) (.cells #[.int .i64 ya, .int .i64 yb, .int .i64 yc, .string yd, .bool ye, .int .i64 yg, .int .i64 yl, .int .i64 ym, .bool yu] 40)
        have kh : Bk (w6.alloc (.cells #[.int .i64 ya, .int .i64 yb, .int .i64 yc, .string yd, .bool ye, .int .i64 yg, .int .i64 yl, .int .i64 ym, .bool yu] 40)) w6.heap.size 40 #[.int .i64 ya, .int .i64 yb, .int .i64 yc, .string yd, .bool ye, .int .i64 yg, .int .i64 yl, .int .i64 ym, .bool yu] := heap_alloc_new w6 _
        replace kf := kf.below al kf.lt
        replace hb := below_next hb hb.size al
        generalize w6.alloc (.cells #[.int .i64 ya, .int .i64 yb, .int .i64 yc, .string yd, .bool ye, .int .i64 yg, .int .i64 yl, .int .i64 ym, .bool yu] 40) = W6 at kf kh hb ⊢
        generalize w6.heap.size = gh at kh ⊢
        clear al
        refine (hS _).mono ?_
        rintro e w7 ⟨hb7, rfl⟩
        replace kf := kf.below hb7 kf.lt
        replace kh := kh.below hb7 kh.lt
        replace hb := below_next hb hb.size hb7
        clear hb7
        go_wp2_with fail
        have al := (Below.refl w7.heap.size w7).alloc (Nat.le_refl _) (.cells #[.int .i64 ya, .int .i64 yb, .int .i64 yc, .string yd, .bool ye, .int .i64 yg, .int .i64 yl, .int .i64 ym, .bool yu] 40)
        have kk : Bk (w7.alloc (.cells #[.int .i64 ya, .int .i64 yb, .int .i64 yc, .string yd, .bool ye, .int .i64 yg, .int .i64 yl, .int .i64 ym, .bool yu] 40)) w7.heap.size 40 #[.int .i64 ya, .int .i64 yb, .int .i64 yc, .string yd, .bool ye, .int .i64 yg, .int .i64 yl, .int .i64 ym, .bool yu] := heap_alloc_new w7 _
        replace kf := kf.below al kf.lt
        replace kh := kh.below al kh.lt
        replace hb := below_next hb hb.size al
        generalize w7.alloc (.cells #[.int .i64 ya, .int .i64 yb, .int .i64 yc, .string yd, .bool ye, .int .i64 yg, .int .i64 yl, .int .i64 ym, .bool yu] 40) = W7 at kf kh kk hb ⊢
        generalize w7.heap.size = gk at kk ⊢
        clear al hI hS hv2
        refine (drawKindName ((hr.below hb (Nat.le_refl _)).more hb.size) hs HL).mono ?_
        rintro e w8 ⟨v, rfl, ⟨kn, rfl⟩, hb8⟩
        replace kf := kf.below hb8 kf.lt
        replace kh := kh.below hb8 kh.lt
        replace kk := kk.below hb8 kk.lt
        replace hb := below_next hb hb.size hb8
        clear hb8
        obtain ⟨c0, c1, c2, c3, c4, c5, c6, c7, c8⟩ := kf.nine
        obtain ⟨d0, d1, d2, d3, d4, d5, d6, d7, d8⟩ := kh.nine
        obtain ⟨e0, e1, e2, e3, e4, e5, e6, e7, e8⟩ := kk.nine
        replace c0 := cell_regrown c0; replace d0 := cell_regrown d0; replace e0 := cell_regrown e0
        replace c1 := cell_regrown c1; replace d1 := cell_regrown d1; replace e1 := cell_regrown e1
        replace c2 := cell_regrown c2; replace d2 := cell_regrown d2; replace e2 := cell_regrown e2
        replace c3 := cell_regrown c3; replace d3 := cell_regrown d3; replace e3 := cell_regrown e3
        replace c4 := cell_regrown c4; replace d4 := cell_regrown d4; replace e4 := cell_regrown e4
        replace c5 := cell_regrown c5; replace d5 := cell_regrown d5; replace e5 := cell_regrown e5
        replace c6 := cell_regrown c6; replace d6 := cell_regrown d6; replace e6 := cell_regrown e6
        replace c7 := cell_regrown c7; replace d7 := cell_regrown d7; replace e7 := cell_regrown e7
        replace c8 := cell_regrown c8; replace d8 := cell_regrown d8; replace e8 := cell_regrown e8
        have kS := fun W => sKindB' kn W
        have kI := fun W => iKindB' kn W
        have aS := fun W => sAboutB fa fb fc fd fe fg fl fm fu hs6 W
        have aI := fun W => iAboutB fa fb fc fd fe fg fl fm fu hs6 W
        have cS := fun W => sIs ya yb yc yd ye yg yl ym yu hyd W
        rw [hok2] at cS
        have heq := fun W => run_eql_fr ya yb yc yd ye yg yl ym yu ya yb yc yd ye yg yl ym yu W
        have g1 : decide (p < r) = true := by simp; omega
        have g2 : decide (r ≤ (t.size : Int)) = true := by simp; omega
        simp only [eqFb_self] at heq
        go_wp2_with fail
        refine wp_region_quiet_below (by kernel_rfl) (by kernel_rfl) ?_
        repeat (go_big_quiet_step ((first | (go_at_call 34; exact Calls.regrown_of (kI _)) | (go_at_call 35; exact Calls.regrown_of (kS _)) | (go_at_call 36; exact Calls.regrown_of (aI _)) | (go_at_call 37; exact Calls.regrown_of (aS _)) | (go_at_call 29; exact Calls.regrown_of (cS _)))))
        refine wpQuiet_nil ?_
        intro _ hw'
        obtain ⟨⟨dq, osq⟩, hw''⟩ := hw'
        subst hw''
        replace hb := below_next hb hb.size (below_regrown _ dq osq)
        generalize grow (redrawn _ dq) osq = W9 at hb ⊢
        clear c0 c1 c2 c3 c4 c5 c6 c7 c8 d0 d1 d2 d3 d4 d5 d6 d7 d8 e0 e1 e2 e3 e4 e5 e6 e7 e8
        go_wp2
        go_ret
        exact ⟨rfl, hb⟩
    · obtain ⟨he, rfl⟩ := hvx rfl
      have hne := fun W => run_neq_fr xa xb xc xd xe xg xl xm xu fa fb fc fd fe fg fl fm fu W
      rw [he] at hne
      simp only [Bool.not_true] at hne
      refine wp_region_quiet_below (by kernel_rfl) (by kernel_rfl) ?_
      repeat (go_big_quiet_step ((first | (go_at_call 27; exact Calls.regrown_of (cE _)) | (go_at_call 28; exact Calls.regrown_of (cI _)) | (go_at_call 29; exact Calls.regrown_of (cS _)) | (go_at_call 30; exact Calls.regrown_of (cZ _)))))
      refine wpQuiet_nil ?_
      intro _ hw'
      obtain ⟨⟨dq, osq⟩, hw''⟩ := hw'
      subst hw''
      clear hne
      replace hb := below_next hb hb.size (below_regrown _ dq osq)
      replace kf := kf.below (below_regrown _ dq osq) kf.lt
      generalize grow (redrawn _ dq) osq = W4 at hb kf ⊢
      clear cE cI cS cZ kg
      clear c0 c1 c2 c3 c4 c5 c6 c7 c8 d0 d1 d2 d3 d4 d5 d6 d7 d8
      go_wp2_with fail
      refine (drawDecodeFrame ((hr.below hb (Nat.le_refl _)).more hb.size) hs HL).mono ?_
      rintro e w5 ⟨v, rfl, ⟨t, p, rfl, ht, hp0, hp1⟩, hb5⟩
      replace kf := kf.below hb5 kf.lt
      replace hb := below_next hb hb.size hb5
      clear hb5
      have ht6 : t.size ≤ 1048576 := by omega
      have hI := fun W => iDF' t ht6 p W
      have hS := fun W => sDF t ht6 p W
      rcases df_two t ht6 p with hv2 | ⟨ya, yb, yc, yd, ye, yg, yl, ym, yu, r, hv2, hok2, hyd, hpr, hrt⟩
      · rw [hv2] at hI hS
        go_wp2_with fail
        refine (hI _).mono ?_
        rintro e w6 ⟨hb6, rfl⟩
        replace kf := kf.below hb6 kf.lt
        replace hb := below_next hb hb.size hb6
        clear hb6
        go_wp2_with fail
        have al := (Below.refl w6.heap.size w6).alloc (Nat.le_refl _) (.cells #[.int .i64 0, .int .i64 0, .int .i64 0, .string ⟨#[]⟩, .bool false, .int .i64 0, .int .i64 0, .int .i64 0, .bool false] 40)
        have kh : Bk (w6.alloc (.cells #[.int .i64 0, .int .i64 0, .int .i64 0, .string ⟨#[]⟩, .bool false, .int .i64 0, .int .i64 0, .int .i64 0, .bool false] 40)) w6.heap.size 40 #[.int .i64 0, .int .i64 0, .int .i64 0, .string ⟨#[]⟩, .bool false, .int .i64 0, .int .i64 0, .int .i64 0, .bool false] := heap_alloc_new w6 _
        replace kf := kf.below al kf.lt
        replace hb := below_next hb hb.size al
        generalize w6.alloc (.cells #[.int .i64 0, .int .i64 0, .int .i64 0, .string ⟨#[]⟩, .bool false, .int .i64 0, .int .i64 0, .int .i64 0, .bool false] 40) = W6 at kf kh hb ⊢
        generalize w6.heap.size = gh at kh ⊢
        clear al
        refine (hS _).mono ?_
        rintro e w7 ⟨hb7, rfl⟩
        replace kf := kf.below hb7 kf.lt
        replace kh := kh.below hb7 kh.lt
        replace hb := below_next hb hb.size hb7
        clear hb7
        go_wp2_with fail
        have al := (Below.refl w7.heap.size w7).alloc (Nat.le_refl _) (.cells #[.int .i64 0, .int .i64 0, .int .i64 0, .string ⟨#[]⟩, .bool false, .int .i64 0, .int .i64 0, .int .i64 0, .bool false] 40)
        have kk : Bk (w7.alloc (.cells #[.int .i64 0, .int .i64 0, .int .i64 0, .string ⟨#[]⟩, .bool false, .int .i64 0, .int .i64 0, .int .i64 0, .bool false] 40)) w7.heap.size 40 #[.int .i64 0, .int .i64 0, .int .i64 0, .string ⟨#[]⟩, .bool false, .int .i64 0, .int .i64 0, .int .i64 0, .bool false] := heap_alloc_new w7 _
        replace kf := kf.below al kf.lt
        replace kh := kh.below al kh.lt
        replace hb := below_next hb hb.size al
        generalize w7.alloc (.cells #[.int .i64 0, .int .i64 0, .int .i64 0, .string ⟨#[]⟩, .bool false, .int .i64 0, .int .i64 0, .int .i64 0, .bool false] 40) = W7 at kf kh kk hb ⊢
        generalize w7.heap.size = gk at kk ⊢
        clear al hI hS hv2
        refine (drawKindName ((hr.below hb (Nat.le_refl _)).more hb.size) hs HL).mono ?_
        rintro e w8 ⟨v, rfl, ⟨kn, rfl⟩, hb8⟩
        replace kf := kf.below hb8 kf.lt
        replace kh := kh.below hb8 kh.lt
        replace kk := kk.below hb8 kk.lt
        replace hb := below_next hb hb.size hb8
        clear hb8
        obtain ⟨c0, c1, c2, c3, c4, c5, c6, c7, c8⟩ := kf.nine
        obtain ⟨d0, d1, d2, d3, d4, d5, d6, d7, d8⟩ := kh.nine
        obtain ⟨e0, e1, e2, e3, e4, e5, e6, e7, e8⟩ := kk.nine
        replace c0 := cell_regrown c0; replace d0 := cell_regrown d0; replace e0 := cell_regrown e0
        replace c1 := cell_regrown c1; replace d1 := cell_regrown d1; replace e1 := cell_regrown e1
        replace c2 := cell_regrown c2; replace d2 := cell_regrown d2; replace e2 := cell_regrown e2
        replace c3 := cell_regrown c3; replace d3 := cell_regrown d3; replace e3 := cell_regrown e3
        replace c4 := cell_regrown c4; replace d4 := cell_regrown d4; replace e4 := cell_regrown e4
        replace c5 := cell_regrown c5; replace d5 := cell_regrown d5; replace e5 := cell_regrown e5
        replace c6 := cell_regrown c6; replace d6 := cell_regrown d6; replace e6 := cell_regrown e6
        replace c7 := cell_regrown c7; replace d7 := cell_regrown d7; replace e7 := cell_regrown e7
        replace c8 := cell_regrown c8; replace d8 := cell_regrown d8; replace e8 := cell_regrown e8
        have kS := fun W => sKindB' kn W
        have kI := fun W => iKindB' kn W
        have aS := fun W => sAboutB fa fb fc fd fe fg fl fm fu hs6 W
        have aI := fun W => iAboutB fa fb fc fd fe fg fl fm fu hs6 W
        have heq := fun W => run_eql_fr 0 0 0 ⟨#[]⟩ false 0 0 0 false 0 0 0 ⟨#[]⟩ false 0 0 0 false W
        simp only [eqFb_self] at heq
        go_wp2_with fail
        refine wp_region_quiet_below (by kernel_rfl) (by kernel_rfl) ?_
        repeat (go_big_quiet_step ((first | (go_at_call 34; exact Calls.regrown_of (kI _)) | (go_at_call 35; exact Calls.regrown_of (kS _)) | (go_at_call 36; exact Calls.regrown_of (aI _)) | (go_at_call 37; exact Calls.regrown_of (aS _)))))
        refine wpQuiet_nil ?_
        intro _ hw'
        obtain ⟨⟨dq, osq⟩, hw''⟩ := hw'
        subst hw''
        replace hb := below_next hb hb.size (below_regrown _ dq osq)
        generalize grow (redrawn _ dq) osq = W9 at hb ⊢
        clear c0 c1 c2 c3 c4 c5 c6 c7 c8 d0 d1 d2 d3 d4 d5 d6 d7 d8 e0 e1 e2 e3 e4 e5 e6 e7 e8
        go_wp2
        go_ret
        exact ⟨rfl, hb⟩
      · rw [hv2] at hI hS
        go_wp2_with fail
        refine (hI _).mono ?_
        rintro e w6 ⟨hb6, rfl⟩
        replace kf := kf.below hb6 kf.lt
        replace hb := below_next hb hb.size hb6
        clear hb6
        go_wp2_with fail
        have al := (Below.refl w6.heap.size w6).alloc (Nat.le_refl _) (.cells #[.int .i64 ya, .int .i64 yb, .int .i64 yc, .string yd, .bool ye, .int .i64 yg, .int .i64 yl, .int .i64 ym, .bool yu] 40)
        have kh : Bk (w6.alloc (.cells #[.int .i64 ya, .int .i64 yb, .int .i64 yc, .string yd, .bool ye, .int .i64 yg, .int .i64 yl, .int .i64 ym, .bool yu] 40)) w6.heap.size 40 #[.int .i64 ya, .int .i64 yb, .int .i64 yc, .string yd, .bool ye, .int .i64 yg, .int .i64 yl, .int .i64 ym, .bool yu] := heap_alloc_new w6 _
        replace kf := kf.below al kf.lt
        replace hb := below_next hb hb.size al
        generalize w6.alloc (.cells #[.int .i64 ya, .int .i64 yb, .int .i64 yc, .string yd, .bool ye, .int .i64 yg, .int .i64 yl, .int .i64 ym, .bool yu] 40) = W6 at kf kh hb ⊢
        generalize w6.heap.size = gh at kh ⊢
        clear al
        refine (hS _).mono ?_
        rintro e w7 ⟨hb7, rfl⟩
        replace kf := kf.below hb7 kf.lt
        replace kh := kh.below hb7 kh.lt
        replace hb := below_next hb hb.size hb7
        clear hb7
        go_wp2_with fail
        have al := (Below.refl w7.heap.size w7).alloc (Nat.le_refl _) (.cells #[.int .i64 ya, .int .i64 yb, .int .i64 yc, .string yd, .bool ye, .int .i64 yg, .int .i64 yl, .int .i64 ym, .bool yu] 40)
        have kk : Bk (w7.alloc (.cells #[.int .i64 ya, .int .i64 yb, .int .i64 yc, .string yd, .bool ye, .int .i64 yg, .int .i64 yl, .int .i64 ym, .bool yu] 40)) w7.heap.size 40 #[.int .i64 ya, .int .i64 yb, .int .i64 yc, .string yd, .bool ye, .int .i64 yg, .int .i64 yl, .int .i64 ym, .bool yu] := heap_alloc_new w7 _
        replace kf := kf.below al kf.lt
        replace kh := kh.below al kh.lt
        replace hb := below_next hb hb.size al
        generalize w7.alloc (.cells #[.int .i64 ya, .int .i64 yb, .int .i64 yc, .string yd, .bool ye, .int .i64 yg, .int .i64 yl, .int .i64 ym, .bool yu] 40) = W7 at kf kh kk hb ⊢
        generalize w7.heap.size = gk at kk ⊢
        clear al hI hS hv2
        refine (drawKindName ((hr.below hb (Nat.le_refl _)).more hb.size) hs HL).mono ?_
        rintro e w8 ⟨v, rfl, ⟨kn, rfl⟩, hb8⟩
        replace kf := kf.below hb8 kf.lt
        replace kh := kh.below hb8 kh.lt
        replace kk := kk.below hb8 kk.lt
        replace hb := below_next hb hb.size hb8
        clear hb8
        obtain ⟨c0, c1, c2, c3, c4, c5, c6, c7, c8⟩ := kf.nine
        obtain ⟨d0, d1, d2, d3, d4, d5, d6, d7, d8⟩ := kh.nine
        obtain ⟨e0, e1, e2, e3, e4, e5, e6, e7, e8⟩ := kk.nine
        replace c0 := cell_regrown c0; replace d0 := cell_regrown d0; replace e0 := cell_regrown e0
        replace c1 := cell_regrown c1; replace d1 := cell_regrown d1; replace e1 := cell_regrown e1
        replace c2 := cell_regrown c2; replace d2 := cell_regrown d2; replace e2 := cell_regrown e2
        replace c3 := cell_regrown c3; replace d3 := cell_regrown d3; replace e3 := cell_regrown e3
        replace c4 := cell_regrown c4; replace d4 := cell_regrown d4; replace e4 := cell_regrown e4
        replace c5 := cell_regrown c5; replace d5 := cell_regrown d5; replace e5 := cell_regrown e5
        replace c6 := cell_regrown c6; replace d6 := cell_regrown d6; replace e6 := cell_regrown e6
        replace c7 := cell_regrown c7; replace d7 := cell_regrown d7; replace e7 := cell_regrown e7
        replace c8 := cell_regrown c8; replace d8 := cell_regrown d8; replace e8 := cell_regrown e8
        have kS := fun W => sKindB' kn W
        have kI := fun W => iKindB' kn W
        have aS := fun W => sAboutB fa fb fc fd fe fg fl fm fu hs6 W
        have aI := fun W => iAboutB fa fb fc fd fe fg fl fm fu hs6 W
        have cS := fun W => sIs ya yb yc yd ye yg yl ym yu hyd W
        rw [hok2] at cS
        have heq := fun W => run_eql_fr ya yb yc yd ye yg yl ym yu ya yb yc yd ye yg yl ym yu W
        have g1 : decide (p < r) = true := by simp; omega
        have g2 : decide (r ≤ (t.size : Int)) = true := by simp; omega
        simp only [eqFb_self] at heq
        go_wp2_with fail
        refine wp_region_quiet_below (by kernel_rfl) (by kernel_rfl) ?_
        repeat (go_big_quiet_step ((first | (go_at_call 34; exact Calls.regrown_of (kI _)) | (go_at_call 35; exact Calls.regrown_of (kS _)) | (go_at_call 36; exact Calls.regrown_of (aI _)) | (go_at_call 37; exact Calls.regrown_of (aS _)) | (go_at_call 29; exact Calls.regrown_of (cS _)))))
        refine wpQuiet_nil ?_
        intro _ hw'
        obtain ⟨⟨dq, osq⟩, hw''⟩ := hw'
        subst hw''
        replace hb := below_next hb hb.size (below_regrown _ dq osq)
        generalize grow (redrawn _ dq) osq = W9 at hb ⊢
        clear c0 c1 c2 c3 c4 c5 c6 c7 c8 d0 d1 d2 d3 d4 d5 d6 d7 d8 e0 e1 e2 e3 e4 e5 e6 e7 e8
        go_wp2
        go_ret
        exact ⟨rfl, hb⟩
  · have hd : decide ((1048576 : Int) < (n : Int)) = true := by simp; omega
    go_enter Try.func4, Try.ntmps4
    go_wp2_with (first | (go_at_call 6; go_in))
    go_ret
    exact ⟨rfl, Below.refl _ _⟩
end Go.Proofs.Ytadoiehgobcjcaa
