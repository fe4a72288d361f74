/- TakeBytes of the program: its contract. No conditions. -/
import Derived.Test.YtnndhkdigmkddaaE14D
namespace Go.Proofs.Ytnndhkdigmkddaa
open Go.ChangeShapes Go.WideShapes Go.ChangeAt Go.RowKit Go.Sort
set_option linter.unusedVariables false
set_option linter.unusedSimpArgs false
set_option maxRecDepth 20000 in
set_option maxHeartbeats 40000000 in
theorem iTake {A : Option Addr} {c n : Nat} {w : World} {B : Nat} {l : List Ck} (nx most : Int) (hnx : (Lit.int .i64 nx).wf = true) (hB : B ≤ w.heap.size) (hr : Rd w B A (encC l)) (hm : n ≤ 1048576) (HL : Hid (l.length = n)) (hd : ∀ k, k < n → (l.getD k ck0).2.size ≤ 1048576) (hw : ∀ k, k < n → (Lit.int .i64 (l.getD k ck0).1).wf = true) (hca : A = none → c = 0) :
    Calls Try.prog 9 #[.agg #[.int .i64 nx, .slice A n c], .int .i64 most] w (OutT w nx l most) := by
  have hb0 := bbox w (.int .i64 nx) (.slice A n c) 28
  have hk0 : Bk (w.alloc (.cells #[.int .i64 nx, .slice A n c] 28)) w.heap.size 28 #[.int .i64 nx, .slice A n c] := heap_alloc_new w _
  have hs0 : (w.alloc (.cells #[.int .i64 nx, .slice A n c] 28)).heap.size = w.heap.size + 1 := by simp
  have HB0 := Lib.hid hb0; have HK0 := Lib.hid hk0; have HS0 := Lib.hid hs0
  clear hb0 hk0 hs0
  go_enter Try.func9, Try.ntmps9
  go_wp2_with fail
  have hb0 := HB0.out; have hk0 := HK0.out; have hs0 := HS0.out
  clear HB0 HK0 HS0
  generalize w.alloc (.cells #[.int .i64 nx, .slice A n c] 28) = w0 at hb0 hk0 hs0 ⊢
  have kr : Bk (w0.alloc (.cells #[.int .i64 0, .slice none 0 0] 28)) (w.heap.size + 1) 28 #[.int .i64 0, .slice none 0 0] := by rw [← hs0]; exact heap_alloc_new w0 _
  have al := bbox w0 (.int .i64 0) (.slice none 0 0) 28
  have kb := hk0.below al hk0.lt
  have hb := below_next hb0 hb0.size al
  clear al hk0 hb0
  generalize w0.alloc (.cells #[.int .i64 0, .slice none 0 0] 28) = w1 at kr kb hb ⊢
  clear hs0
  obtain ⟨b0, b1⟩ := kb.two
  have hlt1 := kb.lt
  have hltr := kr.lt
  obtain ⟨r, hrd⟩ : ∃ r, rdB nx l = r := ⟨_, rfl⟩
  have hCopy : ∀ W, Below w.heap.size w W → Calls Try.prog 26 #[.agg #[.int .i64 nx, .slice A n c]] W (OutBf W nx l) := fun W h => iCopyB (w := W) (B := B) nx (Nat.le_trans hB h.size) (hr.below h hB) (by omega) HL hca
  have hReady : ∀ W, Below w.heap.size w W → Calls Try.prog 20 #[.agg #[.int .i64 nx, .slice A n c]] W (fun e w' => e = .returned (.int .i64 r) ∧ Below W.heap.size W w') := fun W h => by
    have := iReady (c := c) (w := W) (B := B) nx hnx (Nat.le_trans hB h.size) (hr.below h hB) hm HL hd hw
    rwa [hrd] at this
  have HRD := Lib.hid hrd
  clear hrd
  have alX := bbox w1 (.int .i64 0) (.slice none 0 0) 28
  have hbX := (below_next hb hb.size alX).drew
  have kbX : Bk ((w1.alloc (.cells #[.int .i64 0, .slice none 0 0] 28)).drew) w.heap.size 28 #[.int .i64 nx, .slice A n c] := kb.below alX.drew hlt1
  have krX : Bk ((w1.alloc (.cells #[.int .i64 0, .slice none 0 0] 28)).drew) (w.heap.size + 1) 28 #[.int .i64 0, .slice none 0 0] := kr.below alX.drew hltr
  have kOX : Bk ((w1.alloc (.cells #[.int .i64 0, .slice none 0 0] 28)).drew) w1.heap.size 28 #[.int .i64 0, .slice none 0 0] := heap_alloc_new w1 _
  have kbD : Bk w1.drew w.heap.size 28 #[.int .i64 nx, .slice A n c] := kb
  have krD : Bk w1.drew (w.heap.size + 1) 28 #[.int .i64 0, .slice none 0 0] := kr
  obtain ⟨a0, a1⟩ := kbX.two
  have hA0 : w1.heap.size < ((w1.alloc (.cells #[.int .i64 0, .slice none 0 0] 28)).drew).heap.size := by show w1.heap.size < (w1.heap.push _).size; simp
  have hlow1 : w.heap.size + 2 ≤ w1.drew.heap.size := hltr
  have hlow2 : w.heap.size + 2 ≤ ((w1.alloc (.cells #[.int .i64 0, .slice none 0 0] 28)).drew).heap.size := Nat.le_trans hltr (Nat.le_of_lt hA0)
  have hm1 : r < most → tkM nx l most = r := fun h => by unfold tkM; rw [HRD.out]; omega
  have hm2 : ¬ r < most → tkM nx l most = most := fun h => by unfold tkM; rw [HRD.out]; omega
  have HM1 := Lib.hid hm1; have HM2 := Lib.hid hm2
  clear hm1 hm2
  go_cut [6, 7] from 9 to 14 (fun o m wx => ∃ (gO : Nat) (A2 : Option Addr) (c2 : Nat), o = .pointer (some ⟨gO, 0, none⟩) ∧ m = .int .i64 (tkM nx l most) ∧ Bk wx gO 28 #[.int .i64 nx, .slice A2 l.length c2] ∧ Bk wx (w.heap.size + 1) 28 #[.int .i64 0, .slice none 0 0] ∧ Below w.heap.size w wx ∧ wx.ownsRow (w.heap.size + 2) 46 2 (.slice A2 l.length c2) l.length (encC l) ∧ w.heap.size + 1 < gO ∧ ∀ k, (Value.slice A2 l.length c2).ownBlock = some k → k ≠ gO)
  case first =>
    by_cases hmr : r < most
    · have HM := Lib.hid (HM1.out hmr)
      go_region_held3 (fun w' => w'.cell? ⟨w.heap.size, 0, none⟩ = some (.int .i64 nx) ∧ w'.cell? ⟨w.heap.size, 1, none⟩ = some (.slice A n c))
            (first
              | exact ⟨b0, b1⟩ | exact ⟨a0, a1⟩ | exact ⟨u0, u1⟩ | exact ⟨v0, v1⟩
              | exact ⟨((bbox w2 (.int .i64 0) (.slice none 0 0) 28).cell (p := ⟨w.heap.size, 0, none⟩) kb2.lt).trans u0, ((bbox w2 (.int .i64 0) (.slice none 0 0) 28).cell (p := ⟨w.heap.size, 1, none⟩) kb2.lt).trans u1⟩
              | exact ⟨((bbox w3 (.int .i64 0) (.slice none 0 0) 28).cell (p := ⟨w.heap.size, 0, none⟩) kb3.lt).trans v0, ((bbox w3 (.int .i64 0) (.slice none 0 0) 28).cell (p := ⟨w.heap.size, 1, none⟩) kb3.lt).trans v1⟩
              | exact ⟨cell_set2 (Nat.ne_of_lt hlt1) v0, cell_set2 (Nat.ne_of_lt hlt1) v1⟩
              | exact ⟨cell_set2 (Nat.ne_of_lt kb2.lt) v0, cell_set2 (Nat.ne_of_lt kb2.lt) v1⟩
              | exact ⟨cell_set2 (Nat.ne_of_lt kb3.lt) (((bbox w3 (.int .i64 0) (.slice none 0 0) 28).cell (p := ⟨w.heap.size, 0, none⟩) kb3.lt).trans v0), cell_set2 (Nat.ne_of_lt kb3.lt) (((bbox w3 (.int .i64 0) (.slice none 0 0) 28).cell (p := ⟨w.heap.size, 1, none⟩) kb3.lt).trans v1)⟩
              | go_keep)
            (first
              | (go_at_call 26; refine (hCopy _ hb.drew).mono ?_; rintro e w2 ⟨A2, c2, rfl, hb2, ho2⟩; have hw2 := below_next hb.drew hb.drew.size hb2; have kb2 := kbD.below hb2 hlt1; have kr2 := krD.below hb2 hltr; obtain ⟨u0, u1⟩ := kb2.two; have hoL := own_lower ho2 hlow1)
              | (go_at_call 26; refine (hCopy _ hbX).mono ?_; rintro e w2 ⟨A2, c2, rfl, hb2, ho2⟩; have hw2 := below_next hbX hbX.size hb2; have kb2 := kbX.below hb2 kbX.lt; have kr2 := krX.below hb2 krX.lt; have kO2 := kOX.below hb2 kOX.lt; obtain ⟨u0, u1⟩ := kb2.two; have hnA : ∀ k, (Value.slice A2 l.length c2).ownBlock = some k → k ≠ w1.heap.size := fun k hk => Nat.ne_of_gt (Nat.lt_of_lt_of_le hA0 (ho2.lt k hk).1); have hoL := own_lower ho2 hlow2)
              | (go_at_call 20; refine (hReady _ hw2).mono ?_; rintro e w3 ⟨rfl, hb3⟩; have hw3 := below_next hw2 hw2.size hb3; have kb3 := kb2.below hb3 kb2.lt; have kr3 := kr2.below hb3 kr2.lt; have ho3 := own_step hoL hb3; obtain ⟨v0, v1⟩ := kb3.two; try (have kO3 := kO2.below hb3 kO2.lt; have fO := kO3.frozen; obtain ⟨q0, q1⟩ := kO3.two))
              | (go_at_call 20; have al2 := bbox w2 (.int .i64 0) (.slice none 0 0) 28; have hw2a := below_next hw2 hw2.size al2; refine (hReady _ hw2a).mono ?_; rintro e w3 ⟨rfl, hb3⟩; have hw3 := below_next hw2a hw2a.size hb3; have kb3 := (kb2.below al2 kb2.lt).below hb3 (kb2.below al2 kb2.lt).lt; have kr3 := (kr2.below al2 kr2.lt).below hb3 (kr2.below al2 kr2.lt).lt; have ho3 := own_step (own_step hoL al2) hb3; have kO3 : Bk w3 w2.heap.size 28 #[.int .i64 0, .slice none 0 0] := (show Bk (w2.alloc (.cells #[.int .i64 0, .slice none 0 0] 28)) w2.heap.size 28 #[.int .i64 0, .slice none 0 0] from heap_alloc_new w2 _).below hb3 (show Bk (w2.alloc (.cells #[.int .i64 0, .slice none 0 0] 28)) w2.heap.size 28 #[.int .i64 0, .slice none 0 0] from heap_alloc_new w2 _).lt; have fO := kO3.frozen; obtain ⟨q0, q1⟩ := kO3.two; obtain ⟨v0, v1⟩ := kb3.two))
      all_goals go_wp2_with fail
      all_goals go_meet
      all_goals first
        | exact ⟨w3.heap.size, A2, c2, rfl, by rw [HM.out], heap_alloc_new w3 _, kr3.below (bbox w3 (.int .i64 nx) (.slice A2 l.length c2) 28) kr3.lt, below_next hw3 hw3.size (bbox w3 (.int .i64 nx) (.slice A2 l.length c2) 28), own_step ho3 (bbox w3 (.int .i64 nx) (.slice A2 l.length c2) 28), kr3.lt, fun k hk => Nat.ne_of_lt (ho3.lt k hk).2⟩
        | exact ⟨w2.heap.size, A2, c2, rfl, by rw [HM.out], kO3.set2 (.int .i64 nx) (.slice A2 l.length c2), (kr3.setO (i := 0) (Nat.ne_of_lt kr2.lt) (.int .i64 nx)).setO (i := 1) (Nat.ne_of_lt kr2.lt) (.slice A2 l.length c2), below_set2 hw3 (Nat.le_of_lt (Nat.lt_of_succ_lt kr2.lt)) (.int .i64 nx) (.slice A2 l.length c2), own_other ho3 (only_setCell (only_setCell (grown_refl w3 (some w2.heap.size)) 0 (.int .i64 nx)) 1 (.slice A2 l.length c2)) (fun k hk e => (fun k hk => Nat.ne_of_lt (ho2.lt k hk).2) k e (by injection hk with hk; exact hk.symm)), kr2.lt, (fun k hk => Nat.ne_of_lt (ho2.lt k hk).2)⟩
        | exact ⟨w1.heap.size, A2, c2, rfl, by rw [HM.out], kO3.set2 (.int .i64 nx) (.slice A2 l.length c2), (kr3.setO (i := 0) (Nat.ne_of_lt hltr) (.int .i64 nx)).setO (i := 1) (Nat.ne_of_lt hltr) (.slice A2 l.length c2), below_set2 hw3 (Nat.le_of_lt (Nat.lt_of_succ_lt hltr)) (.int .i64 nx) (.slice A2 l.length c2), own_other ho3 (only_setCell (only_setCell (grown_refl w3 (some w1.heap.size)) 0 (.int .i64 nx)) 1 (.slice A2 l.length c2)) (fun k hk e => hnA k e (by injection hk with hk; exact hk.symm)), hltr, hnA⟩
    · have HM := Lib.hid (HM2.out hmr)
      go_region_held3 (fun w' => w'.cell? ⟨w.heap.size, 0, none⟩ = some (.int .i64 nx) ∧ w'.cell? ⟨w.heap.size, 1, none⟩ = some (.slice A n c))
            (first
              | exact ⟨b0, b1⟩ | exact ⟨a0, a1⟩ | exact ⟨u0, u1⟩ | exact ⟨v0, v1⟩
              | exact ⟨((bbox w2 (.int .i64 0) (.slice none 0 0) 28).cell (p := ⟨w.heap.size, 0, none⟩) kb2.lt).trans u0, ((bbox w2 (.int .i64 0) (.slice none 0 0) 28).cell (p := ⟨w.heap.size, 1, none⟩) kb2.lt).trans u1⟩
              | exact ⟨((bbox w3 (.int .i64 0) (.slice none 0 0) 28).cell (p := ⟨w.heap.size, 0, none⟩) kb3.lt).trans v0, ((bbox w3 (.int .i64 0) (.slice none 0 0) 28).cell (p := ⟨w.heap.size, 1, none⟩) kb3.lt).trans v1⟩
              | exact ⟨cell_set2 (Nat.ne_of_lt hlt1) v0, cell_set2 (Nat.ne_of_lt hlt1) v1⟩
              | exact ⟨cell_set2 (Nat.ne_of_lt kb2.lt) v0, cell_set2 (Nat.ne_of_lt kb2.lt) v1⟩
              | exact ⟨cell_set2 (Nat.ne_of_lt kb3.lt) (((bbox w3 (.int .i64 0) (.slice none 0 0) 28).cell (p := ⟨w.heap.size, 0, none⟩) kb3.lt).trans v0), cell_set2 (Nat.ne_of_lt kb3.lt) (((bbox w3 (.int .i64 0) (.slice none 0 0) 28).cell (p := ⟨w.heap.size, 1, none⟩) kb3.lt).trans v1)⟩
              | go_keep)
            (first
              | (go_at_call 26; refine (hCopy _ hb.drew).mono ?_; rintro e w2 ⟨A2, c2, rfl, hb2, ho2⟩; have hw2 := below_next hb.drew hb.drew.size hb2; have kb2 := kbD.below hb2 hlt1; have kr2 := krD.below hb2 hltr; obtain ⟨u0, u1⟩ := kb2.two; have hoL := own_lower ho2 hlow1)
              | (go_at_call 26; refine (hCopy _ hbX).mono ?_; rintro e w2 ⟨A2, c2, rfl, hb2, ho2⟩; have hw2 := below_next hbX hbX.size hb2; have kb2 := kbX.below hb2 kbX.lt; have kr2 := krX.below hb2 krX.lt; have kO2 := kOX.below hb2 kOX.lt; obtain ⟨u0, u1⟩ := kb2.two; have hnA : ∀ k, (Value.slice A2 l.length c2).ownBlock = some k → k ≠ w1.heap.size := fun k hk => Nat.ne_of_gt (Nat.lt_of_lt_of_le hA0 (ho2.lt k hk).1); have hoL := own_lower ho2 hlow2)
              | (go_at_call 20; refine (hReady _ hw2).mono ?_; rintro e w3 ⟨rfl, hb3⟩; have hw3 := below_next hw2 hw2.size hb3; have kb3 := kb2.below hb3 kb2.lt; have kr3 := kr2.below hb3 kr2.lt; have ho3 := own_step hoL hb3; obtain ⟨v0, v1⟩ := kb3.two; try (have kO3 := kO2.below hb3 kO2.lt; have fO := kO3.frozen; obtain ⟨q0, q1⟩ := kO3.two))
              | (go_at_call 20; have al2 := bbox w2 (.int .i64 0) (.slice none 0 0) 28; have hw2a := below_next hw2 hw2.size al2; refine (hReady _ hw2a).mono ?_; rintro e w3 ⟨rfl, hb3⟩; have hw3 := below_next hw2a hw2a.size hb3; have kb3 := (kb2.below al2 kb2.lt).below hb3 (kb2.below al2 kb2.lt).lt; have kr3 := (kr2.below al2 kr2.lt).below hb3 (kr2.below al2 kr2.lt).lt; have ho3 := own_step (own_step hoL al2) hb3; have kO3 : Bk w3 w2.heap.size 28 #[.int .i64 0, .slice none 0 0] := (show Bk (w2.alloc (.cells #[.int .i64 0, .slice none 0 0] 28)) w2.heap.size 28 #[.int .i64 0, .slice none 0 0] from heap_alloc_new w2 _).below hb3 (show Bk (w2.alloc (.cells #[.int .i64 0, .slice none 0 0] 28)) w2.heap.size 28 #[.int .i64 0, .slice none 0 0] from heap_alloc_new w2 _).lt; have fO := kO3.frozen; obtain ⟨q0, q1⟩ := kO3.two; obtain ⟨v0, v1⟩ := kb3.two))
      all_goals go_wp2_with fail
      all_goals go_meet
      all_goals first
        | exact ⟨w3.heap.size, A2, c2, rfl, by rw [HM.out], heap_alloc_new w3 _, kr3.below (bbox w3 (.int .i64 nx) (.slice A2 l.length c2) 28) kr3.lt, below_next hw3 hw3.size (bbox w3 (.int .i64 nx) (.slice A2 l.length c2) 28), own_step ho3 (bbox w3 (.int .i64 nx) (.slice A2 l.length c2) 28), kr3.lt, fun k hk => Nat.ne_of_lt (ho3.lt k hk).2⟩
        | exact ⟨w2.heap.size, A2, c2, rfl, by rw [HM.out], kO3.set2 (.int .i64 nx) (.slice A2 l.length c2), (kr3.setO (i := 0) (Nat.ne_of_lt kr2.lt) (.int .i64 nx)).setO (i := 1) (Nat.ne_of_lt kr2.lt) (.slice A2 l.length c2), below_set2 hw3 (Nat.le_of_lt (Nat.lt_of_succ_lt kr2.lt)) (.int .i64 nx) (.slice A2 l.length c2), own_other ho3 (only_setCell (only_setCell (grown_refl w3 (some w2.heap.size)) 0 (.int .i64 nx)) 1 (.slice A2 l.length c2)) (fun k hk e => (fun k hk => Nat.ne_of_lt (ho2.lt k hk).2) k e (by injection hk with hk; exact hk.symm)), kr2.lt, (fun k hk => Nat.ne_of_lt (ho2.lt k hk).2)⟩
        | exact ⟨w1.heap.size, A2, c2, rfl, by rw [HM.out], kO3.set2 (.int .i64 nx) (.slice A2 l.length c2), (kr3.setO (i := 0) (Nat.ne_of_lt hltr) (.int .i64 nx)).setO (i := 1) (Nat.ne_of_lt hltr) (.slice A2 l.length c2), below_set2 hw3 (Nat.le_of_lt (Nat.lt_of_succ_lt hltr)) (.int .i64 nx) (.slice A2 l.length c2), own_other ho3 (only_setCell (only_setCell (grown_refl w3 (some w1.heap.size)) 0 (.int .i64 nx)) 1 (.slice A2 l.length c2)) (fun k hk e => hnA k e (by injection hk with hk; exact hk.symm)), hltr, hnA⟩
  case rest =>
    obtain ⟨gO, A2, c2, rfl, rfl, kO, kr, hb, ho, hlO, hne⟩ := hcut
    clear hCopy hReady alX hbX kbX krX kOX kbD krD a0 a1 b0 b1 hA0 hlow1 hlow2 HM1 HM2
    obtain ⟨o0, o1⟩ := kO.two
    have fo := kO.frozen
    have fr := kr.frozen
    obtain ⟨r0, r1⟩ := kr.two
    have n1 : (gO = w.heap.size + 1) = False := by simp; omega
    have n2 : (w.heap.size + 1 = gO) = False := by simp; omega
    have hd' : ∀ k, k < l.length → (l.getD k ck0).2.size ≤ 1048576 := fun k hk => hd k (by rw [← HL.out]; exact hk)
    clear hd hw
    by_cases hM : tkM nx l most ≤ 0
    · have hd : decide (tkM nx l most ≤ 0) = true := by simp; omega
      go_wp2
      go_region
      go_wp2
      have e1 : tkS nx l most = ⟨#[]⟩ := by unfold tkS; rw [if_pos hM]
      have e2 : tkN nx l most = nx := by unfold tkN; rw [if_pos hM]
      have e3 : tkL nx l most = l := by unfold tkL; rw [if_pos hM]
      have hof := own_other ho (only_setCell (only_setCell (grown_refl wc (some (w.heap.size + 1))) 0 (.int .i64 nx)) 1 (.slice A2 l.length c2)) (fun k hk e => by injection hk with hk; have := (ho.lt k e).1; omega)
      exact bodyPost_ret (results_tbf rfl _ _ (w.heap.size + 1) #[.int .i64 nx, .slice A2 l.length c2] rfl (kr.set2 (.int .i64 nx) (.slice A2 l.length c2)) rfl) rfl ⟨A2, c2, by rw [e1, e2, e3]; rfl, (below_set2 hb (Nat.le_succ _) (.int .i64 nx) (.slice A2 l.length c2)).drew, by rw [e3]; exact (OwR.of_own hof.drew).lower (by omega)⟩
    · have hd : decide (tkM nx l most ≤ 0) = false := by simp; omega
      obtain ⟨hbf, hl0, hx0, hm0, hm1, hmx, hnx0⟩ := tk_pos hM
      obtain ⟨m, hmm⟩ := Int.eq_ofNat_of_zero_le (Int.le_of_lt hm0)
      rcases ho.2 with ⟨hv, hz⟩ | ⟨b, cap, cur, hv, hbb, hcb, hcap, hcm, hcs, _⟩
      · exact absurd hz hl0
      injection hv with hv1 hv2 hv3
      subst hv1 hv3
      have kC : Bk wc b 46 cur := hcb
      have hbO : b ≠ gO := hne b rfl
      have hdata := hd' 0 (by omega)
      obtain ⟨d, hdd⟩ : ∃ d, (l.getD 0 ck0).2 = d := ⟨_, rfl⟩
      rw [hdd] at hm1 hmx hdata
      have q0 : wc.cell? ⟨b, 0, none⟩ = some (.int .i64 nx) := by
        have := ho.cells (g := b) rfl 0 _ (encC_lo l 0 (by omega))
        rw [hx0] at this; exact this
      have q1 : wc.cell? ⟨b, 1, none⟩ = some (.string d) := by
        have := ho.cells (g := b) rfl 1 _ (encC_hi l 0 (by omega))
        rw [hdd] at this; exact this
      have fC := kC.frozen
      rw [hmm] at hm0 hm1 hd ⊢
      have g1 : m ≤ d.size := by omega
      have g2 : (m : Int) ≤ (d.size : Int) := by omega
      have g3 : 0 < l.length := by omega
      have g4 : (0 : Int) < (l.length : Int) := by omega
      have g5 : IntKind.i64.wrap (nx + (m : Int)) = nx + (m : Int) := IntWalk.i64_in _ (by omega)
      have HMM := Lib.hid hmm
      have HHM := Lib.hid hM
      clear hmm hM
      have hbr : b ≠ w.heap.size + 1 := by omega
      have hcells : ∀ (j : Nat) (x : Value), (encC l)[j]? = some x → cur[j]? = some x := fun j x hx => by
        have hc := ho.cells (g := b) rfl j x hx
        have : (⟨b, 0, none⟩ : Addr).add j = ⟨b, 0 + j, none⟩ := by unfold Addr.add; split <;> simp_all
        rw [this, kC.cell, Nat.zero_add] at hc
        exact hc
      have HCELLS := Lib.hid hcells
      clear hcells
      have hsz0 : ¬ m = 0 := by omega
      by_cases hmd : m = d.size
      · have HMD := Lib.hid hmd
        have e0 : ((m : Int) == (d.size : Int)) = true := by simp; omega
        clear hmd
        by_cases hc1 : c2 = 1
        · subst hc1
          go_wp2_with fail
          go_region
          go_wp2
          have kC4 := (((kC.setO (i := 0) hbO (.int .i64 (nx + (m : Int)))).setO (i := 1) hbO (.slice (some ⟨b, 0, none⟩) 0 0)).setO (i := 0) hbr (.int .i64 (nx + (m : Int)))).setO (i := 1) hbr (.slice (some ⟨b, 0, none⟩) 0 0)
          have kr2 := (kr.setO (i := 0) (show w.heap.size + 1 ≠ gO by omega) (.int .i64 (nx + (m : Int)))).setO (i := 1) (show w.heap.size + 1 ≠ gO by omega) (.slice (some ⟨b, 0, none⟩) 0 0)
          have hb4 := (below_set2 (below_set2 hb (show w.heap.size ≤ gO by omega) (.int .i64 (nx + (m : Int))) (.slice (some ⟨b, 0, none⟩) 0 0)) (Nat.le_succ _) (.int .i64 (nx + (m : Int))) (.slice (some ⟨b, 0, none⟩) 0 0)).drew
          have e1 : tkS nx l most = d.extract 0 m := by unfold tkS; rw [if_neg (show ¬ tkM nx l most ≤ 0 by have := HMM.out; omega), HMM.out, hdd, Int.toNat_natCast]
          have e2 : tkN nx l most = nx + (m : Int) := by unfold tkN; rw [if_neg (show ¬ tkM nx l most ≤ 0 by have := HMM.out; omega), HMM.out]
          have e3 : tkL nx l most = [] := by unfold tkL; rw [if_neg (show ¬ tkM nx l most ≤ 0 by have := HMM.out; omega), HMM.out, hdd, if_pos (by have := HMD.out; omega)]; exact List.eq_nil_of_length_eq_zero (by rw [List.length_tail]; omega)
          exact bodyPost_ret (results_tbf rfl _ _ (w.heap.size + 1) #[(.int .i64 (nx + (m : Int))), .slice (some ⟨b, 0, none⟩) 0 0] rfl (kr2.set2 (.int .i64 (nx + (m : Int))) (.slice (some ⟨b, 0, none⟩) 0 0)) rfl) rfl ⟨some ⟨b, 0, none⟩, 0, by rw [e1, e2, e3]; rfl, hb4, by rw [e3]; exact ⟨rfl, .inr ⟨b, 0, cur, rfl, by omega, kC4, by simp, fun j x hx => by cases hx⟩⟩⟩
        · go_wp2_with fail
          go_region
          go_wp2
          have kC4 := (((kC.setO (i := 0) hbO (.int .i64 (nx + (m : Int)))).setO (i := 1) hbO (.slice (some ⟨b, 2, none⟩) (l.length - 1) (c2 - 1))).setO (i := 0) hbr (.int .i64 (nx + (m : Int)))).setO (i := 1) hbr (.slice (some ⟨b, 2, none⟩) (l.length - 1) (c2 - 1))
          have kr2 := (kr.setO (i := 0) (show w.heap.size + 1 ≠ gO by omega) (.int .i64 (nx + (m : Int)))).setO (i := 1) (show w.heap.size + 1 ≠ gO by omega) (.slice (some ⟨b, 2, none⟩) (l.length - 1) (c2 - 1))
          have hb4 := (below_set2 (below_set2 hb (show w.heap.size ≤ gO by omega) (.int .i64 (nx + (m : Int))) (.slice (some ⟨b, 2, none⟩) (l.length - 1) (c2 - 1))) (Nat.le_succ _) (.int .i64 (nx + (m : Int))) (.slice (some ⟨b, 2, none⟩) (l.length - 1) (c2 - 1))).drew
          have e1 : tkS nx l most = d.extract 0 m := by unfold tkS; rw [if_neg (show ¬ tkM nx l most ≤ 0 by have := HMM.out; omega), HMM.out, hdd, Int.toNat_natCast]
          have e2 : tkN nx l most = nx + (m : Int) := by unfold tkN; rw [if_neg (show ¬ tkM nx l most ≤ 0 by have := HMM.out; omega), HMM.out]
          have e3 : tkL nx l most = l.tail := by unfold tkL; rw [if_neg (show ¬ tkM nx l most ≤ 0 by have := HMM.out; omega), HMM.out, hdd, if_pos (by have := HMD.out; omega)]
          have e4 : l.tail.length = l.length - 1 := List.length_tail
          exact bodyPost_ret (results_tbf rfl _ _ (w.heap.size + 1) #[(.int .i64 (nx + (m : Int))), .slice (some ⟨b, 2, none⟩) (l.length - 1) (c2 - 1)] rfl (kr2.set2 (.int .i64 (nx + (m : Int))) (.slice (some ⟨b, 2, none⟩) (l.length - 1) (c2 - 1))) rfl) rfl ⟨some ⟨b, 2, none⟩, c2 - 1, by rw [e1, e2, e3, e4]; rfl, hb4, by rw [e3]; exact ⟨rfl, .inr ⟨b, 2, cur, rfl, by omega, kC4, by rw [e4]; omega, fun j x hx => tail_cells HCELLS.out hl0 j x hx⟩⟩⟩
      · have HMD := Lib.hid hmd
        have e0 : ((m : Int) == (d.size : Int)) = false := by simp; omega
        clear hmd
        go_wp2_with fail
        go_region
        go_wp2_with fail
        go_region
        go_wp2
        have kC4 := ((((kC.setO (i := 0) hbO (.int .i64 (nx + (m : Int)))).set_ 0 (.int .i64 (nx + (m : Int)))).set_ 1 (.string (d.extract m d.size))).setO (i := 0) hbr (.int .i64 (nx + (m : Int)))).setO (i := 1) hbr (.slice (some ⟨b, 0, none⟩) l.length c2)
        have kr2 := ((kr.setO (i := 0) (show w.heap.size + 1 ≠ gO by omega) (.int .i64 (nx + (m : Int)))).setO (g' := b) (i := 0) (fun e => hbr e.symm) (.int .i64 (nx + (m : Int)))).setO (g' := b) (i := 1) (fun e => hbr e.symm) (.string (d.extract m d.size))
        have hb4 := (below_set2 (below_set2 (hb.setCell (p := ⟨gO, 0, none⟩) (show w.heap.size ≤ gO by omega) (.int .i64 (nx + (m : Int)))) (show w.heap.size ≤ b by omega) (.int .i64 (nx + (m : Int))) (.string (d.extract m d.size))) (Nat.le_succ _) (.int .i64 (nx + (m : Int))) (.slice (some ⟨b, 0, none⟩) l.length c2)).drew.drew
        have e1 : tkS nx l most = d.extract 0 m := by unfold tkS; rw [if_neg (show ¬ tkM nx l most ≤ 0 by have := HMM.out; omega), HMM.out, hdd, Int.toNat_natCast]
        have e2 : tkN nx l most = nx + (m : Int) := by unfold tkN; rw [if_neg (show ¬ tkM nx l most ≤ 0 by have := HMM.out; omega), HMM.out]
        have e3 : tkL nx l most = (nx + (m : Int), d.extract m d.size) :: l.tail := by unfold tkL; rw [if_neg (show ¬ tkM nx l most ≤ 0 by have := HMM.out; omega), HMM.out, hdd, if_neg (by have := HMD.out; omega), Int.toNat_natCast]
        have e4 : ((nx + (m : Int), d.extract m d.size) :: l.tail).length = l.length := by rw [List.length_cons, List.length_tail]; omega
        exact bodyPost_ret (results_tbf rfl _ _ (w.heap.size + 1) #[(.int .i64 (nx + (m : Int))), .slice (some ⟨b, 0, none⟩) l.length c2] rfl (kr2.set2 (.int .i64 (nx + (m : Int))) (.slice (some ⟨b, 0, none⟩) l.length c2)) rfl) rfl ⟨some ⟨b, 0, none⟩, c2, by rw [e1, e2, e3, e4]; rfl, hb4, by rw [e3]; exact ⟨rfl, .inr ⟨b, 0, _, rfl, by omega, kC4, by rw [e4]; simp only [Array.size_setIfInBounds]; omega, head_cells HCELLS.out hl0 (by omega)⟩⟩⟩
end Go.Proofs.Ytnndhkdigmkddaa
