/- m forms read one after the other: spec's l4Read (a row), impl's readQuics (through pointers). No conditions. What reading a frame says. No conditions. impl.readQuics with one pointer. No conditions. A frame behind its type, as what is read. No conditions. -/
import Derived.Test.YtadoiehgobcjcaaA6
import Derived.Test.YtadoiehgobcjcaaA2
import Derived.Laws.Rows
namespace Go.Proofs.Ytadoiehgobcjcaa
open Go.ChangeShapes Go.WideShapes Go.ChangeAt Go.RowKit Go.Sort QM
set_option linter.unusedVariables false
set_option linter.unusedSimpArgs false
/-- m forms read from place p on: the numbers and the place behind. -/
def rdN (s : ByteArray) : Nat → Int → Option (List Int × Int)
  | 0, p => some ([], p)
  | m + 1, p => match dq s p with
    | none => none
    | some (n, k) => (rdN s m (p + k)).map fun x => ((n : Int) :: x.1, x.2)
theorem rdN_facts (s : ByteArray) (m : Nat) : ∀ (p : Int) (L : List Int) (q : Int), rdN s m p = some (L, q) → L.length = m ∧ (∀ x ∈ L, 0 ≤ x ∧ x ≤ 4611686018427387903) ∧ p + m ≤ q ∧ (m ≠ 0 → q ≤ s.size) := by
  induction m with
  | zero => intro p L q h; simp [rdN] at h; obtain ⟨rfl, rfl⟩ := h; exact ⟨rfl, (fun x hx => by simp at hx), by omega, fun h => absurd rfl h⟩
  | succ m ih =>
    intro p L q h
    simp only [rdN] at h
    rcases dq_two s p with ⟨hn, _⟩ | ⟨n, k, hn, _, hn4, hk1, hk8, hpk⟩
    · rw [hn] at h; cases h
    · rw [hn] at h
      simp only [Option.map_eq_some_iff] at h
      obtain ⟨⟨L', q'⟩, h1, h2⟩ := h
      simp only [Prod.mk.injEq] at h2
      obtain ⟨rfl, rfl⟩ := h2
      obtain ⟨a, b, c, d⟩ := ih _ _ _ h1
      refine ⟨by simp [a], ?_, by push_cast; omega, fun _ => ?_⟩
      · intro x hx
        rcases List.mem_cons.1 hx with rfl | hx
        · omega
        · exact b x hx
      · by_cases hm : m = 0
        · subst hm
          simp [rdN] at h1
          omega
        · exact d hm
/-- Where the loop stands: the forms L read, at place p, m asked from p0 on. -/
def RdAt (s : ByteArray) (m : Nat) (p0 p : Int) (L : List Int) : Prop := L.length ≤ m ∧ rdN s m p0 = (rdN s (m - L.length) p).map fun x => (L ++ x.1, x.2)
theorem RdAt.start (s : ByteArray) (m : Nat) (p : Int) : RdAt s m p p [] := ⟨Nat.zero_le _, by simp⟩
theorem RdAt.next {s : ByteArray} {m : Nat} {p0 p : Int} {L : List Int} {n k : Nat} (h : RdAt s m p0 p L) (hl : L.length < m) (hd : dq s p = some (n, k)) : RdAt s m p0 (p + k) (L ++ [(n : Int)]) := by
  obtain ⟨h1, e⟩ := h
  refine ⟨by simp; omega, ?_⟩
  rw [e, show m - L.length = (m - (L ++ [(n : Int)]).length) + 1 by simp; omega]
  simp only [rdN]
  rw [hd]
  show Option.map _ (Option.map _ (rdN s _ (p + k))) = _
  generalize rdN s (m - (L ++ [(n : Int)]).length) (p + k) = o
  cases o <;> simp
theorem RdAt.fail {s : ByteArray} {m : Nat} {p0 p : Int} {L : List Int} (h : RdAt s m p0 p L) (hl : L.length < m) (hd : dq s p = none) : rdN s m p0 = none := by
  obtain ⟨h1, e⟩ := h
  rw [e, show m - L.length = (m - L.length - 1) + 1 by omega]
  simp only [rdN]
  rw [hd]; rfl
theorem RdAt.done {s : ByteArray} {m : Nat} {p0 p : Int} {L : List Int} (h : RdAt s m p0 p L) (hl : L.length = m) : rdN s m p0 = some (L, p) := by
  obtain ⟨h1, e⟩ := h
  rw [e, hl, Nat.sub_self]; simp [rdN]
/-- The cells with the numbers L at the places os. -/
def setN (cs : Array Value) : List Nat → List Int → Array Value
  | o :: os, n :: L => setN (cs.setIfInBounds o (.int .i64 n)) os L
  | _, _ => cs
theorem setN_nil (cs : Array Value) (os : List Nat) : setN cs os [] = cs := by cases os <;> rfl
theorem setN_snoc (os : List Nat) : ∀ (cs : Array Value) (L : List Int) (n : Int), L.length < os.length → setN cs os (L ++ [n]) = (setN cs os L).setIfInBounds (os.getD L.length 0) (.int .i64 n) := by
  induction os with
  | nil => intro cs L n h; simp at h
  | cons o os ih =>
    intro cs L n h
    cases L with
    | nil => simp [setN, setN_nil]
    | cons x L => simpa [setN] using ih (cs.setIfInBounds o (.int .i64 x)) L n (by simpa using h)
theorem setN_size (os : List Nat) : ∀ (cs : Array Value) (L : List Int), (setN cs os L).size = cs.size := by
  induction os with
  | nil => intro cs L; cases L <;> rfl
  | cons o os ih =>
    intro cs L
    cases L with
    | nil => rfl
    | cons x L => simp [setN, ih]
def ptrs (g : Nat) (os : List Nat) : List Value := os.map fun o => .pointer (some ⟨g, o, none⟩)
theorem ptrs_get (g : Nat) (os : List Nat) (k : Nat) (h : k < os.length) : (ptrs g os)[k]? = some (.pointer (some ⟨g, os.getD k 0, none⟩)) := by
  unfold ptrs
  rw [List.getElem?_map, List.getElem?_eq_getElem h, List.getD_eq_getElem?_getD, List.getElem?_eq_getElem h]; rfl
/-- Between two worlds block g alone was written, and it stays a block. -/
def Keep (g : Nat) (w w' : World) : Prop := Below g w w' ∧ ∀ g' T' cs', g' ≠ g → Bk w g' T' cs' → Bk w' g' T' cs'
theorem Keep.refl (g : Nat) (w : World) : Keep g w w := ⟨Below.refl _ _, fun _ _ _ _ h => h⟩
theorem Bk.set_other {w : World} {g g' o : Nat} {T : TypeId} {cs : Array Value} {u : Value} (h : Bk w g T cs) (hg : g ≠ g') : Bk (w.setCell ⟨g', o, none⟩ u) g T cs := by
  unfold Bk at h ⊢
  simp only [World.setCell, Array.getElem?_modify]
  rw [if_neg (fun e => hg e.symm)]
  exact h
theorem Keep.set {g o : Nat} {w w' : World} {u : Value} (h : Keep g w w') : Keep g w (w'.setCell ⟨g, o, none⟩ u) :=
  ⟨h.1.setCell (p := ⟨g, o, none⟩) (Nat.le_refl _) u, fun g' T' cs' hg hb => (h.2 g' T' cs' hg hb).set_other hg⟩
set_option maxHeartbeats 1000000 in
theorem iRdQ (s : ByteArray) (hs : s.size ≤ 1048576) (p0 : Int) (b : Nat) (c m g : Nat) (T Tp : TypeId) (os : List Nat) (cs : Array Value) (w : World) (hm : os.length = m) (hm3 : m ≤ 3) (hbg : b ≠ g) (hbp : Bk w b Tp (ptrs g os).toArray) (hbk : Bk w g T cs) (hos : ∀ o ∈ os, o < cs.size) :
    Calls Try.prog 72 #[.string s, .int .i64 p0, .slice (some ⟨b, 0, none⟩) m c] w fun e w' => Keep g w w' ∧
      ((rdN s m p0 = none ∧ e = .returned (.tuple #[.int .i64 0, .bool false]) ∧ ∃ L, Bk w' g T (setN cs os L)) ∨
       ∃ L q, rdN s m p0 = some (L, q) ∧ e = .returned (.tuple #[.int .i64 q, .bool true]) ∧ Bk w' g T (setN cs os L)) := by
  have HM := Lib.hid hm; have HP := Lib.hid hbp; have HB := Lib.hid hbk; have HO := Lib.hid hos; have HG := Lib.hid hbg
  clear hbp hbk hos hm hbg
  go_enter Try.func72, Try.ntmps72
  go_wp2
  go_loopw [1, 15] (fun a i wr => ∃ (p : Int) (L : List Int), i = .int .i64 (L.length : Nat) ∧ a = .int .i64 p ∧ RdAt s m p0 p L ∧ Bk wr g T (setN cs os L) ∧ Keep g w wr) (fun a i _ => m - (intOf i).toNat)
  case atStart => exact ⟨p0, [], rfl, rfl, RdAt.start s m p0, by rw [setN_nil]; exact HB.out, Keep.refl _ _⟩
  case round =>
    obtain ⟨p, L, rfl, rfl, hrd, hbk, hkp⟩ := hrel
    have hk := hrd.1
    have HR := Lib.hid hrd; have HBK := Lib.hid hbk; have HK := Lib.hid hkp; clear hrd hbk hkp
    obtain ⟨k, hkL⟩ : ∃ k, L.length = k := ⟨_, rfl⟩
    have HKL := Lib.hid hkL
    rw [hkL] at hk ⊢
    clear hkL
    by_cases hlt : k < m
    · have c0 : wr.cell? ⟨b, k, none⟩ = some (.pointer (some ⟨g, os.getD k 0, none⟩)) := by
        rw [(HK.out.2 b _ _ HG.out HP.out).cell, List.getElem?_toArray]; exact ptrs_get g os k (by rw [HM.out]; exact hlt)
      have hmem : os.getD k 0 ∈ os := by
        rw [List.getD_eq_getElem?_getD, List.getElem?_eq_getElem (by rw [HM.out]; exact hlt)]; exact List.getElem_mem _
      have hoc := HO.out _ hmem
      clear hmem
      have HS := Lib.hid (fun n => setN_snoc os cs L n (by rw [HKL.out, HM.out]; exact hlt))
      rw [HKL.out] at HS
      generalize os.getD k 0 = o at c0 hoc HS
      obtain ⟨u, d0⟩ : ∃ u, wr.cell? ⟨g, o, none⟩ = some u := ⟨_, by rw [HBK.out.cell, Array.getElem?_eq_getElem (by rw [setN_size]; exact hoc)]⟩
      have hfz := HBK.out.frozen o
      rcases dq_two s p with ⟨hn, hv⟩ | ⟨n, k2, hn, hv, hn4, hk1, hk8, hpk⟩
      · have HF := Lib.hid (HR.out.fail (by rw [HKL.out]; exact hlt) hn)
        clear hn
        go_wp2_with (first | (go_at_call 9; refine (iDQ _ _ _ hs).mono ?_; rintro e w' ⟨rfl, rfl⟩; rw [hv]))
        go_ret2
        exact ⟨HK.out, .inl ⟨HF.out, rfl, L, HBK.out⟩⟩
      · have HF := Lib.hid (HR.out.next (by rw [HKL.out]; exact hlt) hn)
        clear hn
        go_wp2_with (first | (go_at_call 9; refine (iDQ _ _ _ hs).mono ?_; rintro e w' ⟨rfl, rfl⟩; rw [hv]))
        have hl1 : (L ++ [(n : Int)]).length = k + 1 := by simp [HKL.out]
        refine ⟨⟨p + k2, L ++ [(n : Int)], by rw [hl1]; rfl, rfl, HF.out, by rw [HS.out]; exact HBK.out.set_ o _, HK.out.set⟩, by simp [intOf]; omega⟩
    · have hkm : k = m := by omega
      have HD := Lib.hid (HR.out.done (by rw [HKL.out]; exact hkm))
      go_wp2
      go_ret2
      exact ⟨HK.out, .inr ⟨L, p, HD.out, rfl, HBK.out⟩⟩
theorem own_three (w : World) (base : Nat) (T : TypeId) (u0 u1 u2 : Value) (hb : base ≤ w.heap.size) : (w.alloc (.cells #[u0, u1, u2] T)).ownsRow base T 1 (.slice (some ⟨w.heap.size, 0, none⟩) 3 3) 3 [u0, u1, u2] :=
  Hd.own (n := 3) (cap := 3) (size := 1) (cs := #[u0, u1, u2]) (heap_alloc_new w _) (fun j hj => by simp) rfl rfl (Nat.le_refl _) (by unfold maxLen; omega) hb
/-- What l4Read answers. -/
def OutR (w : World) (s : ByteArray) (m : Nat) (p : Int) (e : Ending) (w' : World) : Prop := Below w.heap.size w w' ∧ ∃ (A : Option Addr) (c n : Nat) (q : Int) (t : Bool) (L : List Int), e = .returned (.tuple #[.slice A n c, .int .i64 q, .bool t]) ∧ Rd w' w'.heap.size A (ints L) ∧ L.length = n ∧ (∀ b o, A = some ⟨b, o, none⟩ → w.heap.size ≤ b) ∧
  ((rdN s m p = none ∧ t = false ∧ L = [0, 0, 0]) ∨ (rdN s m p = some (L, q) ∧ t = true))
set_option maxHeartbeats 2000000 in
theorem sRead (s : ByteArray) (hs : s.size ≤ 1048576) (p0 : Int) (m : Nat) (hm3 : m ≤ 3) (w : World) : Calls Try.prog 65 #[.string s, .int .i64 p0, .int .i64 m] w (OutR w s m p0) := by
  obtain ⟨i0, hi, hz0, hz1, hz2⟩ := info_parts info_int
  have HW := Lib.hid (own_empty w w.heap.size 3 1 (Nat.le_refl _))
  have HB := Lib.hid (show Below w.heap.size w (w.alloc (.cells #[] 3)) from (Below.refl _ _).alloc (Nat.le_refl _) _)
  go_enter Try.func65, Try.ntmps65
  go_wp2
  generalize w.alloc (.cells #[] 3) = w1 at HW HB ⊢
  go_loopw [1, 9, 10] (fun a v i wr => ∃ (p : Int) (L : List Int), a = .int .i64 p ∧ i = .int .i64 (L.length : Nat) ∧ RdAt s m p0 p L ∧ wr.ownsRow w.heap.size 3 1 v L.length (ints L) ∧ Below w.heap.size w wr) (fun a v i _ => m - (intOf i).toNat)
  case atStart => exact ⟨p0, [], rfl, rfl, RdAt.start s m p0, HW.out, HB.out⟩
  case round =>
    obtain ⟨p, L, rfl, rfl, hrd, ho, hbw⟩ := hrel
    clear HW HB
    have hk := hrd.1
    have HD := Lib.hid hrd; clear hrd
    obtain ⟨k, hkL⟩ : ∃ k, L.length = k := ⟨_, rfl⟩
    have HKL := Lib.hid hkL
    rw [hkL] at hk ho ⊢
    clear hkL
    by_cases hlt : k < m
    · rcases dq_two s p with ⟨hn, hv⟩ | ⟨n, k2, hn, hv, hn4, hk1, hk8, hpk⟩
      · have HN := Lib.hid (HD.out.fail (by rw [HKL.out]; exact hlt) hn); clear hn
        have HO := Lib.hid ho; clear ho
        go_wp2_with (first | (go_at_call 14; refine (sDQ _ _ _ hs).mono ?_; rintro e w' ⟨rfl, rfl⟩; rw [hv]))
        go_ret3
        exact ⟨hbw.alloc hbw.size _, _, _, _, _, _, [0, 0, 0], rfl, own_rd (own_three wr w.heap.size _ _ _ _ hbw.size), rfl, (fun b o e => by simp at e; rw [← e.1]; exact hbw.size), .inl ⟨HN.out, rfl, rfl⟩⟩
      · have HN := Lib.hid (HD.out.next (by rw [HKL.out]; exact hlt) hn); clear hn
        have hsz := hbw.size
        have HO := Lib.hid ho; clear ho
        have hl1 : (L ++ [(n : Int)]).length = k + 1 := by simp [HKL.out]
        have HL1 := Lib.hid hl1; clear hl1
        go_wp2_with (first | (go_at_call 14; refine (sDQ _ _ _ hs).mono ?_; rintro e w' ⟨rfl, rfl⟩; rw [hv]) | (at_builtin; refine wpList_append_own _ rfl _ _ 32 rfl w.heap.size 3 i0 (.int .i64 0) 1 8 Try.underlying32 hi hz0 hz1 hz2 rfl (by decide) _ _ _ rfl (HO.out.alloc _) ⟨wr.heap.size, 0, none⟩ 1 1 [.int .i64 (n : Int)] rfl rfl (news1 _ (by simp)) (one_1 _) (by unfold maxLen; omega) (by omega) (by simp; omega) ?_))
        intro v' w1 hown1 hgrow _
        have hb2 : Below w.heap.size w w1 := (hbw.alloc hsz (.cells #[.int .i64 (n : Int)] 3)).grown hgrow (by simp; omega) (fun k hk => (HO.out.lt k hk).1)
        have HO1 := Lib.hid (show w1.ownsRow w.heap.size 3 1 v' (L ++ [(n : Int)]).length (ints (L ++ [(n : Int)])) by rw [ints_snoc, HL1.out]; simpa using hown1)
        clear hown1 hgrow HO
        go_wp2
        go_roundw
        case rel => exact ⟨p + k2, L ++ [(n : Int)], by go_num, by rw [HL1.out]; go_num, HN.out, HO1.out, hb2⟩
        case measure => simp [intOf]; omega
    · have hkm : k = m := by omega
      have HN := Lib.hid (HD.out.done (by rw [HKL.out]; exact hkm))
      have HO := Lib.hid ho
      obtain ⟨A, c, hA, _, hrd⟩ := Rd.of_own ho
      clear ho
      go_wp2
      go_ret3
      exact ⟨hbw, A, c, k, p, true, L, (by rw [hA]; rfl), own_rd (hA ▸ HO.out), HKL.out, (fun b o e => (HO.out.lt b (by rw [hA, e]; rfl)).1), .inr ⟨HN.out, rfl⟩⟩
end Go.Proofs.Ytadoiehgobcjcaa

namespace Go.Proofs.Ytadoiehgobcjcaa
open Go.ChangeShapes Go.WideShapes Go.ChangeAt Go.RowKit Go.Sort QM
set_option linter.unusedVariables false
set_option linter.unusedSimpArgs false
theorem results_frame3 {fn : Func} {p u v : Tmp} (h : fn.results = #[.cell p 40, .tmp u, .tmp v]) (tmps : Array Value) (w : World) (g : Nat) (cs : Array Value)
    (hp : tmps.getD p undef = .pointer (some ⟨g, 0, none⟩)) (hg : Bk w g 40 cs) (hs : cs.size = 9) :
    (results fn tmps).run Try.prog w = .ok (.tuple #[.agg cs, tmps.getD u undef, tmps.getD v undef]) w := by
  have hp' : tmps[p]?.getD undef = .pointer (some ⟨g, 0, none⟩) := by simpa using hp
  have hl := run_loadVar_row (P := Try.prog) w g 40 40 cs (0, 0) _ hg Try.underlying40 rfl (by rw [hs]; kernel_rfl)
  simp [results, h, hp', asAddr, hl]
def frA (f : Fr) : Array Value := #[.int .i64 f.a, .int .i64 f.b, .int .i64 f.c, .string f.d, .bool f.e, .int .i64 f.g, .int .i64 f.l, .int .i64 f.m, .bool f.u]
/-- The value handed back for what was read. -/
def dfVal : Option (Fr × Int) → Value
  | none => .tuple #[.agg #[.int .i64 0, .int .i64 0, .int .i64 0, .string ⟨#[]⟩, .bool false, .int .i64 0, .int .i64 0, .int .i64 0, .bool false], .int .i64 0, .bool false]
  | some (f, q) => .tuple #[.agg (frA f), .int .i64 q, .bool true]
/-- A stream frame behind its type, not yet tested. -/
def stO (s : ByteArray) (fin off len : Bool) (p : Int) : Option (Fr × Int) :=
  match rdN s (if off then 2 else 1) p with
  | none => none
  | some (L, q) =>
    if len then match dq s q with
      | none => none
      | some (n, k) => if (s.size : Int) < q + k + n then none else some (⟨8, L.getD 0 0, if off then L.getD 1 0 else 0, s.extract (q.toNat + k) (q.toNat + k + n), fin, 0, 0, 0, false⟩, q + k + n)
    else some (⟨8, L.getD 0 0, if off then L.getD 1 0 else 0, s.extract q.toNat s.size, fin, 0, 0, 0, false⟩, s.size)
theorem one_of {L : List Int} (h : L.length = 1) : ∃ x, L = [x] := by
  match L, h with
  | [x], _ => exact ⟨x, rfl⟩
theorem two_of {L : List Int} (h : L.length = 2) : ∃ x y, L = [x, y] := by
  match L, h with
  | [x, y], _ => exact ⟨x, y, rfl⟩
theorem three_of {L : List Int} (h : L.length = 3) : ∃ x y z, L = [x, y, z] := by
  match L, h with
  | [x, y, z], _ => exact ⟨x, y, z, rfl⟩
theorem okF_none (P : Fr × Int → Bool) : (none : Option (Fr × Int)).filter P = none := rfl
theorem filter_yes {P : Fr × Int → Bool} {x : Fr × Int} (h : P x = true) : (some x).filter P = some x := by simp [Option.filter, h]
theorem filter_no {P : Fr × Int → Bool} {x : Fr × Int} (h : P x = false) : (some x).filter P = none := by simp [Option.filter, h]
theorem ext_size (s : ByteArray) (a b : Nat) (h : s.size ≤ 1048576) : (s.extract a b).size ≤ 1048576 := by
  rw [ByteArray.size_extract]; omega
theorem ret_tup {a b : Value} (h : b = a) : Ending.returned a = Ending.returned b := by rw [h]
end Go.Proofs.Ytadoiehgobcjcaa

namespace Go.Proofs.Ytadoiehgobcjcaa
open Go.ChangeShapes Go.WideShapes Go.ChangeAt Go.RowKit Go.Sort QM
set_option linter.unusedVariables false
set_option linter.unusedSimpArgs false
theorem Bk.drew {w : World} {g : Nat} {T : TypeId} {cs : Array Value} (h : Bk w g T cs) : Bk w.drew g T cs := h
theorem iRd1_none (s : ByteArray) (hs : s.size ≤ 1048576) (p b c g o : Nat) (T Tp : TypeId) (cs : Array Value) (w : World) (hbg : b ≠ g) (hbp : Bk w b Tp #[.pointer (some ⟨g, o, none⟩)]) (hbk : Bk w g T cs) (ho : o < cs.size) (hd : dq s p = none) :
    Calls Try.prog 72 #[.string s, .int .i64 p, .slice (some ⟨b, 0, none⟩) 1 c] w fun e w' => Keep g w w' ∧ e = .returned (.tuple #[.int .i64 0, .bool false]) := by
  refine (iRdQ s hs p b c 1 g T Tp [o] cs w rfl (by omega) hbg hbp hbk (by simpa using ho)).mono ?_
  rintro e w' ⟨hk, h | ⟨L, q, h, _⟩⟩
  · exact ⟨hk, h.2.1⟩
  · simp [rdN, hd] at h
theorem iRd1_some (s : ByteArray) (hs : s.size ≤ 1048576) (p b c g o n k q : Nat) (T Tp : TypeId) (cs : Array Value) (w : World) (hbg : b ≠ g) (hbp : Bk w b Tp #[.pointer (some ⟨g, o, none⟩)]) (hbk : Bk w g T cs) (ho : o < cs.size) (hd : dq s p = some (n, k)) (hq : (p : Int) + k = q) :
    Calls Try.prog 72 #[.string s, .int .i64 p, .slice (some ⟨b, 0, none⟩) 1 c] w fun e w' => Keep g w w' ∧ e = .returned (.tuple #[.int .i64 q, .bool true]) ∧ Bk w' g T (cs.setIfInBounds o (.int .i64 n)) := by
  refine (iRdQ s hs p b c 1 g T Tp [o] cs w rfl (by omega) hbg hbp hbk (by simpa using ho)).mono ?_
  rintro e w' ⟨hk, ⟨h, _⟩ | ⟨L, q', h, he, hb⟩⟩
  · simp [rdN, hd] at h
  · simp [rdN, hd] at h
    obtain ⟨rfl, h2⟩ := h
    rw [← h2, hq] at he
    exact ⟨hk, he, hb⟩
end Go.Proofs.Ytadoiehgobcjcaa

namespace Go.Proofs.Ytadoiehgobcjcaa
open Go.ChangeShapes Go.WideShapes Go.ChangeAt Go.RowKit Go.Sort QM
set_option linter.unusedVariables false
set_option linter.unusedSimpArgs false
def rfK (s : ByteArray) (k : Nat) (p : Int) : Option (Fr × Int) :=
  match k with
  | 4 => (rdN s 3 p).map fun x => ((⟨4, x.1.getD 0 0, 0, ⟨#[]⟩, false, x.1.getD 1 0, 0, x.1.getD 2 0, false⟩ : Fr), x.2)
  | 5 => (rdN s 2 p).map fun x => ((⟨5, x.1.getD 0 0, 0, ⟨#[]⟩, false, x.1.getD 1 0, 0, 0, false⟩ : Fr), x.2)
  | 16 => (rdN s 1 p).map fun x => ((⟨16, 0, 0, ⟨#[]⟩, false, 0, x.1.getD 0 0, 0, false⟩ : Fr), x.2)
  | 17 => (rdN s 2 p).map fun x => ((⟨17, x.1.getD 0 0, 0, ⟨#[]⟩, false, 0, x.1.getD 1 0, 0, false⟩ : Fr), x.2)
  | 18 => (rdN s 1 p).map fun x => ((⟨18, 0, 0, ⟨#[]⟩, false, 0, x.1.getD 0 0, 0, false⟩ : Fr), x.2)
  | 19 => (rdN s 1 p).map fun x => ((⟨18, 0, 0, ⟨#[]⟩, false, 0, x.1.getD 0 0, 0, true⟩ : Fr), x.2)
  | 20 => (rdN s 1 p).map fun x => ((⟨20, 0, 0, ⟨#[]⟩, false, 0, x.1.getD 0 0, 0, false⟩ : Fr), x.2)
  | 21 => (rdN s 2 p).map fun x => ((⟨21, x.1.getD 0 0, 0, ⟨#[]⟩, false, 0, x.1.getD 1 0, 0, false⟩ : Fr), x.2)
  | 22 => (rdN s 1 p).map fun x => ((⟨22, 0, 0, ⟨#[]⟩, false, 0, x.1.getD 0 0, 0, false⟩ : Fr), x.2)
  | 23 => (rdN s 1 p).map fun x => ((⟨22, 0, 0, ⟨#[]⟩, false, 0, x.1.getD 0 0, 0, true⟩ : Fr), x.2)
  | 8 => stO s false false false p
  | 9 => stO s true false false p
  | 10 => stO s false false true p
  | 11 => stO s true false true p
  | 12 => stO s false true false p
  | 13 => stO s true true false p
  | 14 => stO s false true true p
  | 15 => stO s true true true p
  | _ => none
/-- The kinds of which something is read. -/
def knownT (k : Nat) : Bool := k == 4 || k == 5 || (8 ≤ k && k ≤ 23)
theorem rfK_none (s : ByteArray) (k : Nat) (p : Int) (h : knownT k = false) : rfK s k p = none := by
  unfold rfK
  split <;> first | rfl | (exact absurd h (by decide))
/-- What readFrame hands back. -/
def RfV (o : Option (Fr × Int)) (e : Ending) : Prop := ∃ (f : Fr) (q : Int) (t : Bool), e = .returned (.tuple #[.agg (frA f), .int .i64 q, .bool t]) ∧ ((o = none ∧ t = false) ∨ (o = some (f, q) ∧ t = true))
theorem RfV.none (f : Fr) (q : Int) : RfV none (.returned (.tuple #[.agg (frA f), .int .i64 q, .bool false])) := ⟨f, q, false, rfl, .inl ⟨rfl, rfl⟩⟩
theorem RfV.some (f : Fr) (q : Int) : RfV (some (f, q)) (.returned (.tuple #[.agg (frA f), .int .i64 q, .bool true])) := ⟨f, q, true, rfl, .inr ⟨rfl, rfl⟩⟩
theorem RfV.of_df (o : Option (Fr × Int)) : RfV o (.returned (dfVal o)) := by
  cases o with
  | none => exact RfV.none fr0 0
  | some x => obtain ⟨f, q⟩ := x; exact RfV.some f q
def frO (s : ByteArray) (p : Int) : Option (Fr × Int) := if 0 ≤ p ∧ p < s.size then rfK s ((bl s).getD p.toNat 0).toNat (p + 1) else none
theorem frO_out {s : ByteArray} {p : Int} (h : ¬ (0 ≤ p ∧ p < s.size)) : frO s p = none := by unfold frO; rw [if_neg h]
theorem frO_in {s : ByteArray} {p : Nat} (h : p < s.size) : frO s p = rfK s (s[p]'h).toNat ((p : Int) + 1) := by
  unfold frO; rw [if_pos (by omega), Int.toNat_natCast, bl_getD s p h]
theorem stO_facts {s : ByteArray} (hs : s.size ≤ 1048576) {fin off len : Bool} {p : Int} (hp : 0 ≤ p) {f : Fr} {q : Int} (h : stO s fin off len p = some (f, q)) : f.d.size ≤ 1048576 ∧ p < q ∧ q ≤ s.size := by
  unfold stO at h
  cases hr : rdN s (if off then 2 else 1) p with
  | none => rw [hr] at h; cases h
  | some x =>
    obtain ⟨L, r⟩ := x
    obtain ⟨_, _, h1, h2⟩ := rdN_facts s _ p L r hr
    have h2' := h2 (by cases off <;> decide)
    have h1' : p + 1 ≤ r := by cases off <;> simp at h1 <;> omega
    rw [hr] at h
    cases len with
    | false =>
      simp at h
      obtain ⟨rfl, rfl⟩ := h
      exact ⟨ext_size _ _ _ hs, by omega, by omega⟩
    | true =>
      simp only [if_true] at h
      cases hd : dq s r with
      | none => rw [hd] at h; cases h
      | some y =>
        obtain ⟨n, k⟩ := y
        rw [hd] at h
        simp only at h
        split at h
        · cases h
        · injection h with h
          injection h with h3 h4
          subst h3 h4
          exact ⟨ext_size _ _ _ hs, by omega, by omega⟩
theorem map_facts {s : ByteArray} {m : Nat} {p : Int} {g : List Int × Int → Fr} (hm : m ≠ 0) (hg : ∀ x, (g x).d.size ≤ 1048576) {f : Fr} {q : Int} (h : ((rdN s m p).map fun x => (g x, x.2)) = some (f, q)) : f.d.size ≤ 1048576 ∧ p < q ∧ q ≤ s.size := by
  cases hr : rdN s m p with
  | none => rw [hr] at h; cases h
  | some x =>
    obtain ⟨L, r⟩ := x
    obtain ⟨_, _, h1, h2⟩ := rdN_facts s _ p L r hr
    rw [hr] at h
    injection h with h
    injection h with h3 h4
    subst h3 h4
    exact ⟨hg _, by omega, h2 hm⟩
theorem frO_facts {s : ByteArray} (hs : s.size ≤ 1048576) {p : Int} {f : Fr} {q : Int} (h : frO s p = some (f, q)) : f.d.size ≤ 1048576 ∧ 0 ≤ p ∧ p + 1 < q ∧ q ≤ s.size := by
  unfold frO at h
  split at h
  · rename_i hp
    have key : ∀ k, rfK s k (p + 1) = some (f, q) → f.d.size ≤ 1048576 ∧ p + 1 < q ∧ q ≤ s.size := by
      intro k hk
      unfold rfK at hk
      split at hk
      all_goals first
        | exact stO_facts hs (by omega) hk
        | exact map_facts (by decide) (fun _ => Nat.zero_le _) hk
        | cases hk
    obtain ⟨a, b, c⟩ := key _ h
    exact ⟨a, hp.1, b, c⟩
  · cases h
theorem nine_of {cs : Array Value} (h : cs.size = 9) : ∃ x0 x1 x2 x3 x4 x5 x6 x7 x8, cs = #[x0, x1, x2, x3, x4, x5, x6, x7, x8] := by
  obtain ⟨l⟩ := cs
  match l, h with
  | [x0, x1, x2, x3, x4, x5, x6, x7, x8], _ => exact ⟨x0, x1, x2, x3, x4, x5, x6, x7, x8, rfl⟩
end Go.Proofs.Ytadoiehgobcjcaa
