/- Plain laws on lists of ranges: no program. No conditions. -/
namespace Go.Proofs.Ytnndhkdigmkddaa.RM
abbrev R := Int × Int
def maxQ : Int := 4611686018427387903
def isR (r : R) : Bool := decide (0 ≤ r.1) && decide (r.1 < r.2) && decide (r.2 ≤ maxQ)
def okAt (l : List R) (i : Nat) : Bool := isR (l.getD i (0, 0)) && (i == 0 || decide ((l.getD (i - 1) (0, 0)).2 < (l.getD i (0, 0)).1))
def isRs (l : List R) : Bool := (List.range l.length).all (okAt l)

theorem isRs_iff (l : List R) : isRs l = true ↔ ∀ i, i < l.length → okAt l i = true := by
  simp [isRs]
theorem isRs_false {l : List R} {i : Nat} (h : i < l.length) (hf : okAt l i = false) : isRs l = false := by
  rw [Bool.eq_false_iff]; intro ht; rw [isRs_iff] at ht; have := ht i h; rw [hf] at this; cases this

/- chain form: sorted from a lower bound -/
def Ch (b : Int) : List R → Prop
  | [] => True
  | r :: l => b < r.1 ∧ r.1 < r.2 ∧ r.2 ≤ maxQ ∧ Ch r.2 l

theorem ch_of_ok (l : List R) : ∀ b, (∀ i, i < l.length → isR (l.getD i (0,0)) = true) → (∀ i, i + 1 < l.length → (l.getD i (0,0)).2 < (l.getD (i+1) (0,0)).1) → (∀ r, l.head? = some r → b < r.1) → Ch b l := by
  induction l with
  | nil => intros; trivial
  | cons r l ih =>
    intro b h1 h2 h3
    have h0 := h1 0 (by simp)
    simp [isR] at h0
    refine ⟨h3 r rfl, h0.1.2, h0.2, ih r.2 (fun i hi => ?_) (fun i hi => ?_) (fun q hq => ?_)⟩
    · have := h1 (i+1) (by simpa using hi); simpa using this
    · have := h2 (i+1) (by simp; omega); simpa using this
    · cases l with
      | nil => cases hq
      | cons q' l => 
        have := h2 0 (by simp)
        simp at this hq; subst hq; exact this

theorem ok_of_ch (l : List R) : ∀ b, -1 ≤ b → Ch b l → (∀ i, i < l.length → isR (l.getD i (0,0)) = true) ∧ (∀ i, i + 1 < l.length → (l.getD i (0,0)).2 < (l.getD (i+1) (0,0)).1) := by
  induction l with
  | nil => intros; simp
  | cons r l ih =>
    intro b hb h
    obtain ⟨h1, h2, h3, h4⟩ := h
    obtain ⟨i1, i2⟩ := ih r.2 (by omega) h4
    refine ⟨fun i hi => ?_, fun i hi => ?_⟩
    · cases i with
      | zero => simp [isR]; omega
      | succ i => simpa using i1 i (by simpa using hi)
    · cases i with
      | zero =>
        cases l with
        | nil => simp at hi
        | cons q l => simpa using h4.1
      | succ i => simpa using i2 i (by simp at hi; omega)

theorem isRs_ch (l : List R) : isRs l = true ↔ Ch (-1) l := by
  rw [isRs_iff]
  constructor
  · intro h
    refine ch_of_ok l (-1) (fun i hi => ?_) (fun i hi => ?_) (fun r hr => ?_)
    · have := h i hi; simp [okAt] at this; simpa using this.1
    · have := h (i+1) hi; simp [okAt] at this; simpa using this.2
    · cases l with
      | nil => cases hr
      | cons q l => have := h 0 (by simp); simp at hr; subst hr; simp [okAt, isR] at this; omega
  · intro h i hi
    obtain ⟨i1, i2⟩ := ok_of_ch l (-1) (by omega) h
    have a := i1 i hi
    simp only [okAt, a, Bool.true_and]
    cases i with
    | zero => rfl
    | succ i => simpa using i2 i hi

theorem Ch.mono {b b' : Int} (h : b' ≤ b) : ∀ {l : List R}, Ch b l → Ch b' l
  | [], _ => trivial
  | _ :: _, ⟨h1, h2⟩ => ⟨by omega, h2⟩

/- has -/
def hasN (l : List R) (n : Int) : Bool := l.any fun r => decide (r.1 ≤ n) && decide (n < r.2)
theorem hasN_lo {b : Int} : ∀ {l : List R}, Ch b l → ∀ {n}, n ≤ b → hasN l n = false
  | [], _, _, _ => rfl
  | r :: l, h, n, hn => by
    have := hasN_lo (l := l) h.2.2.2 (n := n) (by have := h.1; have := h.2.1; omega)
    simp [hasN] at this ⊢
    exact ⟨fun _ => by have := h.1; omega, this⟩

/- AddRange -/
structure AS where
  out : List R
  placed : Bool
  r : R
def addStep (s : AS) (x : R) : AS :=
  if x.2 < s.r.1 then { s with out := s.out ++ [x] }
  else if s.r.2 < x.1 then (if s.placed then { s with out := s.out ++ [x] } else { out := s.out ++ [s.r] ++ [x], placed := true, r := s.r })
  else { s with r := (min s.r.1 x.1, max s.r.2 x.2) }
def addFold (l : List R) (r : R) : AS := l.foldl addStep { out := [], placed := false, r := r }
def AS.fin (s : AS) : List R := if s.placed then s.out else s.out ++ [s.r]
def addR (l : List R) (r : R) : List R :=
  if isRs l && isR r then (addFold l r).fin else l
/- recursive form -/
def ins (r : R) : List R → List R
  | [] => [r]
  | x :: l => if x.2 < r.1 then x :: ins r l else if r.2 < x.1 then r :: x :: l else ins (min r.1 x.1, max r.2 x.2) l

theorem fold_placed (l : List R) : ∀ (b : Int) (s : AS), s.placed = true → s.r.2 ≤ b → s.r.1 ≤ s.r.2 → Ch b l → l.foldl addStep s = { s with out := s.out ++ l } := by
  induction l with
  | nil => intros; simp
  | cons x l ih =>
    intro b s hp hb h12 h
    have h1 := h.1
    have h2 := h.2.1
    have e : addStep s x = { s with out := s.out ++ [x] } := by
      unfold addStep
      rw [if_neg (by omega), if_pos (by omega), if_pos hp]
    rw [List.foldl_cons, e, ih x.2 { s with out := s.out ++ [x] } hp (by show s.r.2 ≤ x.2; omega) h12 h.2.2.2]
    simp

theorem fold_ins (l : List R) : ∀ (b : Int) (out : List R) (r : R), r.1 < r.2 → Ch b l →
    (l.foldl addStep { out := out, placed := false, r := r }).fin = out ++ ins r l := by
  induction l with
  | nil => intros; simp [ins, AS.fin]
  | cons x l ih =>
    intro b out r hr h
    have h1 := h.1
    have h2 := h.2.1
    simp only [List.foldl_cons, ins]
    by_cases c1 : x.2 < r.1
    · have e : addStep { out := out, placed := false, r := r } x = { out := out ++ [x], placed := false, r := r } := by simp [addStep, c1]
      rw [e, ih x.2 _ r hr h.2.2.2, if_pos c1]; simp
    · by_cases c2 : r.2 < x.1
      · have e : addStep { out := out, placed := false, r := r } x = { out := out ++ [r] ++ [x], placed := true, r := r } := by simp [addStep, c1, c2]
        rw [e, if_neg c1, if_pos c2, fold_placed l x.2 _ rfl (by show r.2 ≤ x.2; omega) (by show r.1 ≤ r.2; omega) h.2.2.2]
        simp [AS.fin]
      · have e : addStep { out := out, placed := false, r := r } x = { out := out, placed := false, r := (min r.1 x.1, max r.2 x.2) } := by simp [addStep, c1, c2]
        rw [e, if_neg c1, if_neg c2, ih x.2 _ _ (by simp; omega) h.2.2.2]

theorem addR_eq {l : List R} {r : R} (hl : isRs l = true) (hr : isR r = true) : addR l r = ins r l := by
  have h := (isRs_ch l).1 hl
  have hr' : r.1 < r.2 := by simp [isR] at hr; omega
  have := fold_ins l (-1) [] r hr' h
  simp only [addR, hl, hr, Bool.and_self, if_true, addFold]
  simpa using this

theorem ins_ch (l : List R) : ∀ (b : Int) (r : R), r.1 < r.2 → r.2 ≤ maxQ → b < r.1 → Ch b l → Ch b (ins r l) := by
  induction l with
  | nil => intro b r h1 h2 h3 _; exact ⟨h3, h1, h2, trivial⟩
  | cons x l ih =>
    intro b r h1 h2 h3 h
    obtain ⟨a1, a2, a3, a4⟩ := h
    unfold ins
    split
    · exact ⟨a1, a2, a3, ih x.2 r h1 h2 (by omega) a4⟩
    · split
      · exact ⟨h3, h1, h2, by omega, a2, a3, a4⟩
      · exact ih b _ (by simp; omega) (by simp; omega) (by simp; omega) (a4.mono (by omega))

theorem ins_has (l : List R) : ∀ (b : Int) (r : R) (n : Int), r.1 < r.2 → Ch b l → hasN (ins r l) n = (hasN l n || (decide (r.1 ≤ n) && decide (n < r.2))) := by
  induction l with
  | nil => intros; simp [ins, hasN]
  | cons x l ih =>
    intro b r n h1 h
    obtain ⟨a1, a2, a3, a4⟩ := h
    unfold ins
    split
    · have := ih x.2 r n h1 a4
      simp only [hasN, List.any_cons] at this ⊢
      rw [this, Bool.or_assoc]
    · split
      · simp only [hasN, List.any_cons]
        rw [Bool.or_comm]
      · rw [ih x.2 _ n (by simp; omega) a4]
        simp only [hasN, List.any_cons]
        generalize (List.any l fun r => decide (r.1 ≤ n) && decide (n < r.2)) = q
        cases q
        · rw [Bool.eq_iff_iff]
          simp
          omega
        · simp

theorem addR_is {l : List R} {r : R} (hl : isRs l = true) : isRs (addR l r) = true := by
  by_cases hr : isR r = true
  · rw [addR_eq hl hr, isRs_ch]
    simp [isR] at hr
    exact ins_ch l (-1) r (by omega) (by omega) (by omega) ((isRs_ch l).1 hl)
  · simp [addR, hr, hl]
theorem addR_has {l : List R} {r : R} (hl : isRs l = true) (n : Int) : hasN (addR l r) n = (hasN l n || (isR r && decide (r.1 ≤ n) && decide (n < r.2))) := by
  by_cases hr : isR r = true
  · rw [addR_eq hl hr, ins_has l (-1) r n (by simp [isR] at hr; omega) ((isRs_ch l).1 hl)]; simp [hr]
  · simp [addR, hr]

/- RemoveRange -/
def remOne (r x : R) : List R := (if x.1 < min x.2 r.1 then [(x.1, min x.2 r.1)] else []) ++ (if max x.1 r.2 < x.2 then [(max x.1 r.2, x.2)] else [])
def remR (l : List R) (r : R) : List R := if isRs l && isR r then l.flatMap (remOne r) else l
theorem rem_ch (r : R) (hr : r.1 < r.2) (l : List R) : ∀ b, Ch b l → Ch b (l.flatMap (remOne r)) := by
  induction l with
  | nil => intros; trivial
  | cons x l ih =>
    intro b h
    obtain ⟨a1, a2, a3, a4⟩ := h
    have i := ih x.2 a4
    simp only [List.flatMap_cons, remOne]
    split <;> split <;> simp only [List.nil_append, List.append_nil, List.cons_append]
    · exact ⟨a1, by simp; omega, by simp; omega, by simp; omega, by simp; omega, a3, i⟩
    · exact ⟨a1, by simp; omega, by simp; omega, i.mono (by simp; omega)⟩
    · exact ⟨by simp; omega, by simp; omega, a3, i⟩
    · exact i.mono (by omega)
theorem remR_is {l : List R} {r : R} (hl : isRs l = true) : isRs (remR l r) = true := by
  by_cases hr : isR r = true
  · simp only [remR, hl, hr, Bool.and_self, if_true]
    rw [isRs_ch]
    exact rem_ch r (by simp [isR] at hr; omega) l _ ((isRs_ch l).1 hl)
  · simp [remR, hr, hl]
theorem rem_has (r : R) (hr : r.1 < r.2) (l : List R) (n : Int) : hasN (l.flatMap (remOne r)) n = (hasN l n && !(decide (r.1 ≤ n) && decide (n < r.2))) := by
  induction l with
  | nil => rfl
  | cons x l ih =>
    have e : hasN (remOne r x) n = ((decide (x.1 ≤ n) && decide (n < x.2)) && !(decide (r.1 ≤ n) && decide (n < r.2))) := by
      rw [Bool.eq_iff_iff]
      simp only [remOne]
      split <;> split <;> simp [hasN] <;> omega
    have e2 : hasN (remOne r x ++ l.flatMap (remOne r)) n = (hasN (remOne r x) n || hasN (l.flatMap (remOne r)) n) := by simp [hasN, List.any_append]
    rw [List.flatMap_cons, e2, ih, e]
    simp only [hasN, List.any_cons]
    generalize (List.any l fun r => decide (r.1 ≤ n) && decide (n < r.2)) = q
    cases q
    · simp
    · rw [Bool.eq_iff_iff]
      simp
theorem remR_has {l : List R} {r : R} (hl : isRs l = true) (n : Int) : hasN (remR l r) n = (hasN l n && !(isR r && decide (r.1 ≤ n) && decide (n < r.2))) := by
  by_cases hr : isR r = true
  · simp only [remR, hl, hr, Bool.and_self, if_true, Bool.true_and]
    exact rem_has r (by simp [isR] at hr; omega) l n
  · simp [remR, hr]

/- FirstGap -/
def gapStep (g : Int) (r : R) : Int := if r.1 ≤ g ∧ g < r.2 then r.2 else g
def gap (l : List R) (g : Int) : Int := if isRs l && decide (0 ≤ g) then l.foldl gapStep g else -1
theorem gap_aux (l : List R) : ∀ (b g : Int), Ch b l → g ≤ l.foldl gapStep g ∧ hasN l (l.foldl gapStep g) = false ∧ (∀ m, m ≤ b → g ≤ m → True) := by
  induction l with
  | nil => intro b g _; exact ⟨by simp, rfl, fun _ _ _ => trivial⟩
  | cons x l ih =>
    intro b g h
    obtain ⟨a1, a2, a3, a4⟩ := h
    simp only [List.foldl_cons]
    obtain ⟨i1, i2, _⟩ := ih x.2 (gapStep g x) a4
    have hg : g ≤ gapStep g x := by unfold gapStep; split <;> omega
    refine ⟨by omega, ?_, fun _ _ _ => trivial⟩
    have hx : ¬ (x.1 ≤ l.foldl gapStep (gapStep g x) ∧ l.foldl gapStep (gapStep g x) < x.2) := by
      rintro ⟨c1, c2⟩
      -- below x.2 nothing in l moves the gap
      have hstill : ∀ (l : List R) (b g : Int), Ch b l → g ≤ b → l.foldl gapStep g = g := by
        intro l
        induction l with
        | nil => intros; rfl
        | cons y l ih => 
          intro b g h hgb
          have e : gapStep g y = g := by unfold gapStep; rw [if_neg (by have := h.1; omega)]
          rw [List.foldl_cons, e]; exact ih y.2 g h.2.2.2 (by have := h.1; have := h.2.1; omega)
      have : gapStep g x ≤ x.2 := by omega
      have e := hstill l x.2 (gapStep g x) a4 this
      rw [e] at c1 c2
      revert c1 c2
      unfold gapStep
      split <;> omega
    simp only [hasN, List.any_cons, Bool.or_eq_false_iff]
    exact ⟨by simpa using hx, i2⟩
theorem gap_ge {l : List R} {g : Int} (h : 0 ≤ gap l g) : g ≤ gap l g ∧ hasN l (gap l g) = false := by
  unfold gap at h ⊢
  split at h
  · rename_i hc
    rw [if_pos hc]
    simp at hc
    have := gap_aux l (-1) g ((isRs_ch l).1 hc.1)
    exact ⟨this.1, this.2.1⟩
  · omega

/- CountNumbers -/
def cnt : List R → Int
  | [] => 0
  | r :: l => (r.2 - r.1) + cnt l
theorem cnt_append (l m : List R) : cnt (l ++ m) = cnt l + cnt m := by
  induction l with
  | nil => simp [cnt]
  | cons r l ih => simp only [List.cons_append, cnt, ih]; omega
theorem cnt_bd (l : List R) : ∀ b, b ≤ maxQ → Ch b l → 0 ≤ cnt l ∧ cnt l ≤ maxQ - b := by
  induction l with
  | nil => intro b hb _; simp [cnt]; omega
  | cons r l ih =>
    intro b hb h
    obtain ⟨h1, h2, h3, h4⟩ := h
    have := ih r.2 h3 h4
    simp only [cnt]; omega
theorem Ch.take {l : List R} : ∀ {b : Int}, Ch b l → ∀ k, Ch b (l.take k) := by
  induction l with
  | nil => intro b h k; simpa using h
  | cons r l ih =>
    intro b h k
    cases k with
    | zero => trivial
    | succ k => exact ⟨h.1, h.2.1, h.2.2.1, ih h.2.2.2 k⟩
theorem cnt_take {l : List R} (h : isRs l = true) (k : Nat) : 0 ≤ cnt (l.take k) ∧ cnt (l.take k) ≤ 4611686018427387904 := by
  have := cnt_bd (l.take k) (-1) (by decide) (((isRs_ch l).1 h).take k)
  unfold maxQ at this; omega
theorem isRs_get {l : List R} (h : isRs l = true) (k : Nat) (hk : k < l.length) : 0 ≤ (l[k]).1 ∧ (l[k]).1 < (l[k]).2 ∧ (l[k]).2 ≤ 4611686018427387903 := by
  have := (ok_of_ch l (-1) (by omega) ((isRs_ch l).1 h)).1 k hk
  simp [isR, maxQ, List.getD, hk] at this
  omega
def countR (l : List R) : Int := if isRs l then cnt l else -1

/- PopRange -/
def popFirst (x : R) (most : Int) : R := (x.1, x.1 + min most (x.2 - x.1))
def popOk (l : List R) (most : Int) : Bool := !l.isEmpty && decide (1 ≤ most) && isRs l
theorem remOne_far {r x : R} (h1 : r.1 < r.2) (h2 : r.2 ≤ x.1) (h3 : x.1 < x.2) : remOne r x = [x] := by
  unfold remOne
  have e : max x.1 r.2 = x.1 := by omega
  rw [if_neg (by omega), e, if_pos h3]
  simp
theorem rem_far (r : R) (h1 : r.1 < r.2) (l : List R) : ∀ b, r.2 ≤ b → Ch b l → l.flatMap (remOne r) = l := by
  induction l with
  | nil => intros; rfl
  | cons x l ih =>
    intro b hb h
    obtain ⟨a1, a2, a3, a4⟩ := h
    rw [List.flatMap_cons, remOne_far h1 (by omega) a2, ih x.2 (by omega) a4]
    rfl
theorem popFirst_is {x : R} {l : List R} {most : Int} (hm : 1 ≤ most) (h : isRs (x :: l) = true) : isR (popFirst x most) = true := by
  obtain ⟨h1, h2, h3⟩ := isRs_get h 0 (by simp)
  have e : (x :: l)[0] = x := rfl
  rw [e] at h1 h2 h3
  unfold isR popFirst maxQ
  simp only [Bool.and_eq_true, decide_eq_true_eq]
  omega
theorem pop_rest {x : R} {l : List R} {most : Int} (hm : 1 ≤ most) (h : isRs (x :: l) = true) :
    remR (x :: l) (popFirst x most) = if x.2 - x.1 ≤ most then l else (x.1 + most, x.2) :: l := by
  have hr := popFirst_is hm h
  have hc := (isRs_ch _).1 h
  obtain ⟨a1, a2, a3, a4⟩ := hc
  simp only [remR, h, hr, Bool.and_self, if_true, List.flatMap_cons]
  have h1 : (popFirst x most).1 < (popFirst x most).2 := by simp [isR] at hr; omega
  rw [rem_far _ h1 l x.2 (by simp [popFirst]; omega) a4]
  unfold remOne popFirst
  simp only
  rw [if_neg (by omega)]
  by_cases c : x.2 - x.1 ≤ most
  · rw [if_neg (by omega), if_pos c]; rfl
  · rw [if_pos (by omega), if_neg c]
    have e : max x.1 (x.1 + min most (x.2 - x.1)) = x.1 + most := by omega
    rw [e]; rfl
theorem pop_law {l : List R} {most : Int} (hm : 1 ≤ most) (h : isRs l = true) (x : R) (t : List R) (hl : l = x :: t) :
    (popFirst x most).2 - (popFirst x most).1 ≤ most ∧ countR (remR l (popFirst x most)) = countR l - ((popFirst x most).2 - (popFirst x most).1) ∧
    (∀ y u, remR l (popFirst x most) = y :: u → (popFirst x most).2 ≤ y.1) := by
  subst hl
  have hi := remR_is (r := popFirst x most) h
  have hc := (isRs_ch _).1 h
  obtain ⟨a1, a2, a3, a4⟩ := hc
  refine ⟨by simp [popFirst]; omega, ?_, ?_⟩
  · simp only [countR, hi, h, if_true]
    rw [pop_rest hm h]
    split <;> simp only [cnt, popFirst] <;> omega
  · intro y u e
    rw [pop_rest hm h] at e
    split at e
    · subst e
      have := a4.1
      simp [popFirst]; omega
    · injection e with e1 e2
      subst e1
      simp [popFirst]; omega

/- CommonRanges -/
def comOne (x y : R) : List R := if max x.1 y.1 < min x.2 y.2 then [(max x.1 y.1, min x.2 y.2)] else []
def comAll (a b : List R) : List R := a.flatMap fun x => b.flatMap fun y => comOne x y
def comR (a b : List R) : List R := if isRs a && isRs b then comAll a b else []
theorem hasN_append (l m : List R) (n : Int) : hasN (l ++ m) n = (hasN l n || hasN m n) := by simp [hasN, List.any_append]
theorem hasN_cons (x : R) (m : List R) (n : Int) : hasN (x :: m) n = ((decide (x.1 ≤ n) && decide (n < x.2)) || hasN m n) := by simp [hasN]
theorem comOne_has (x y : R) (n : Int) : hasN (comOne x y) n = ((decide (x.1 ≤ n) && decide (n < x.2)) && (decide (y.1 ≤ n) && decide (n < y.2))) := by
  unfold comOne
  rw [Bool.eq_iff_iff]
  split <;> simp [hasN] <;> omega
theorem comRow_has (x : R) (b : List R) (n : Int) : hasN (b.flatMap fun y => comOne x y) n = ((decide (x.1 ≤ n) && decide (n < x.2)) && hasN b n) := by
  induction b with
  | nil => simp [hasN]
  | cons y b ih => rw [List.flatMap_cons, hasN_append, comOne_has, ih, hasN_cons]; cases (decide (x.1 ≤ n) && decide (n < x.2)) <;> simp
theorem comAll_has (a b : List R) (n : Int) : hasN (comAll a b) n = (hasN a n && hasN b n) := by
  unfold comAll
  induction a with
  | nil => simp [hasN]
  | cons x a ih => rw [List.flatMap_cons, hasN_append, comRow_has, ih, hasN_cons]; cases (decide (x.1 ≤ n) && decide (n < x.2)) <;> cases hasN a n <;> simp
theorem comRow_len (x : R) (b : List R) : (b.flatMap fun y => comOne x y).length ≤ b.length := by
  induction b with
  | nil => simp
  | cons y b ih =>
    rw [List.flatMap_cons, List.length_append, List.length_cons]
    have : (comOne x y).length ≤ 1 := by unfold comOne; split <;> simp
    omega
theorem comAll_len (a b : List R) : (comAll a b).length ≤ a.length * b.length := by
  unfold comAll
  induction a with
  | nil => simp
  | cons x a ih =>
    rw [List.flatMap_cons, List.length_append, List.length_cons, Nat.add_mul, Nat.one_mul]
    have := comRow_len x b
    omega
theorem remOne_len (r x : R) : (remOne r x).length ≤ 2 := by
  unfold remOne
  split <;> split <;> simp
theorem rem_len (r : R) (l : List R) : (l.flatMap (remOne r)).length ≤ 2 * l.length := by
  induction l with
  | nil => simp
  | cons x l ih =>
    rw [List.flatMap_cons, List.length_append, List.length_cons]
    have := remOne_len r x
    omega
theorem remR_len (l : List R) (r : R) : (remR l r).length ≤ 2 * l.length := by
  unfold remR
  split
  · exact rem_len r l
  · omega
def AS.sz (s : AS) : Nat := s.out.length + (bif s.placed then 0 else 1)
theorem addFold_len (l : List R) : ∀ s : AS, (l.foldl addStep s).sz ≤ s.sz + l.length := by
  induction l with
  | nil => intro s; simp
  | cons x l ih =>
    intro s
    have h := ih (addStep s x)
    have : (addStep s x).sz ≤ s.sz + 1 := by
      obtain ⟨out, placed, r⟩ := s
      unfold addStep AS.sz
      cases placed <;> (split <;> first | (simp; done) | (split <;> simp) )
    simp only [List.foldl_cons, List.length_cons]
    omega
theorem addR_len (l : List R) (r : R) : (addR l r).length ≤ l.length + 1 := by
  unfold addR
  split
  · have h : (addFold l r).sz ≤ _ := addFold_len l { out := [], placed := false, r := r }
    unfold AS.fin
    unfold AS.sz at h
    generalize addFold l r = s at h ⊢
    obtain ⟨out, placed, q⟩ := s
    cases placed <;> simp at h ⊢ <;> omega
  · omega
end Go.Proofs.Ytnndhkdigmkddaa.RM
