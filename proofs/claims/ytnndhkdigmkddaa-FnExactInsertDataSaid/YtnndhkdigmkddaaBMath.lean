/- Plain laws on buffers: no program. No conditions. -/
import Derived.Test.YtnndhkdigmkddaaRMath
namespace Go.Proofs.Ytnndhkdigmkddaa.BM
open RM
abbrev C := Int × List UInt8
def cend (c : C) : Int := c.1 + c.2.length
/-- a chain of chunks with gaps, from b on -/
def ChB (b : Int) : List C → Prop
  | [] => True
  | c :: l => b ≤ c.1 ∧ c.2 ≠ [] ∧ cend c ≤ maxQ ∧ ChB (cend c + 1) l
/-- chunks may touch -/
def WCh (b : Int) : List C → Prop
  | [] => True
  | c :: l => b ≤ c.1 ∧ c.2 ≠ [] ∧ cend c ≤ maxQ ∧ WCh (cend c) l
theorem ChB.mono {b b' : Int} (h : b' ≤ b) : ∀ {l : List C}, ChB b l → ChB b' l
  | [], _ => trivial
  | _ :: _, ⟨h1, h2⟩ => ⟨by omega, h2⟩
theorem WCh.mono {b b' : Int} (h : b' ≤ b) : ∀ {l : List C}, WCh b l → WCh b' l
  | [], _ => trivial
  | _ :: _, ⟨h1, h2⟩ => ⟨by omega, h2⟩
theorem ChB.weak : ∀ {l : List C} {b : Int}, ChB b l → WCh b l
  | [], _, _ => trivial
  | _ :: _, _, ⟨h1, h2, h3, h4⟩ => ⟨h1, h2, h3, (h4.weak).mono (by omega)⟩
theorem len_pos {c : C} (h : c.2 ≠ []) : c.1 < cend c := by
  unfold cend
  have : 0 < c.2.length := List.length_pos_iff.2 h
  omega
def bytes : List C → Int → Option UInt8
  | [], _ => none
  | c :: l, n => if c.1 ≤ n ∧ n < cend c then c.2[(n - c.1).toNat]? else bytes l n
theorem bytes_lo : ∀ {l : List C} {b : Int}, WCh b l → ∀ {n}, n < b → bytes l n = none
  | [], _, _, _, _ => rfl
  | c :: l, b, h, n, hn => by
    have h2 := len_pos h.2.1
    have h1 := h.1
    simp only [bytes]
    rw [if_neg (by omega)]
    exact bytes_lo h.2.2.2 (by omega)
theorem bytes_in {c : C} {l : List C} {n : Int} (h : c.1 ≤ n ∧ n < cend c) : bytes (c :: l) n = c.2[(n - c.1).toNat]? := by simp only [bytes]; rw [if_pos h]
theorem bytes_out {c : C} {l : List C} {n : Int} (h : ¬ (c.1 ≤ n ∧ n < cend c)) : bytes (c :: l) n = bytes l n := by simp only [bytes]; rw [if_neg h]
theorem in_some {c : C} {n : Int} (h : c.1 ≤ n ∧ n < cend c) : ∃ x, c.2[(n - c.1).toNat]? = some x := by
  unfold cend at h
  exact ⟨_, List.getElem?_eq_getElem (by omega)⟩

theorem chain_eq : ∀ (cs ds : List C) (b : Int), ChB b cs → ChB b ds → (∀ n, bytes cs n = bytes ds n) → cs = ds := by
  intro cs
  induction cs with
  | nil =>
    intro ds b _ hd h
    cases ds with
    | nil => rfl
    | cons d ds =>
      have h2 := len_pos hd.2.1
      have := h d.1
      obtain ⟨x, hx⟩ := in_some (c := d) (n := d.1) ⟨by omega, h2⟩
      rw [bytes_in ⟨by omega, h2⟩, hx] at this
      cases this
  | cons c cs ih =>
    intro ds b hc hd h
    cases ds with
    | nil =>
      have h2 := len_pos hc.2.1
      have := h c.1
      obtain ⟨x, hx⟩ := in_some (c := c) (n := c.1) ⟨by omega, h2⟩
      rw [bytes_in ⟨by omega, h2⟩, hx] at this
      cases this
    | cons d ds =>
      have hcp := len_pos hc.2.1
      have hdp := len_pos hd.2.1
      have hcw := hc.2.2.2.weak
      have hdw := hd.2.2.2.weak
      -- the starts are one
      have h1 : c.1 = d.1 := by
        rcases Int.lt_trichotomy c.1 d.1 with hl | he | hl
        · exfalso
          obtain ⟨x, hx⟩ := in_some (c := c) (n := c.1) ⟨by omega, hcp⟩
          have := h c.1
          rw [bytes_in ⟨by omega, hcp⟩, hx, bytes_out (by omega), bytes_lo hdw (by omega)] at this
          cases this
        · exact he
        · exfalso
          obtain ⟨x, hx⟩ := in_some (c := d) (n := d.1) ⟨by omega, hdp⟩
          have := h d.1
          rw [bytes_in (c := d) ⟨by omega, hdp⟩, hx, bytes_out (by omega), bytes_lo hcw (by omega)] at this
          cases this
      have h2 : cend c = cend d := by
        rcases Int.lt_trichotomy (cend c) (cend d) with hl | he | hl
        · exfalso
          obtain ⟨x, hx⟩ := in_some (c := d) (n := cend c) ⟨by omega, hl⟩
          have := h (cend c)
          rw [bytes_in (c := d) ⟨by omega, hl⟩, hx, bytes_out (by omega), bytes_lo hcw (by omega)] at this
          cases this
        · exact he
        · exfalso
          obtain ⟨x, hx⟩ := in_some (c := c) (n := cend d) ⟨by omega, hl⟩
          have := h (cend d)
          rw [bytes_in (c := c) ⟨by omega, hl⟩, hx, bytes_out (by omega), bytes_lo hdw (by omega)] at this
          cases this
      have h3 : c.2 = d.2 := by
        apply List.ext_getElem?
        intro i
        by_cases hi : i < c.2.length
        · have hin : c.1 ≤ c.1 + i ∧ c.1 + (i : Int) < cend c := by unfold cend; omega
          have := h (c.1 + i)
          rw [bytes_in hin, bytes_in (c := d) (by omega)] at this
          have e1 : (c.1 + (i : Int) - c.1).toNat = i := by omega
          have e2 : (c.1 + (i : Int) - d.1).toNat = i := by omega
          rwa [e1, e2] at this
        · have : c.2.length = d.2.length := by unfold cend at h2; omega
          rw [List.getElem?_eq_none (by omega), List.getElem?_eq_none (by omega)]
      have hcd : c = d := Prod.ext h1 h3
      subst hcd
      congr 1
      refine ih ds _ hc.2.2.2 hd.2.2.2 (fun n => ?_)
      by_cases hn : n < cend c + 1
      · rw [bytes_lo hcw hn, bytes_lo hdw hn]
      · have := h n
        rwa [bytes_out (by omega), bytes_out (by omega)] at this

/- the pieces -/
section
variable (off : Int) (data : List UInt8) (e : Int)
def sub (a b : Int) : List UInt8 := (data.drop (a - off).toNat).take (b - a).toNat
def put (frm to : Int) : List C := if frm < min to e then [(frm, sub off data frm (min to e))] else []
def pcs (frm : Int) : List C → List C
  | [] => put off data e frm e
  | c :: l => put off data e frm c.1 ++ c :: pcs (max frm (cend c)) l
end
theorem sub_len {off : Int} {data : List UInt8} {a b : Int} (h1 : off ≤ a) (h2 : a ≤ b) (h3 : b ≤ off + data.length) : (sub off data a b).length = (b - a).toNat := by
  unfold sub
  rw [List.length_take, List.length_drop]; omega
theorem sub_get {off : Int} {data : List UInt8} {a b n : Int} (h1 : off ≤ a) (h2 : a ≤ n) (h3 : n < b) : (sub off data a b)[(n - a).toNat]? = data[(n - off).toNat]? := by
  unfold sub
  rw [List.getElem?_take_of_lt (by omega), List.getElem?_drop]
  congr 1; omega
theorem sub_end {off : Int} {data : List UInt8} {a b : Int} (h1 : off ≤ a) (h2 : a ≤ b) (h3 : b ≤ off + data.length) : cend (a, sub off data a b) = b := by
  unfold cend
  simp only
  rw [sub_len h1 h2 h3]; omega
theorem pcs_chain {off : Int} {data : List UInt8} {e : Int} (he : e = off + data.length) (hm : e ≤ maxQ) : ∀ (l : List C) (b frm : Int), ChB b l → b ≤ frm → off ≤ frm → WCh b (pcs off data e frm l) := by
  have hput : ∀ (frm to b : Int) (l : List C), b ≤ frm → off ≤ frm → b ≤ to → WCh to l → WCh b (put off data e frm to ++ l) := by
    intro frm to b l h1 h2 h3 h4
    unfold put
    split
    · rename_i hc
      have hE := sub_end (off := off) (data := data) (a := frm) (b := min to e) h2 (by omega) (by omega)
      refine ⟨h1, ?_, by rw [hE]; omega, ?_⟩
      · intro hn
        have := sub_len (off := off) (data := data) (a := frm) (b := min to e) h2 (by omega) (by omega)
        simp only at hn
        rw [hn] at this; simp at this; omega
      · rw [hE]; exact h4.mono (by omega)
    · exact h4.mono (by omega)
  intro l
  induction l with
  | nil =>
    intro b frm _ h1 h2
    have := hput frm e (min b e) [] (by omega) h2 (by omega) trivial
    simp only [List.append_nil] at this
    simp only [pcs]
    unfold put at this ⊢
    split
    · rename_i hc
      rw [if_pos hc] at this
      exact ⟨h1, this.2⟩
    · trivial
  | cons c l ih =>
    intro b frm h h1 h2
    obtain ⟨a1, a2, a3, a4⟩ := h
    have hcp := len_pos a2
    have i := ih (cend c) (max frm (cend c)) (a4.mono (by omega)) (by omega) (by omega)
    exact hput frm c.1 b _ h1 h2 a1 ⟨by omega, a2, a3, i⟩
def over (a : Option UInt8) (b : Option UInt8) : Option UInt8 := match a with | some x => some x | none => b
theorem pcs_bytes {off : Int} {data : List UInt8} {e : Int} (he : e = off + data.length) : ∀ (l : List C) (b frm n : Int), ChB b l → off ≤ frm →
    bytes (pcs off data e frm l) n = over (bytes l n) (if frm ≤ n ∧ n < e then data[(n - off).toNat]? else none) := by
  have hput : ∀ (frm to n : Int) (l : List C), off ≤ frm → bytes (put off data e frm to ++ l) n = if frm ≤ n ∧ n < min to e then data[(n - off).toNat]? else bytes l n := by
    intro frm to n l h2
    unfold put
    split
    · rename_i hc
      have hE := sub_end (off := off) (data := data) (a := frm) (b := min to e) h2 (by omega) (by omega)
      show (if frm ≤ n ∧ n < cend (frm, sub off data frm (min to e)) then _ else _) = _
      rw [hE]
      split
      · rename_i hn
        exact sub_get h2 hn.1 hn.2
      · rfl
    · rename_i hc
      rw [if_neg (by omega)]; rfl
  intro l
  induction l with
  | nil =>
    intro b frm n _ h2
    have := hput frm e n [] h2
    simp only [List.append_nil] at this
    simp only [pcs, this, bytes, over]
    have : min e e = e := by omega
    rw [this]
  | cons c l ih =>
    intro b frm n h h2
    obtain ⟨a1, a2, a3, a4⟩ := h
    have hcp := len_pos a2
    have i := ih (cend c + 1) (max frm (cend c)) n a4 (by omega)
    simp only [pcs]
    rw [hput frm c.1 n _ h2]
    by_cases c1 : frm ≤ n ∧ n < min c.1 e
    · rw [if_pos c1, bytes_out (by omega), bytes_lo a4.weak (by omega)]
      simp only [over]
      rw [if_pos (by omega)]
    · rw [if_neg c1]
      by_cases c2 : c.1 ≤ n ∧ n < cend c
      · obtain ⟨x, hx⟩ := in_some c2
        rw [bytes_in c2, bytes_in c2, hx]; rfl
      · rw [bytes_out c2, bytes_out c2, i]
        by_cases c3 : n < c.1
        · rw [if_neg (by omega), if_neg (by omega)]
        · have : (max frm (cend c) ≤ n ∧ n < e) ↔ (frm ≤ n ∧ n < e) := by omega
          simp only [this]

/- joining -/
def jn : C → List C → List C
  | c, [] => [c]
  | c, d :: l => if cend c = d.1 then jn (c.1, c.2 ++ d.2) l else c :: jn d l
def joined : List C → List C
  | [] => []
  | c :: l => jn c l
theorem jn_chain : ∀ (l : List C) (c : C) (b : Int), WCh b (c :: l) → ChB b (jn c l) := by
  intro l
  induction l with
  | nil => intro c b h; exact ⟨h.1, h.2.1, h.2.2.1, trivial⟩
  | cons d l ih =>
    intro c b h
    obtain ⟨a1, a2, a3, b1, b2, b3, b4⟩ := h
    simp only [jn]
    split
    · rename_i he
      have hE : cend (c.1, c.2 ++ d.2) = cend d := by
        unfold cend at he ⊢
        simp only [List.length_append]; omega
      exact ih _ b ⟨a1, by simp [a2], by rw [hE]; exact b3, by rw [hE]; exact b4⟩
    · exact ⟨a1, a2, a3, ih d _ ⟨by omega, b2, b3, b4⟩⟩
theorem jn_bytes : ∀ (l : List C) (c : C) (b n : Int), WCh b (c :: l) → bytes (jn c l) n = bytes (c :: l) n := by
  intro l
  induction l with
  | nil => intros; rfl
  | cons d l ih =>
    intro c b n h
    obtain ⟨a1, a2, a3, b1, b2, b3, b4⟩ := h
    simp only [jn]
    split
    · rename_i he
      have hE : cend (c.1, c.2 ++ d.2) = cend d := by
        unfold cend at he ⊢
        simp only [List.length_append]; omega
      have hcp := len_pos a2
      have hdp := len_pos b2
      rw [ih (c.1, c.2 ++ d.2) b n ⟨a1, by simp [a2], by rw [hE]; exact b3, by rw [hE]; exact b4⟩]
      by_cases c1 : c.1 ≤ n ∧ n < cend c
      · rw [bytes_in (c := c) c1, bytes_in (by rw [hE]; exact ⟨c1.1, by omega⟩)]
        unfold cend at c1
        simp only
        rw [List.getElem?_append_left (by omega)]
      · rw [bytes_out (c := c) c1]
        by_cases c2 : d.1 ≤ n ∧ n < cend d
        · rw [bytes_in (c := d) c2, bytes_in (by rw [hE]; simp only; omega)]
          unfold cend at he
          simp only
          rw [List.getElem?_append_right (by omega)]
          congr 1; omega
        · rw [bytes_out (c := d) c2, bytes_out (by rw [hE]; simp only; omega)]
    · simp only [bytes]
      have := ih d _ n ⟨b1, b2, b3, b4⟩
      rw [this]
      simp only [bytes]
/-- what InsertData makes of a valid buffer's chunks -/
def insB (next : Int) (cs : List C) (off : Int) (data : List UInt8) : List C := joined (pcs off data (off + data.length) (max off next) cs)
theorem pcs_ne (off : Int) (data : List UInt8) (e frm : Int) (l : List C) (h : frm < e) : pcs off data e frm l ≠ [] := by
  cases l with
  | nil => simp only [pcs]; unfold put; rw [if_pos (by omega)]; simp
  | cons c l => simp [pcs]
theorem ins_chain {next off : Int} {cs : List C} {data : List UInt8} (h : ChB next cs) (hm : off + data.length ≤ maxQ) : ChB next (insB next cs off data) := by
  unfold insB
  have hw := pcs_chain (off := off) (data := data) rfl hm cs next (max off next) h (by omega) (by omega)
  cases hp : pcs off data (off + data.length) (max off next) cs with
  | nil => trivial
  | cons c l => rw [hp] at hw; exact jn_chain l c next hw
theorem ins_bytes {next off : Int} {cs : List C} {data : List UInt8} (h : ChB next cs) (hm : off + data.length ≤ maxQ) (n : Int) :
    bytes (insB next cs off data) n = over (bytes cs n) (if max off next ≤ n ∧ n < off + data.length then data[(n - off).toNat]? else none) := by
  unfold insB
  rw [← pcs_bytes (off := off) (data := data) rfl cs next (max off next) n h (by omega)]
  have hw := pcs_chain (off := off) (data := data) rfl hm cs next (max off next) h (by omega) (by omega)
  cases hp : pcs off data (off + data.length) (max off next) cs with
  | nil => rfl
  | cons c l => rw [hp] at hw; exact jn_bytes l c next n hw

/- spec's way: ranges, then bytes -/
def rngs (cs : List C) : List R := cs.map fun c => (c.1, cend c)
theorem rngs_ch : ∀ {l : List C} {b : Int}, ChB b l → Ch (b - 1) (rngs l)
  | [], _, _ => trivial
  | c :: l, b, ⟨h1, h2, h3, h4⟩ => ⟨by simp only; omega, len_pos h2, h3, by have := rngs_ch h4; rwa [show cend c + 1 - 1 = cend c by omega] at this⟩
theorem rngs_is {next : Int} {cs : List C} (h0 : 0 ≤ next) (h : ChB next cs) : isRs (rngs cs) = true := by
  rw [isRs_ch]; exact (rngs_ch h).mono (by omega)
theorem rngs_has (l : List C) (n : Int) : hasN (rngs l) n = (bytes l n).isSome := by
  induction l with
  | nil => rfl
  | cons c l ih =>
    have : hasN (rngs (c :: l)) n = ((decide (c.1 ≤ n) && decide (n < cend c)) || hasN (rngs l) n) := by simp [rngs, hasN]
    rw [this, ih]
    by_cases hc : c.1 ≤ n ∧ n < cend c
    · obtain ⟨x, hx⟩ := in_some hc
      rw [bytes_in hc, hx]; simp [hc.1, hc.2]
    · rw [bytes_out hc]
      have : (decide (c.1 ≤ n) && decide (n < cend c)) = false := by simpa using hc
      rw [this]; simp
/-- chunks filled by a byte function -/
def fill (g : Int → UInt8) (r : R) : C := (r.1, (List.range (r.2 - r.1).toNat).map fun (i : Nat) => g (r.1 + (i : Int)))
theorem fill_end (g : Int → UInt8) {r : R} (h : r.1 < r.2) : cend (fill g r) = r.2 := by unfold cend fill; simp; omega
theorem fill_ch (g : Int → UInt8) : ∀ {l : List R} {b : Int}, Ch b l → ChB (b + 1) (l.map (fill g))
  | [], _, _ => trivial
  | r :: l, b, ⟨h1, h2, h3, h4⟩ => ⟨by show b + 1 ≤ r.1; omega, by intro he; have := congrArg List.length he; simp [fill] at this; omega, by rw [fill_end g h2]; exact h3, by rw [fill_end g h2]; exact fill_ch g h4⟩
theorem fill_bytes (g : Int → UInt8) : ∀ {l : List R} {b : Int}, Ch b l → ∀ n, bytes (l.map (fill g)) n = if hasN l n then some (g n) else none
  | [], _, _, _ => rfl
  | r :: l, b, ⟨h1, h2, h3, h4⟩, n => by
    rw [List.map_cons, hasN_cons]
    by_cases hc : r.1 ≤ n ∧ n < r.2
    · rw [bytes_in (by rw [fill_end g h2]; exact hc)]
      have : (fill g r).1 = r.1 := rfl
      rw [this]
      simp only [fill, hc.1, hc.2]
      have hi : (n - r.1).toNat < (r.2 - r.1).toNat := by omega
      simp [List.getElem?_map, List.getElem?_range hi]
      congr 1; omega
    · rw [bytes_out (by rw [fill_end g h2]; exact hc), fill_bytes g h4]
      have : (decide (r.1 ≤ n) && decide (n < r.2)) = false := by simpa using hc
      rw [this]; simp
/-- the byte that spec takes -/
def pick (cs : List C) (off : Int) (data : List UInt8) (n : Int) : UInt8 := match bytes cs n with | some x => x | none => data.getD (n - off).toNat 0
theorem ins_spec {next off : Int} {cs : List C} {data : List UInt8} (h0 : 0 ≤ next) (h : ChB next cs) (hoff : 0 ≤ off) (hm : off + data.length ≤ maxQ) (hlt : max off next < off + data.length) :
    (addR (rngs cs) (max off next, off + data.length)).map (fill (pick cs off data)) = insB next cs off data := by
  have hi := rngs_is h0 h
  have hr : isR (max off next, off + (data.length : Int)) = true := by
    unfold isR; simp only [Bool.and_eq_true, decide_eq_true_eq]; omega
  have ha := addR_is (r := (max off next, off + (data.length : Int))) hi
  have hch := (isRs_ch _).1 ha
  refine chain_eq _ _ 0 (by have := fill_ch (pick cs off data) hch; simpa using this) ((ins_chain h hm).mono h0) (fun n => ?_)
  rw [fill_bytes _ hch, ins_bytes h hm, addR_has hi, hr, rngs_has]
  unfold pick
  cases hb : bytes cs n with
  | some x => simp [over]
  | none =>
    simp only [Option.isSome_none, Bool.false_or, Bool.true_and, over]
    by_cases hc : max off next ≤ n ∧ n < off + data.length
    · rw [if_pos hc]
      have hl : (n - off).toNat < data.length := by omega
      have : (decide (max off next ≤ n) && decide (n < off + (data.length : Int))) = true := by simp only [Bool.and_eq_true, decide_eq_true_eq]; exact hc
      rw [this]
      simp [hl]
    · rw [if_neg hc]
      have : (decide (max off next ≤ n) && decide (n < off + (data.length : Int))) = false := by
        rw [Bool.eq_false_iff]; simp only [ne_eq, Bool.and_eq_true, decide_eq_true_eq]; exact hc
      rw [this]; simp
end Go.Proofs.Ytnndhkdigmkddaa.BM
