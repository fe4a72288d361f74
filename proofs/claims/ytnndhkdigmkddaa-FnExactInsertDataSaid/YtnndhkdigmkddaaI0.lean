/- What InsertData computes: plain laws that join the chunks of the walks with the lists of bytes. No conditions. -/
import Derived.Test.YtnndhkdigmkddaaE11
import Derived.Test.YtnndhkdigmkddaaQ2
import Derived.Test.YtnndhkdigmkddaaBMath
namespace Go.Proofs.Ytnndhkdigmkddaa
open Go.ChangeShapes Go.WideShapes Go.ChangeAt Go.RowKit Go.Sort
set_option linter.unusedVariables false
set_option linter.unusedSimpArgs false
def toC (c : Ck) : BM.C := (c.1, c.2.data.toList)
theorem toC_end (c : Ck) : BM.cend (toC c) = c.1 + (c.2.size : Int) := rfl
theorem toC_inj {a b : Ck} (h : toC a = toC b) : a = b := by
  obtain ⟨x, ⟨⟨d⟩⟩⟩ := a; obtain ⟨y, ⟨⟨e⟩⟩⟩ := b
  simp [toC] at h
  obtain ⟨rfl, rfl⟩ := h; rfl
theorem mapC_inj : ∀ {l m : List Ck}, l.map toC = m.map toC → l = m := by
  intro l
  induction l with
  | nil => intro m h; cases m with | nil => rfl | cons b m => cases h
  | cons a l ih =>
    intro m h
    cases m with
    | nil => cases h
    | cons b m =>
      simp only [List.map_cons, List.cons.injEq] at h
      rw [toC_inj h.1, ih h.2]
theorem isBf_chain {nx : Int} {l : List Ck} (h : isBf nx l = true) : 0 ≤ nx ∧ BM.ChB nx (l.map toC) := by
  unfold isBf at h
  simp only [Bool.and_eq_true, List.all_eq_true] at h
  obtain ⟨h1, h2⟩ := h
  refine ⟨(qB_true h1).1, ?_⟩
  have key : ∀ (m : List Ck) (k : Nat), l.drop k = m → BM.ChB (pe nx l k + 1) (m.map toC) := by
    intro m
    induction m with
    | nil => intro k _; trivial
    | cons c m ih =>
      intro k hk
      have hkl : k < l.length := by
        rcases Nat.lt_or_ge k l.length with h | h
        · exact h
        · rw [List.drop_eq_nil_of_le h] at hk; cases hk
      have hc : l.getD k ck0 = c := by
        rw [List.getD_eq_getElem?_getD, List.getElem?_eq_getElem hkl, Option.getD_some]
        rw [List.drop_eq_getElem_cons hkl] at hk
        injection hk
      have ho := h2 k (List.mem_range.2 hkl)
      unfold okB okC at ho
      rw [hc] at ho
      simp only [Bool.and_eq_true, decide_eq_true_eq] at ho
      have hm := ih (k + 1) (by rw [List.drop_eq_getElem_cons hkl] at hk; injection hk)
      rw [pe_succ (x := c.1) (d := c.2) hc] at hm
      refine ⟨by show _ ≤ c.1; omega, ?_, ?_, hm⟩
      · intro he
        have : c.2.size = 0 := by show c.2.data.size = 0; rw [← Array.length_toList]; have he' : c.2.data.toList = [] := he; rw [he']; rfl
        omega
      · show c.1 + (c.2.size : Int) ≤ RM.maxQ; unfold RM.maxQ; omega
  have := key l 0 rfl
  rw [pe_zero] at this
  simpa using this
theorem rgB_map {nx : Int} {l : List Ck} (h : isBf nx l = true) : rgB nx l = BM.rngs (l.map toC) := by
  rw [rgB_yes h rfl]
  unfold rgT BM.rngs
  rw [List.take_length, List.map_map]
  rfl
theorem bAt_bytes : ∀ (l : List Ck) (n : Int), (∀ c ∈ l, 0 ≤ c.1) → bAt l n = match BM.bytes (l.map toC) n with | some x => ((x.toNat : Nat) : Int) | none => -1 := by
  intro l
  induction l with
  | nil => intro n _; rfl
  | cons c l ih =>
    intro n h
    have i := ih n (fun c hc => h c (List.mem_cons_of_mem _ hc))
    have h0 := h c List.mem_cons_self
    unfold bAt at i ⊢
    by_cases hh : c.1 ≤ n ∧ n < c.1 + (c.2.size : Int)
    · have hb : hitC c.1 c.2 n = true := by unfold hitC; simp only [Bool.and_eq_true, decide_eq_true_eq]; omega
      rw [List.map_cons, BM.bytes_in (c := toC c) hh, List.find?_cons, hb]
      have hlt : (n - c.1).toNat < c.2.data.size := by show _ < c.2.size; omega
      have e1 : (toC c).2[(n - (toC c).1).toNat]? = some (c.2.data[(n - c.1).toNat]'hlt) := by
        show c.2.data.toList[(n - c.1).toNat]? = _
        rw [Array.getElem?_toList, Array.getElem?_eq_getElem hlt]
      rw [e1]
      have e2 : c.2.data.getD (n - c.1).toNat 0 = c.2.data[(n - c.1).toNat]'hlt := by rw [Array.getD_eq_getD_getElem?, Array.getElem?_eq_getElem hlt, Option.getD_some]
      simp only [e2]
    · have hb : hitC c.1 c.2 n = false := by
        rw [Bool.eq_false_iff]; unfold hitC; simp only [ne_eq, Bool.and_eq_true, decide_eq_true_eq]; omega
      rw [List.map_cons, BM.bytes_out (c := toC c) hh, List.find?_cons, hb]
      exact i
/-- t bytes of g from x on. -/
def fl (g : Int → UInt8) (x : Int) (t : Nat) : ByteArray := ⟨((List.range t).map fun (i : Nat) => g (x + (i : Int))).toArray⟩
theorem fl_size (g : Int → UInt8) (x : Int) (t : Nat) : (fl g x t).size = t := by
  show (List.toArray _).size = t; simp
theorem fl_zero (g : Int → UInt8) (x : Int) : fl g x 0 = ⟨#[]⟩ := rfl
theorem fl_succ (g : Int → UInt8) (x : Int) (t b : Nat) (h : (g (x + (t : Int))).toNat = b) : fl g x (t + 1) = fl g x t ++ one1 b := by
  subst h
  have e : ∀ (a b : ByteArray), a.data = b.data → a = b := by rintro ⟨a⟩ ⟨b⟩ rfl; rfl
  apply e
  rw [ByteArray.data_append]
  show (List.toArray _) = (List.toArray _) ++ _
  rw [List.range_succ, List.map_append]
  simp [one1]
/-- The chunks that InsertData makes. -/
def insR (nx : Int) (l : List Ck) (off : Int) (d : ByteArray) : List RM.R := RM.addR (rgB nx l) (max off nx, off + (d.size : Int))
def insG (l : List Ck) (off : Int) (d : ByteArray) : Int → UInt8 := BM.pick (l.map toC) off d.data.toList
def insK (nx : Int) (l : List Ck) (off : Int) (d : ByteArray) : List Ck := (insR nx l off d).map fun r => (r.1, fl (insG l off d) r.1 (r.2 - r.1).toNat)
def insOk (nx : Int) (l : List Ck) (off : Int) (d : ByteArray) : Bool := isBf nx l && (decide (0 < d.size) && (decide (0 ≤ off) && (decide (off ≤ 4611686018427387903 - (d.size : Int)) && decide (max off nx < off + (d.size : Int)))))
def insV (nx : Int) (l : List Ck) (off : Int) (d : ByteArray) : List Ck := if insOk nx l off d then insK nx l off d else l
theorem insOk_iff {nx : Int} {l : List Ck} {off : Int} {d : ByteArray} : insOk nx l off d = true ↔ isBf nx l = true ∧ 0 < d.size ∧ 0 ≤ off ∧ off ≤ 4611686018427387903 - (d.size : Int) ∧ max off nx < off + (d.size : Int) := by
  unfold insOk; simp only [Bool.and_eq_true, decide_eq_true_eq]
theorem insK_map {nx : Int} {l : List Ck} {off : Int} {d : ByteArray} (h : insOk nx l off d = true) : (insK nx l off d).map toC = BM.insB nx (l.map toC) off d.data.toList := by
  obtain ⟨h1, h2, h3, h4, h5⟩ := insOk_iff.1 h
  obtain ⟨h0, hc⟩ := isBf_chain h1
  have hl : d.data.toList.length = d.size := rfl
  rw [← BM.ins_spec h0 hc h3 (by rw [hl]; unfold RM.maxQ; omega) (by rw [hl]; exact h5), ← rgB_map h1, hl]
  unfold insK insR
  rw [List.map_map]
  rfl
theorem insR_is {nx : Int} {l : List Ck} {off : Int} {d : ByteArray} (h : insOk nx l off d = true) : RM.isRs (insR nx l off d) = true := by
  obtain ⟨h1, h2, h3, h4, h5⟩ := insOk_iff.1 h
  obtain ⟨h0, hc⟩ := isBf_chain h1
  unfold insR
  rw [rgB_map h1]
  exact RM.addR_is (BM.rngs_is h0 hc)
/-- What is read for one place of the new chunks. -/
theorem byte_at {nx : Int} {l : List Ck} {off : Int} {d : ByteArray} (h : insOk nx l off d = true) {k : Nat} {x y : Int} (hk : k < (insR nx l off d).length) (hx : (insR nx l off d).getD k (0, 0) = (x, y)) {n : Int} (h1 : x ≤ n) (h2 : n < y) :
    (∃ b : Nat, b < 256 ∧ bAt l n = (b : Int) ∧ (insG l off d n).toNat = b) ∨ (bAt l n = -1 ∧ ∃ q : Nat, n - off = (q : Int) ∧ ∃ hq : q < d.size, (insG l off d n).toNat = (d[q]'hq).toNat) := by
  have hall := insOk_iff.1 h
  obtain ⟨g1, g2, g3, g4, g5⟩ := hall
  obtain ⟨h0, hc⟩ := isBf_chain g1
  have hpos : ∀ c ∈ l, 0 ≤ c.1 := by
    have : ∀ (m : List Ck) (b : Int), 0 ≤ b → BM.ChB b (m.map toC) → ∀ c ∈ m, 0 ≤ c.1 := by
      intro m
      induction m with
      | nil => intro b _ _ c hc; cases hc
      | cons a m ih =>
        intro b hb hm c hcm
        obtain ⟨m1, m2, m3, m4⟩ := hm
        have m1' : b ≤ a.1 := m1
        rcases List.mem_cons.1 hcm with rfl | hcm
        · omega
        · have := BM.len_pos m2
          refine ih _ ?_ m4 c hcm
          have : (toC a).1 = a.1 := rfl
          omega
    exact this l nx h0 hc
  have hb := bAt_bytes l n hpos
  have hg : insG l off d n = match BM.bytes (l.map toC) n with | some x => x | none => d.data.toList.getD (n - off).toNat 0 := rfl
  cases hbs : BM.bytes (l.map toC) n with
  | some v =>
    rw [hbs] at hb hg
    left
    exact ⟨v.toNat, v.toNat_lt, hb, by rw [hg]⟩
  | none =>
    rw [hbs] at hb hg
    right
    refine ⟨hb, ?_⟩
    have hin : RM.hasN (insR nx l off d) n = true := by
      unfold RM.hasN
      rw [List.any_eq_true]
      have he : (insR nx l off d)[k]'hk = (x, y) := by rw [← hx, List.getD_eq_getElem?_getD, List.getElem?_eq_getElem hk, Option.getD_some]
      refine ⟨(x, y), by rw [← he]; exact List.getElem_mem hk, ?_⟩
      simp only [Bool.and_eq_true, decide_eq_true_eq]; exact ⟨h1, h2⟩
    unfold insR at hin
    rw [rgB_map g1, RM.addR_has (BM.rngs_is h0 hc), BM.rngs_has, hbs] at hin
    simp only [Option.isSome_none, Bool.false_or, Bool.and_eq_true, decide_eq_true_eq] at hin
    obtain ⟨_, hin⟩ := hin
    have hq : (n - off).toNat < d.size := by omega
    refine ⟨(n - off).toNat, by omega, hq, ?_⟩
    rw [hg]
    show (d.data.toList.getD (n - off).toNat 0).toNat = _
    have : d.data.toList.getD (n - off).toNat 0 = d.data[(n - off).toNat]'hq := by
      have hq' : (n - off).toNat < d.data.toList.length := hq
      rw [List.getD_eq_getElem?_getD, List.getElem?_eq_getElem hq', Option.getD_some, Array.getElem_toList]
    rw [this]; rfl
end Go.Proofs.Ytnndhkdigmkddaa
