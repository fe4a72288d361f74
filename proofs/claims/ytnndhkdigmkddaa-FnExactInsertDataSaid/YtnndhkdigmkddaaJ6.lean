/- InsertData of the program: plain laws of its loop. No conditions. -/
import Derived.Test.YtnndhkdigmkddaaJ5
namespace Go.Proofs.Ytnndhkdigmkddaa
open Go.ChangeShapes Go.WideShapes Go.ChangeAt Go.RowKit
set_option linter.unusedVariables false
set_option linter.unusedSimpArgs false
def stepP (off : Int) (d : ByteArray) (hi : Int) (s : List Ck × Int) (c : Ck) : List Ck × Int := (s.1 ++ putK off d hi s.2 c.1 ++ [c], max s.2 (c.1 + (c.2.size : Int)))
theorem foldP (off : Int) (d : ByteArray) (hi : Int) : ∀ (l P : List Ck) (fr : Int), (l.foldl (stepP off d hi) (P, fr)).1 ++ putK off d hi (l.foldl (stepP off d hi) (P, fr)).2 hi = P ++ pcsK off d hi fr l := by
  intro l
  induction l with
  | nil => intro P fr; rfl
  | cons c l ih =>
    intro P fr
    rw [List.foldl_cons]
    simp only [stepP, pcsK]
    rw [ih]
    simp
theorem putK_len (off : Int) (d : ByteArray) (hi fr tt : Int) : (putK off d hi fr tt).length ≤ 1 := by unfold putK; split <;> simp
theorem foldP_bd (off : Int) (d : ByteArray) (hi lo : Int) : ∀ (l P : List Ck) (fr : Int), lo ≤ fr → fr ≤ 4611686018427387904 → (∀ c ∈ l, GoodC c) → lo ≤ (l.foldl (stepP off d hi) (P, fr)).2 ∧ (l.foldl (stepP off d hi) (P, fr)).2 ≤ 4611686018427387904 ∧ (l.foldl (stepP off d hi) (P, fr)).1.length ≤ P.length + 2 * l.length := by
  intro l
  induction l with
  | nil => intro P fr h1 h2 _; exact ⟨h1, h2, by simp⟩
  | cons c l ih =>
    intro P fr h1 h2 hg
    have hc := hg c List.mem_cons_self
    unfold GoodC at hc
    rw [List.foldl_cons]
    have := ih (P ++ putK off d hi fr c.1 ++ [c]) (max fr (c.1 + (c.2.size : Int))) (by omega) (by omega) (fun x hx => hg x (List.mem_cons_of_mem _ hx))
    refine ⟨this.1, this.2.1, Nat.le_trans this.2.2 ?_⟩
    have := putK_len off d hi fr c.1
    simp only [List.length_append, List.length_cons, List.length_nil]
    omega
theorem foldP_snoc {off : Int} {d : ByteArray} {hi : Int} {s : List Ck × Int} {l : List Ck} {k : Nat} {x : Int} {e : ByteArray} (hk : k < l.length) (hx : l.getD k ck0 = (x, e)) : (l.take (k + 1)).foldl (stepP off d hi) s = stepP off d hi ((l.take k).foldl (stepP off d hi) s) (x, e) := by
  rw [List.take_succ_eq_append_getElem hk, List.foldl_append]
  have : l[k] = (x, e) := by rw [← hx, List.getD_eq_getElem?_getD, List.getElem?_eq_getElem hk, Option.getD_some]
  rw [this]; rfl
theorem wch_good : ∀ {L : List Ck} {b : Int}, 0 ≤ b → BM.WCh b (L.map toC) → (∀ c ∈ L, GoodC c) ∧ L.Pairwise (fun x y => x.1 < y.1) ∧ ∀ c ∈ L, b ≤ c.1 := by
  intro L
  induction L with
  | nil => intro b _ _; exact ⟨(fun c hc => by cases hc), List.Pairwise.nil, (fun c hc => by cases hc)⟩
  | cons a L ih =>
    intro b hb h
    obtain ⟨h1, h2, h3, h4⟩ := h
    have hp := BM.len_pos h2
    have h1' : b ≤ a.1 := h1
    have hp' : a.1 < a.1 + (a.2.size : Int) := hp
    have h3' : a.1 + (a.2.size : Int) ≤ 4611686018427387903 := h3
    obtain ⟨i1, i2, i3⟩ := ih (b := a.1 + (a.2.size : Int)) (by omega) h4
    refine ⟨fun c hc => ?_, List.pairwise_cons.2 ⟨fun c hc => ?_, i2⟩, fun c hc => ?_⟩
    · rcases List.mem_cons.1 hc with rfl | hc
      · exact ⟨by omega, h3'⟩
      · exact i1 c hc
    · have := i3 c hc; omega
    · rcases List.mem_cons.1 hc with rfl | hc
      · exact h1'
      · have := i3 c hc; omega
/-- The pieces: what is sorted and joined. -/
theorem pcs_all {nx : Int} {l : List Ck} {off : Int} {d : ByteArray} (h : insOk nx l off d = true) :
    (∀ c ∈ pcsK off d (off + (d.size : Int)) (max off nx) l, GoodC c) ∧ (pcsK off d (off + (d.size : Int)) (max off nx) l).Pairwise (fun x y => x.1 < y.1) ∧ (pcsK off d (off + (d.size : Int)) (max off nx) l).length ≠ 0 ∧ joinK (pcsK off d (off + (d.size : Int)) (max off nx) l) = insK nx l off d := by
  obtain ⟨h1, h2, h3, h4, h5⟩ := insOk_iff.1 h
  obtain ⟨h0, hc⟩ := isBf_chain h1
  have hmap := pcsK_map off d (off + (d.size : Int)) l (max off nx) (by omega)
  have hl : (d.data.toList.length : Int) = (d.size : Int) := rfl
  have hw := BM.pcs_chain (off := off) (data := d.data.toList) (e := off + (d.size : Int)) (by rw [hl]) (by unfold RM.maxQ; omega) (l.map toC) nx (max off nx) hc (by omega) (by omega)
  rw [← hmap] at hw
  obtain ⟨g1, g2, _⟩ := wch_good h0 hw
  refine ⟨g1, g2, ?_, mapC_inj ?_⟩
  · intro hz
    have := BM.pcs_ne off d.data.toList (off + (d.size : Int)) (max off nx) (l.map toC) h5
    rw [← hmap] at this
    rw [List.eq_nil_of_length_eq_zero hz] at this
    exact this rfl
  · rw [joinK_map, hmap, insK_map h]
    rfl
theorem isBf_good {nx : Int} {l : List Ck} (h : isBf nx l = true) : ∀ c ∈ l, GoodC c := by
  obtain ⟨h0, hc⟩ := isBf_chain h
  exact (wch_good h0 hc.weak).1
theorem InvJ.from_ {w wr : World} {bv : Value} {nx off hi : Int} {d : ByteArray} {gf ge gl base : Nat} {fr : Int} {v : Value} {L : List Ck} (h : InvJ w wr bv nx off hi d gf ge gl base fr v L) (fr' : Int) : InvJ w (wr.setCell ⟨gf, 0, none⟩ (.int .i64 fr')) bv nx off hi d gf ge gl base fr' v L := by
  have a1 := h.g1; have a2 := h.g2; have a3 := h.g3; have a4 := h.g4; have a6 := h.g6
  refine { h with kb := h.kb.setO (by omega) _, ko := h.ko.setO (by omega) _, kd := h.kd.setO (by omega) _, kr := h.kr.setO (by omega) _, kf := ?_, ke := h.ke.setO (fun e => a3 e.symm) _, kl := h.kl.setO (by omega) _, own := ?_, bel := ?_ }
  · simpa using h.kf.set_ 0 (.int .i64 fr')
  · exact own_other h.own (only_setCell (grown_refl wr (some gf)) 0 (.int .i64 fr')) (fun k hk e => by injection hk with hk; have := (h.own.lt k e).1; omega)
  · exact h.bel.setCell (p := ⟨gf, 0, none⟩) (by show w.heap.size ≤ gf; omega) _
end Go.Proofs.Ytnndhkdigmkddaa
