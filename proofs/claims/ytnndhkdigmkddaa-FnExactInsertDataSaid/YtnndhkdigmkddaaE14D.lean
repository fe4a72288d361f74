/- What TakeBytes computes. No conditions. -/
import Derived.Test.YtnndhkdigmkddaaE13
import Derived.Deep.Cut
import Derived.Deep.CutRange
namespace Go.Proofs.Ytnndhkdigmkddaa
open Go.ChangeShapes Go.WideShapes Go.ChangeAt Go.RowKit Go.Sort
set_option linter.unusedVariables false
set_option linter.unusedSimpArgs false
/-- How many bytes are taken. -/
def tkM (nx : Int) (l : List Ck) (most : Int) : Int := min most (rdB nx l)
def tkS (nx : Int) (l : List Ck) (most : Int) : ByteArray := if tkM nx l most ≤ 0 then ⟨#[]⟩ else (l.getD 0 ck0).2.extract 0 (tkM nx l most).toNat
def tkN (nx : Int) (l : List Ck) (most : Int) : Int := if tkM nx l most ≤ 0 then nx else nx + tkM nx l most
def tkL (nx : Int) (l : List Ck) (most : Int) : List Ck := if tkM nx l most ≤ 0 then l else if tkM nx l most = ((l.getD 0 ck0).2.size : Int) then l.tail else (nx + tkM nx l most, (l.getD 0 ck0).2.extract (tkM nx l most).toNat (l.getD 0 ck0).2.size) :: l.tail
/-- What taking hands back. -/
def OutT (w : World) (nx : Int) (l : List Ck) (most : Int) (e : Ending) (w' : World) : Prop := ∃ A c, e = .returned (.tuple #[.string (tkS nx l most), .agg #[.int .i64 (tkN nx l most), .slice A (tkL nx l most).length c]]) ∧ Below w.heap.size w w' ∧ OwR w' w.heap.size A (tkL nx l most).length (tkL nx l most)
theorem tk_pos {nx : Int} {l : List Ck} {most : Int} (h : ¬ tkM nx l most ≤ 0) : isBf nx l = true ∧ l.length ≠ 0 ∧ (l.getD 0 ck0).1 = nx ∧ 0 < tkM nx l most ∧ tkM nx l most ≤ ((l.getD 0 ck0).2.size : Int) ∧ nx + ((l.getD 0 ck0).2.size : Int) ≤ 4611686018427387903 ∧ 0 ≤ nx := by
  have h1 : 0 < rdB nx l := by unfold tkM at h; omega
  have h2 : tkM nx l most ≤ rdB nx l := by unfold tkM; omega
  unfold rdB at h1 h2
  split at h1
  · rename_i hb
    split at h1
    · omega
    · rename_i hl
      split at h1
      · rename_i hx
        rw [if_pos hb, if_neg hl, if_pos hx] at h2
        have := isBf_at hb (k := 0) (by omega) (x := (l.getD 0 ck0).1) (d := (l.getD 0 ck0).2) rfl
        have hq : qB nx = true := by unfold isBf at hb; simp only [Bool.and_eq_true] at hb; exact hb.1
        exact ⟨hb, hl, hx, by omega, h2, by omega, (qB_true hq).1⟩
      · omega
  · omega
theorem results_tbf {fn : Func} {p u : Tmp} (h : fn.results = #[.tmp u, .cell p 28]) (tmps : Array Value) (w : World) (g : Nat) (cs : Array Value)
    (hp : tmps.getD p undef = .pointer (some ⟨g, 0, none⟩)) (hg : Bk w g 28 cs) (hs : cs.size = 2) :
    (results fn tmps).run Try.prog w = .ok (.tuple #[tmps.getD u undef, .agg cs]) w := by
  have hp' : tmps[p]?.getD undef = .pointer (some ⟨g, 0, none⟩) := by simpa using hp
  have hl := run_loadVar_row (P := Try.prog) w g 28 28 cs (0, 0) _ hg Try.underlying28 rfl (by rw [hs]; kernel_rfl)
  simp [results, h, hp', asAddr, hl]
theorem tail_cells {l : List Ck} {cur : Array Value} (h : ∀ (j : Nat) (x : Value), (encC l)[j]? = some x → cur[j]? = some x) (hl : l.length ≠ 0) : ∀ (j : Nat) (x : Value), (encC l.tail)[j]? = some x → cur[2 + j]? = some x := by
  cases l with
  | nil => exact absurd rfl hl
  | cons a t =>
    intro j x hx
    refine h (2 + j) x ?_
    have e : encC (a :: t) = [.int .i64 a.1, .string a.2] ++ encC t := by simp [encC]
    rw [e, List.getElem?_append_right (by simp)]
    simpa using hx
theorem head_cells {l : List Ck} {cur : Array Value} {x : Int} {d : ByteArray} (h : ∀ (j : Nat) (x : Value), (encC l)[j]? = some x → cur[j]? = some x) (hl : l.length ≠ 0) (hs : 2 ≤ cur.size) : ∀ (j : Nat) (u : Value), (encC ((x, d) :: l.tail))[j]? = some u → ((cur.setIfInBounds 0 (.int .i64 x)).setIfInBounds 1 (.string d))[0 + j]? = some u := by
  intro j u hj
  rw [Nat.zero_add]
  have e : encC ((x, d) :: l.tail) = [.int .i64 x, .string d] ++ encC l.tail := by simp [encC]
  rw [e] at hj
  rcases (show j = 0 ∨ j = 1 ∨ 2 ≤ j by omega) with rfl | rfl | h2
  · rw [Array.getElem?_setIfInBounds, if_neg (by omega), Array.getElem?_setIfInBounds, if_pos rfl, if_pos (by omega)]
    simpa using hj
  · rw [Array.getElem?_setIfInBounds, if_pos rfl, if_pos (by simp; omega)]
    simpa using hj
  · rw [Array.getElem?_setIfInBounds, if_neg (by omega), Array.getElem?_setIfInBounds, if_neg (by omega)]
    rw [List.getElem?_append_right (by simpa using h2)] at hj
    have := tail_cells h hl (j - 2) u (by simpa using hj)
    rwa [show 2 + (j - 2) = j by omega] at this
theorem Bk.setO {w : World} {g g' i : Nat} {T : TypeId} {cs : Array Value} (h : Bk w g T cs) (hne : g ≠ g') (u : Value) : Bk (w.setCell ⟨g', i, none⟩ u) g T cs :=
  (Below.heap_setCell w ⟨g', i, none⟩ u g hne).trans h
theorem cell_set2 {w : World} {g k o : Nat} {x u v : Value} (hne : k ≠ g) (h : w.cell? ⟨k, o, none⟩ = some x) : ((w.setCell ⟨g, 0, none⟩ u).setCell ⟨g, 1, none⟩ v).cell? ⟨k, o, none⟩ = some x := by
  have hb : Below (k + 1) w ((w.setCell ⟨g, 0, none⟩ u).setCell ⟨g, 1, none⟩ v) ∨ True := .inr trivial
  have e1 : ((w.setCell ⟨g, 0, none⟩ u).setCell ⟨g, 1, none⟩ v).heap[k]? = w.heap[k]? := (Below.heap_setCell _ ⟨g, 1, none⟩ v k hne).trans (Below.heap_setCell w ⟨g, 0, none⟩ u k hne)
  rw [← h]
  unfold World.cell?
  simp only [e1]
end Go.Proofs.Ytnndhkdigmkddaa
