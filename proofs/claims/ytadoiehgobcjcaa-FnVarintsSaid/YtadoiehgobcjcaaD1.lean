/- What the laws draw from a code: numbers out of a list, stream identities. No conditions. -/
import Derived.Test.YtadoiehgobcjcaaD0
namespace Go.Proofs.Ytadoiehgobcjcaa
open Go.ChangeShapes Go.WideShapes Go.ChangeAt Go.RowKit Go.Sort
set_option linter.unusedVariables false
set_option linter.unusedSimpArgs false
theorem DrawI.weak {w : World} {g : Nat} {P Q : Int → Prop} {e : Ending} {w' : World} (h : DrawI w g P e w') (hpq : ∀ x, P x → Q x) : DrawI w g Q e w' := by
  obtain ⟨⟨x, hx, he⟩, r⟩ := h
  exact ⟨⟨x, hpq x hx, he⟩, r⟩
theorem Rd.grown {w w' : World} {B : Nat} {A : Option Addr} {xs : List Value} {g : Nat} (h : Rd w B A xs) (hg : w.grownBy w' (some g)) (hne : ∀ b o, A = some ⟨b, o, none⟩ → b ≠ g) : Rd w' B A xs := fun j u hu => by
  obtain ⟨b, off, e, hlt, hc⟩ := h j u hu
  exact ⟨b, off, e, hlt, hg.cell hc (fun e' => by injection e' with e'; exact hne b off e e')⟩
theorem lit_rd (w : World) (T : TypeId) (xs : List Value) : Rd (w.alloc (.cells xs.toArray T)) (w.heap.size + 1) (some ⟨w.heap.size, 0, none⟩) xs := fun j u hu =>
  ⟨w.heap.size, 0, rfl, Nat.lt_succ_self _, by rw [Nat.zero_add]; have hk : Bk (w.alloc (.cells xs.toArray T)) w.heap.size T xs.toArray := heap_alloc_new w _; exact (hk.cell j).trans (by simpa using hu)⟩
theorem l1PickInt_any {w : World} {g B : Nat} {A : Option Addr} {c n : Nat} {L : List Int} (hr : Rd w B A (ints L)) (hne : ∀ b o, A = some ⟨b, o, none⟩ → b ≠ g) (hl : L.length = n) (h0 : 0 < n) (h1 : n ≤ 256) (hc : Cur w g) :
    Calls Try.prog 68 #[.pointer (some ⟨g, 0, none⟩), .slice A n c] w (DrawI w g fun x => x ∈ L) := by
  go_enter Try.func68, Try.ntmps68
  go_wp2_with fail
  refine (l1Below_any n h0 h1 hc).mono ?_
  rintro e w1 ⟨⟨x, ⟨hx0, hx1⟩, rfl⟩, hc1, hg1⟩
  obtain ⟨k, rfl⟩ := Int.eq_ofNat_of_zero_le hx0
  have hk : k < n := by omega
  have hr1 := hr.grown hg1 hne
  obtain ⟨b, off, x, rfl, hb, HX, c0⟩ := hr1.int (k := k) (by rw [hl]; exact hk)
  have hmem : x ∈ L := by
    have := HX.out
    rw [List.getD_eq_getElem?_getD, List.getElem?_eq_getElem (by rw [hl]; exact hk), Option.getD_some] at this
    rw [← this]; exact List.getElem_mem _
  clear hr hr1 HX
  go_wp2
  go_ret
  exact ⟨⟨x, hmem, rfl⟩, hc1, hg1⟩
/-- Whatever is drawn from a code: a value with the property P; memory grows. -/
def Drawn (w : World) (P : Value → Prop) (e : Ending) (w' : World) : Prop := ∃ v, e = .returned v ∧ P v ∧ Below w.heap.size w w'
end Go.Proofs.Ytadoiehgobcjcaa
