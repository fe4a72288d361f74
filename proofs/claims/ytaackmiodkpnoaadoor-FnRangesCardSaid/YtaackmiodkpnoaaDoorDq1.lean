/- What the laws draw from a code, where ranges are drawn. No conditions. -/
import Derived.Test.YtaackmiodkpnoaaDoorDr0
namespace Go.Proofs.YtaackmiodkpnoaaDoor
open Go.ChangeShapes Go.WideShapes Go.ChangeAt Go.RowKit Go.Sort RM
set_option linter.unusedVariables false
set_option linter.unusedSimpArgs false
def ints (l : List Int) : List Value := l.map (fun x => .int .i64 x)
theorem ints_get (l : List Int) (k : Nat) (h : k < l.length) : (ints l)[k]? = some (.int .i64 (l.getD k 0)) := by
  simp [ints, List.getElem?_eq_getElem h, List.getD_eq_getElem?_getD]
theorem Rd.int {w : World} {B : Nat} {A : Option Addr} {l : List Int} (h : Rd w B A (ints l)) {k : Nat} (hk : k < l.length) : ∃ b off x, A = some ⟨b, off, none⟩ ∧ b < B ∧ Hid (l.getD k 0 = x) ∧ w.cell? ⟨b, off + k, none⟩ = some (.int .i64 x) := by
  obtain ⟨b, off, e, hb, hc⟩ := h k _ (ints_get l k hk)
  exact ⟨b, off, _, e, hb, Lib.hid rfl, hc⟩
theorem DrawI.weak {w : World} {g : Nat} {P Q : Int → Prop} {e : Ending} {w' : World} (h : DrawI w g P e w') (hpq : ∀ x, P x → Q x) : DrawI w g Q e w' := by
  obtain ⟨⟨x, hx, he⟩, r⟩ := h
  exact ⟨⟨x, hpq x hx, he⟩, r⟩
theorem Rd.grown {w w' : World} {B : Nat} {A : Option Addr} {xs : List Value} {g : Nat} (h : Rd w B A xs) (hg : w.grownBy w' (some g)) (hne : ∀ b o, A = some ⟨b, o, none⟩ → b ≠ g) : Rd w' B A xs := fun j u hu => by
  obtain ⟨b, off, e, hlt, hc⟩ := h j u hu
  exact ⟨b, off, e, hlt, hg.cell hc (fun e' => by injection e' with e'; exact hne b off e e')⟩
theorem lit_rd (w : World) (T : TypeId) (xs : List Value) : Rd (w.alloc (.cells xs.toArray T)) (w.heap.size + 1) (some ⟨w.heap.size, 0, none⟩) xs := fun j u hu =>
  ⟨w.heap.size, 0, rfl, Nat.lt_succ_self _, by rw [Nat.zero_add]; have hk : Bk (w.alloc (.cells xs.toArray T)) w.heap.size T xs.toArray := heap_alloc_new w _; exact (hk.cell j).trans (by simpa using hu)⟩
theorem l1PickInt_any {w : World} {g B : Nat} {A : Option Addr} {c n : Nat} {L : List Int} (hr : Rd w B A (ints L)) (hne : ∀ b o, A = some ⟨b, o, none⟩ → b ≠ g) (hl : L.length = n) (h0 : 0 < n) (h1 : n ≤ 256) (hc : Cur w g) :
    Calls Tryd.prog 46 #[.pointer (some ⟨g, 0, none⟩), .slice A n c] w (DrawI w g fun x => x ∈ L) := by
  go_enter Tryd.func46, Tryd.ntmps46
  go_wp2_with fail
  refine (l1Below_any n h0 h1 hc).mono ?_
  rintro e w1 ⟨⟨x, ⟨hx0, hx1⟩, rfl⟩, hc1, hg1⟩
  obtain ⟨k, rfl⟩ := Int.eq_ofNat_of_zero_le hx0
  have hk : k < n := by omega
  have hr1 := hr.grown hg1 hne
  obtain ⟨b, off, x, rfl, hb, HX, c0⟩ := hr1.int (k := k) (by rw [hl]; exact hk)
  have hmem : x ∈ L := by
    have := HX.out
    rw [List.getD_eq_getElem?_getD, List.getElem?_eq_getElem (by rw [hl]; exact hk), Option.getD_some] at this
    rw [← this]; exact List.getElem_mem _
  clear hr hr1 HX
  go_wp2
  go_ret
  exact ⟨⟨x, hmem, rfl⟩, hc1, hg1⟩
/-- Whatever is drawn from a code: a value with the property P; memory grows. -/
def Drawn (w : World) (P : Value → Prop) (e : Ending) (w' : World) : Prop := ∃ v, e = .returned v ∧ P v ∧ Below w.heap.size w w'
def Sm (x : Int) : Prop := -1 ≤ x ∧ x ≤ 4611686018427387904
def SmR (l : List R) : Prop := ∀ k, k < l.length → Sm (l.getD k (0, 0)).1 ∧ Sm (l.getD k (0, 0)).2
theorem SmR.nil : SmR [] := fun k hk => by simp at hk
theorem SmR.addR {l : List R} {x y : Int} (h : SmR l) : SmR (addR l (x, y)) := by
  by_cases hi : isRs l = true
  · intro k hk
    have := isRs_get (addR_is (r := (x, y)) hi) k hk
    rw [List.getD_eq_getElem?_getD, List.getElem?_eq_getElem hk, Option.getD_some]
    exact ⟨⟨by omega, by omega⟩, ⟨by omega, by omega⟩⟩
  · have : RM.addR l (x, y) = l := by unfold RM.addR; rw [if_neg (by simp [hi])]
    rw [this]; exact h
theorem SmR.snoc {l : List R} {x y : Int} (h : SmR l) (hx : Sm x) (hy : Sm y) : SmR (l ++ [(x, y)]) := by
  intro k hk
  by_cases hk2 : k < l.length
  · rw [List.getD_eq_getElem?_getD, List.getElem?_append_left hk2, ← List.getD_eq_getElem?_getD]; exact h k hk2
  · obtain rfl : k = l.length := by simp at hk; omega
    simpa using ⟨hx, hy⟩
/-- A range is drawn; block g alone was written. -/
def DrawRg (w : World) (g : Nat) (e : Ending) (w' : World) : Prop := (∃ x y : Int, (Sm x ∧ Sm y) ∧ e = .returned (.agg #[.int .i64 x, .int .i64 y])) ∧ Cur w' g ∧ w.grownBy w' (some g)
/-- A slice of ranges is drawn. -/
def DrawRs (w : World) (g m : Nat) (e : Ending) (w' : World) : Prop := ∃ A c L, e = .returned (.slice A (L : List R).length c) ∧ L.length ≤ m ∧ SmR L ∧ w'.ownsRow w.heap.size 32 2 (.slice A L.length c) L.length (encR L) ∧ Cur w' g ∧ w.grownBy w' (some g)
theorem results_rng1 {fn : Func} {p : Tmp} (h : fn.results = #[.cell p 32]) (tmps : Array Value) (w : World) (g : Nat) (cs : Array Value)
    (hp : tmps.getD p undef = .pointer (some ⟨g, 0, none⟩)) (hg : Bk w g 32 cs) (hs : cs.size = 2) :
    (results fn tmps).run Tryd.prog w = .ok (.agg cs) w := by
  have hp' : tmps[p]?.getD undef = .pointer (some ⟨g, 0, none⟩) := by simpa using hp
  have hl := run_loadVar_row (P := Tryd.prog) w g 32 32 cs (0, 0) _ hg Tryd.underlying32 rfl (by rw [hs]; kernel_rfl)
  simp [results, h, hp', asAddr, hl]
end Go.Proofs.YtaackmiodkpnoaaDoor
