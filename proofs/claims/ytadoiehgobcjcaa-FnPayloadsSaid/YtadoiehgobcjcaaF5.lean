/- EncodeFrame: plain laws of the joined forms. No conditions. -/
import Derived.Test.YtadoiehgobcjcaaF4
import Derived.Deep.RegionHeld3
namespace Go.Proofs.Ytadoiehgobcjcaa
open Go.ChangeShapes Go.WideShapes Go.ChangeAt Go.RowKit Go.Sort QM
set_option linter.unusedVariables false
set_option linter.unusedSimpArgs false
theorem foldl_encI (l : List Int) : ∀ s : ByteArray, l.foldl (fun s x => s ++ encI x) s = s ++ l.foldl (fun s x => s ++ encI x) ⟨#[]⟩ := by
  induction l with
  | nil => intro s; apply ByteArray.ext; simp
  | cons x l ih =>
    intro s
    simp only [List.foldl_cons]
    rw [ih (s ++ encI x), ih ((⟨#[]⟩ : ByteArray) ++ encI x)]
    apply ByteArray.ext
    simp
def jnL (l : List Int) : ByteArray := l.foldl (fun s x => s ++ encI x) ⟨#[]⟩
theorem encL_all {l : List Int} (h : l.all qB = true) : encL l = jnL l := by
  unfold encL jnL jnF
  rw [h, if_pos rfl, List.take_length]
theorem jnL_cons (x : Int) (l : List Int) : jnL (x :: l) = encI x ++ jnL l := by
  unfold jnL
  simp only [List.foldl_cons]
  rw [foldl_encI]
  apply ByteArray.ext
  simp
theorem jnL_one (x : Int) : jnL [x] = encI x := by
  rw [jnL_cons]
  apply ByteArray.ext
  simp [jnL]
theorem encL_cons {x : Int} {l : List Int} (hx : qB x = true) (h : l.all qB = true) : encL (x :: l) = encI x ++ encL l := by
  rw [encL_all (l := x :: l) (by simp [hx, h]), encL_all h, jnL_cons]
theorem encL_one {x : Int} (hx : qB x = true) : encL [x] = encI x := by
  rw [encL_all (by simp [hx]), jnL_one]
theorem encI_small (k : Nat) (h : k < 64) : encI (k : Int) = one1 k := by
  have hq : qB (k : Int) = true := qB_in (by omega) (by omega)
  have hs : sizeQ k = 1 := by simp [sizeQ, h]
  unfold encI encB one1
  rw [hq, if_pos rfl, Int.toNat_natCast]
  unfold encQ
  rw [hs]
  simp [tag, be]
theorem encL_size (l : List Int) : (encL l).size ≤ 8 * l.length := by
  unfold encL
  split
  · exact jnF_size l l.length (Nat.le_refl _)
  · exact Nat.zero_le _
/-- A new block of numbers reads as their list. -/
theorem rd_new (w : World) (l : List Int) : Rd (w.alloc (.cells (ints l).toArray 3)) (w.alloc (.cells (ints l).toArray 3)).heap.size (some ⟨w.heap.size, 0, none⟩) (ints l) := by
  intro j x hj
  refine ⟨w.heap.size, 0, rfl, by simp, ?_⟩
  have h : Bk (w.alloc (.cells (ints l).toArray 3)) w.heap.size 3 (ints l).toArray := heap_alloc_new w _
  rw [Nat.zero_add, h.cell]
  simpa using hj
theorem sEncs_at {A : Option Addr} {c n B : Nat} {w : World} (l : List Int) (hB : B ≤ w.heap.size) (hr : Rd w B A (ints l)) (hn : n = l.length) (hm : n ≤ 1048576) :
    Calls Try.prog 21 #[.slice A n c] w fun e w' => e = .returned (.string (encL l)) ∧ Below w.heap.size w w' := sEncs hB hr hm hn.symm
theorem iEncs_at {A : Option Addr} {c n B : Nat} {w : World} (l : List Int) (hB : B ≤ w.heap.size) (hr : Rd w B A (ints l)) (hn : n = l.length) (hm : n ≤ 1048576) :
    Calls Try.prog 16 #[.slice A n c] w fun e w' => e = .returned (.string (encL l)) ∧ Below w.heap.size w w' := iEncs hB hr hm hn.symm

theorem Rd.drew {w : World} {B : Nat} {A : Option Addr} {xs : List Value} (h : Rd w B A xs) : Rd w.drew B A xs := fun j u hu => h j u hu
@[reducible] def Nine (w : World) (x0 x1 x2 x3 x4 x5 x6 x7 x8 : Value) (w' : World) : Prop := Below w.heap.size w w' ∧ w.heap.size < w'.heap.size ∧ w'.cell? ⟨w.heap.size, 0, none⟩ = some (x0) ∧ w'.cell? ⟨w.heap.size, 1, none⟩ = some (x1) ∧ w'.cell? ⟨w.heap.size, 2, none⟩ = some (x2) ∧ w'.cell? ⟨w.heap.size, 3, none⟩ = some (x3) ∧ w'.cell? ⟨w.heap.size, 4, none⟩ = some (x4) ∧ w'.cell? ⟨w.heap.size, 5, none⟩ = some (x5) ∧ w'.cell? ⟨w.heap.size, 6, none⟩ = some (x6) ∧ w'.cell? ⟨w.heap.size, 7, none⟩ = some (x7) ∧ w'.cell? ⟨w.heap.size, 8, none⟩ = some (x8)
theorem nine_start {w w1 : World} {T : TypeId} {x0 x1 x2 x3 x4 x5 x6 x7 x8 : Value} (hb : Below w.heap.size w w1) (hk : Bk w1 w.heap.size T #[x0, x1, x2, x3, x4, x5, x6, x7, x8]) : Nine w x0 x1 x2 x3 x4 x5 x6 x7 x8 w1.drew := by
  obtain ⟨c0, c1, c2, c3, c4, c5, c6, c7, c8⟩ := hk.nine
  exact ⟨hb.drew, hk.lt, c0, c1, c2, c3, c4, c5, c6, c7, c8⟩
theorem nine_below {w W W' : World} {x0 x1 x2 x3 x4 x5 x6 x7 x8 : Value} (h : Nine w x0 x1 x2 x3 x4 x5 x6 x7 x8 W) (hb : Below W.heap.size W W') : Nine w x0 x1 x2 x3 x4 x5 x6 x7 x8 W' := by
  obtain ⟨h0, h1, c0, c1, c2, c3, c4, c5, c6, c7, c8⟩ := h
  exact ⟨below_next h0 h0.size hb, Nat.lt_of_lt_of_le h1 hb.size, (hb.cell h1).trans c0, (hb.cell h1).trans c1, (hb.cell h1).trans c2, (hb.cell h1).trans c3, (hb.cell h1).trans c4, (hb.cell h1).trans c5, (hb.cell h1).trans c6, (hb.cell h1).trans c7, (hb.cell h1).trans c8⟩
theorem nine_alloc {w W : World} {x0 x1 x2 x3 x4 x5 x6 x7 x8 : Value} (h : Nine w x0 x1 x2 x3 x4 x5 x6 x7 x8 W) (o : Obj) : Nine w x0 x1 x2 x3 x4 x5 x6 x7 x8 (W.alloc o) := nine_below h ((Below.refl _ _).alloc (Nat.le_refl _) _)
theorem iKindF (n : Int) (k : Nat) (hn : n = (k : Int)) (hk : k < 256) (w : World) : Calls Try.prog 56 #[.int .i64 n] w fun e w' => e = .returned (.string (one1 k)) ∧ Below w.heap.size w w' := by
  subst hn
  have hc := conv1 w (k : Int) k rfl hk
  go_enter Try.func56, Try.ntmps56
  go_wp2
  go_ret
  exact ⟨rfl, (Below.refl _ _).alloc (Nat.le_refl _) _⟩
theorem iOne (b : Bool) (w : World) : Calls Try.prog 57 #[.bool b] w fun e w' => e = .returned (.int .i64 (if b then 1 else 0)) ∧ w = w' := by
  cases b
  all_goals go_enter Try.func57, Try.ntmps57
  all_goals go_wp2
  all_goals go_ret
  all_goals exact ⟨rfl, rfl⟩
end Go.Proofs.Ytadoiehgobcjcaa
