/- The library's sort at chunks that are sorted already: nothing is turned. No conditions. -/
import Derived.Test.YtnndhkdigmkddaaI2
import Derived.Test.YtnndhkdigmkddaaShelf
import Derived.Shelf.SlSortCmp.WholeK
namespace Go.Proofs.Ytnndhkdigmkddaa
open Go.ChangeShapes Go.WideShapes Go.ChangeAt Go.RowKit Go.Sort Go.Shelf
set_option linter.unusedVariables false
set_option linter.unusedSimpArgs false
/-- A chunk that begins within the range of offsets. -/
abbrev SC : Type := {c : Ck // 0 ≤ c.1 ∧ c.1 ≤ 4611686018427387904}
def sc0 : SC := ⟨ck0, by decide, by decide⟩
instance : Inhabited SC := ⟨sc0⟩
def encS (x : SC) : List Value := [.int .i64 x.1.1, .string x.1.2]
def cmpS (x y : SC) : Int := x.1.1 - y.1.1
theorem ltS (x y : SC) : ltOf cmpS x y = decide (x.1.1 < y.1.1) := by
  unfold ltOf cmpS
  by_cases h : x.1.1 < y.1.1
  · simp [h]; omega
  · simp [h]; omega
theorem swoS : SWO (ltOf cmpS) := {
  irrefl := fun x => by rw [ltS]; simp
  trans := fun x y z h1 h2 => by rw [ltS] at *; simp at *; omega
  ntrans := fun x y z h1 h2 => by rw [ltS] at *; simp at *; omega }
theorem cmpClo (x y : SC) (W : World) : Calls Try.prog 36 #[.agg #[.int .i64 x.1.1, .string x.1.2], .agg #[.int .i64 y.1.1, .string y.1.2]] W fun e w' => e = .returned (.int .i64 (cmpS x y)) ∧ ∃ q os', w' = grow (W.drewN q) os' := by
  obtain ⟨⟨a, s⟩, ha0, ha1⟩ := x
  obtain ⟨⟨b, t⟩, hb0, hb1⟩ := y
  simp only at ha0 ha1 hb0 hb1
  have hw : IntKind.i64.wrap (a - b) = a - b := IntWalk.i64_in _ (by omega)
  unfold cmpS
  simp only
  go_enter Try.func36, Try.ntmps36
  go_wp2
  go_ret
  exact ⟨rfl, 0, _, by rw [alloc_eq_grow, alloc_eq_grow, grow_grow]; rfl⟩
theorem cmpLaysS (blk off size : Nat) (w : World) : CmpLays Try.prog 36 #[] encS 2 cmpS blk off size w :=
  fun _ _ _ _ x y => cmpClo x y _
/-- Two lists of the same elements, one strictly ascending, one ascending, are one. -/
theorem sorted_uniq {α : Type} (f : α → Int) : ∀ {l m : List α}, l.Pairwise (fun a b => f a < f b) → m.Pairwise (fun a b => f a ≤ f b) → m.Perm l → m = l := by
  intro l
  induction l with
  | nil => intro m _ _ h; exact h.eq_nil
  | cons a l ih =>
    intro m hl hm hp
    cases m with
    | nil => exact absurd hp.symm.eq_nil (by simp)
    | cons b m =>
      have hl' := List.pairwise_cons.1 hl
      have hm' := List.pairwise_cons.1 hm
      have hb : b ∈ a :: l := hp.subset List.mem_cons_self
      have ha : a ∈ b :: m := hp.symm.subset List.mem_cons_self
      have hab : b = a := by
        rcases List.mem_cons.1 hb with h | h
        · exact h
        · have h1 := hl'.1 b h
          rcases List.mem_cons.1 ha with h2 | h2
          · exact h2.symm
          · have := hm'.1 a h2; omega
      subst hab
      rw [ih hl'.2 hm'.2 (List.Perm.cons_inv hp)]
theorem below_grown_ahead (w : World) (n : Nat) (os : Array Obj) : RowKit.Below w.heap.size w (grow (Sort.ahead w n) os) :=
  ⟨rfl, rfl, rfl, by show w.heap.size ≤ (w.heap ++ os).size; simp, fun k hk => by
    show (w.heap ++ os)[k]? = w.heap[k]?
    rw [Array.getElem?_append_left hk]⟩
theorem isAggC : ∀ w, (isAgg 46).run Try.prog w = .ok true w := Try.isAgg46
theorem sizeOfC : ∀ w, (Go.sizeOf 46).run Try.prog w = .ok 2 w := Try.sizeOf46
set_option maxHeartbeats 1000000 in
theorem iSort {w : World} {base b n cap : Nat} {L : List Ck} (hown : w.ownsRow base 46 2 (.slice (some ⟨b, 0, none⟩) n cap) n (encC L)) (hL : L.length = n) (hgood : ∀ c ∈ L, 0 ≤ c.1 ∧ c.1 ≤ 4611686018427387904) (hsort : L.Pairwise (fun x y => x.1 < y.1)) (hn : n < 4611686018427387904) :
    Calls Try.prog 35 #[.slice (some ⟨b, 0, none⟩) n cap, .func (.func 36) #[] #[]] w fun e w' => e = .returned (.tuple #[]) ∧ RowKit.Below w.heap.size w w' := by
  obtain ⟨D, hD, hDl⟩ : ∃ D : List SC, D.map (fun x => x.1) = L ∧ D.length = n := ⟨L.attach.map fun c => ⟨c.1, hgood c.1 c.2⟩, by rw [List.map_map]; exact List.attach_map_subtype_val L, by simpa using hL⟩
  have hsz : D.toArray.size = n := by simpa using hDl
  have hget : ∀ k, k < n → D.toArray[k]! = D.getD k sc0 ∧ (D.getD k sc0).1 = L.getD k ck0 := by
    intro k hk
    have hk' : k < D.length := by omega
    refine ⟨?_, ?_⟩
    · rw [getElem!_pos D.toArray k (by simpa using hk'), List.getD_eq_getElem?_getD, List.getElem?_eq_getElem hk', Option.getD_some]; simp
    · have hkL : k < L.length := by omega
      rw [List.getD_eq_getElem?_getD, List.getElem?_eq_getElem hk', Option.getD_some, List.getD_eq_getElem?_getD, List.getElem?_eq_getElem hkL, Option.getD_some]
      simp only [← hD, List.getElem_map]
  obtain ⟨cur, hbk⟩ : ∃ cur, Bk w b 46 cur := by
    rcases hown.2 with ⟨hv, _⟩ | ⟨g, cap', cur, hv, _, hg, _⟩
    · cases hv
    · injection hv with e1 e2 e3
      injection e1 with e1
      injection e1 with e1
      subst e1
      exact ⟨cur, hg⟩
  have hH : HoldsK encS 2 w b 0 D.toArray := by
    intro j hj
    rw [size_flatK, hsz] at hj
    have hk : j / 2 < n := by omega
    obtain ⟨g1, g2⟩ := hget _ hk
    have hkL : j / 2 < L.length := by omega
    refine ⟨?_, hbk.frozen _⟩
    rw [get_flatK _ _ _ _ (by rw [hsz]; exact hj), g1]
    have hadd : (⟨b, 0, none⟩ : Addr).add j = ⟨b, 0 + j, none⟩ := by unfold Addr.add; split <;> simp_all
    rw [← hadd]
    refine hown.cells (g := b) rfl j _ ?_
    rcases (show j % 2 = 0 ∨ j % 2 = 1 by omega) with h2 | h2
    · have e : j = 2 * (j / 2) := by omega
      have := encC_lo L (j / 2) hkL
      rw [h2]
      rw [← e] at this
      rw [this, ← g2]
      rfl
    · have e : j = 2 * (j / 2) + 1 := by omega
      have := encC_hi L (j / 2) hkL
      rw [h2]
      rw [← e] at this
      rw [this, ← g2]
      rfl
  have eg : ∀ args w, (callFunc 36 args).run Try.prog w = .ok (.enter 36 args) w := enters_of Try.func36 (by kernel_rfl) rfl
  have hcon := AnyQ.slices_SortFunc Try.sortCk 2 isAggC sizeOfC encS (fun _ => rfl) (fun x v hv => by simp [encS] at hv; rcases hv with rfl | rfl <;> rfl) cmpS swoS 36 #[] b 0 cap D.toArray w eg (cmpLaysS b 0 D.toArray.size w) hH hbk.lt (by rw [hsz]; exact hn)
  change Calls Try.prog 35 _ _ _ at hcon
  rw [hsz] at hcon
  refine hcon.mono ?_
  rintro e w' ⟨rfl, d', m, os, hp, hs, rfl⟩
  refine ⟨rfl, ?_⟩
  have hd : d' = D.toArray := by
    obtain ⟨p1, _, p3⟩ := hp
    have e1 : d'.extract 0 n = d' := by rw [← hsz, ← p1]; exact Array.extract_size
    have e2 : D.toArray.extract 0 n = D.toArray := by rw [← hsz]; exact Array.extract_size
    rw [e1, e2] at p3
    have hd's : d'.size = n := by rw [p1, hsz]
    have q1 : D.Pairwise (fun a b => a.1.1 < b.1.1) := by
      have h0 : (D.map fun x => x.1).Pairwise (fun x y : Ck => x.1 < y.1) := by rw [hD]; exact hsort
      exact (List.pairwise_map (f := fun x : SC => x.1) (R := fun x y : Ck => x.1 < y.1)).1 h0
    have q2 : d'.toList.Pairwise (fun a b => a.1.1 ≤ b.1.1) := by
      rw [List.pairwise_iff_getElem]
      intro i j hi hj hij
      have hi' : i < d'.size := by simpa using hi
      have hj' : j < d'.size := by simpa using hj
      have := hs i j (Nat.zero_le _) hij (by omega)
      rw [ltS, getElem!_pos d' j hj', getElem!_pos d' i hi'] at this
      simp only [Array.getElem_toList]
      simp at this
      exact this
    have := sorted_uniq (fun x : SC => x.1.1) q1 q2 p3
    have h3 : d'.toList.toArray = D.toArray := by rw [this]
    simpa using h3
  subst hd
  have : sortWorldK encS 2 w b 0 m D.toArray os = grow (Sort.ahead w m) os := by
    unfold sortWorldK
    rw [putRowK_self _ _ _ _ _ _ (holdsK_ahead encS 2 w m b 0 _ hH)]
  rw [this]
  exact below_grown_ahead w m os
end Go.Proofs.Ytnndhkdigmkddaa
