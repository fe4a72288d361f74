/- DecodeQuics: its contracts. No conditions. -/
import Derived.Test.YtadoiehgobcjcaaQL
import Derived.Test.YtadoiehgobcjcaaQ5
import Derived.Deep.LoopGhost
namespace Go.Proofs.Ytadoiehgobcjcaa
open Go.ChangeShapes Go.WideShapes Go.ChangeAt Go.RowKit Go.Sort QM
set_option linter.unusedVariables false
set_option linter.unusedSimpArgs false
theorem own_empty (w : World) (base : Nat) (T : TypeId) (size : Nat) (hb : base ≤ w.heap.size) : (w.alloc (.cells #[] T)).ownsRow base T size (.slice (some ⟨w.heap.size, 0, none⟩) 0 0) 0 [] :=
  World.ownsRow_made w #[] 0 hb (by unfold maxLen; omega) (by simp)
theorem news1 {w : World} {g : Nat} {T : TypeId} (u : Value) (hg : g = w.heap.size) : ∀ (j : Nat) (x : Value), [u][j]? = some x → (w.alloc (.cells #[u] T)).cell? ((⟨g, 0, none⟩ : Addr).add j) = some x := by
  subst hg
  intro j x hj
  match j, hj with
  | 0, hj => simp at hj; subst hj; simp [Addr.add, go_sem]
  | j + 1, hj => simp at hj
theorem one_1 (a : Int) : ∀ u ∈ [Value.int .i64 a], u.oneCell' = true := by intro u hu; simp at hu; subst hu; rfl
/-- All forms from place p on. -/
def decF (s : ByteArray) : Nat → Nat → Option (List Int)
  | 0, p => if s.size ≤ p then some [] else none
  | f + 1, p => if s.size ≤ p then some [] else match dq s p with
    | none => none
    | some (n, k) => (decF s f (p + k)).map ((n : Int) :: ·)
def decAll (s : ByteArray) : Option (List Int) := decF s s.size 0
def decL (s : ByteArray) : List Int := (decAll s).getD []
def decB (s : ByteArray) : Bool := (decAll s).isSome
theorem decF_end {s : ByteArray} {f p : Nat} (h : s.size ≤ p) : decF s f p = some [] := by cases f <;> simp [decF, h]
/-- Where the loop stands: at place p, with the numbers L read. -/
def DecAt (s : ByteArray) (p : Nat) (L : List Int) : Prop := L.length ≤ p ∧ p ≤ s.size ∧ ∃ f, s.size ≤ p + f ∧ decAll s = (decF s f p).map (L ++ ·)
theorem DecAt.start (s : ByteArray) : DecAt s 0 [] := ⟨Nat.le_refl _, Nat.zero_le _, s.size, by omega, by simp [decAll]⟩
theorem DecAt.next {s : ByteArray} {p n k : Nat} {L : List Int} (h : DecAt s p L) (hp : p < s.size) (hd : dq s p = some (n, k)) (h1 : 1 ≤ k) (h2 : p + k ≤ s.size) : DecAt s (p + k) (L ++ [(n : Int)]) := by
  obtain ⟨hl, _, f, hf, e⟩ := h
  refine ⟨by simp; omega, h2, ?_⟩
  cases f with
  | zero => omega
  | succ f =>
    refine ⟨f, by omega, ?_⟩
    rw [e]
    simp only [decF]
    rw [if_neg (by omega), hd]
    show Option.map (L ++ ·) (Option.map ((n : Int) :: ·) (decF s f (p + k))) = Option.map ((L ++ [(n : Int)]) ++ ·) (decF s f (p + k))
    generalize decF s f (p + k) = o
    cases o <;> simp
theorem DecAt.fail {s : ByteArray} {p : Nat} {L : List Int} (h : DecAt s p L) (hp : p < s.size) (hd : dq s p = none) : decL s = [] ∧ decB s = false := by
  obtain ⟨hl, _, f, hf, e⟩ := h
  cases f with
  | zero => omega
  | succ f =>
    simp only [decF] at e
    rw [if_neg (by omega), hd] at e
    simp at e
    simp [decL, decB, e]
theorem DecAt.done {s : ByteArray} {p : Nat} {L : List Int} (h : DecAt s p L) (hp : s.size ≤ p) : decL s = L ∧ decB s = true := by
  obtain ⟨hl, _, f, hf, e⟩ := h
  rw [decF_end hp] at e
  simp at e
  simp [decL, decB, e]
theorem dq_two (s : ByteArray) (p : Int) : (dq s p = none ∧ dqV (dq s p) p = .tuple #[.int .i64 0, .int .i64 0, .bool false]) ∨ ∃ n k : Nat, dq s p = some (n, k) ∧ dqV (dq s p) p = .tuple #[.int .i64 n, .int .i64 (p + k), .bool true] ∧ n ≤ 4611686018427387903 ∧ 1 ≤ k ∧ k ≤ 8 ∧ p + k ≤ s.size := by
  rcases dq_cases s p with ⟨hv, _⟩ | ⟨n, k, ⟨hv, _⟩, h1, h2, h3, h4, h5⟩
  · left
    cases h : dq s p with
    | none => exact ⟨rfl, rfl⟩
    | some x => obtain ⟨a, b⟩ := x; rw [h] at hv; simp [dqV] at hv
  · right
    cases h : dq s p with
    | none => rw [h] at hv; simp [dqV] at hv
    | some x =>
      obtain ⟨a, b⟩ := x
      rw [h] at hv
      simp only [dqV] at hv
      injection hv with hv
      injection hv with hv
      simp only [List.cons.injEq, Value.int.injEq, true_and, and_true] at hv
      obtain ⟨e1, e2⟩ := hv
      refine ⟨a, b, rfl, rfl, by omega, by omega, by omega, by omega⟩
/-- What DecodeQuics hands back. -/
def OutD (w : World) (s : ByteArray) (e : Ending) (w' : World) : Prop := ∃ A c, e = .returned (.tuple #[.slice A (decL s).length c, .bool (decB s)]) ∧ Below w.heap.size w w' ∧ w'.ownsRow w.heap.size 3 1 (.slice A (decL s).length c) (decL s).length (ints (decL s))
theorem OutD.of_own {w w' : World} {s : ByteArray} {L : List Int} {b : Bool} {v : Value} {n : Nat} (hb : Below w.heap.size w w') (h : w'.ownsRow w.heap.size 3 1 v n (ints L)) (hn : n = L.length) (hL : decL s = L ∧ decB s = b) : OutD w s (.returned (.tuple #[v, .bool b])) w' := by
  obtain ⟨A, c, rfl, _, _⟩ := Rd.of_own h
  obtain ⟨rfl, rfl⟩ := hL
  subst hn
  exact ⟨A, c, rfl, hb, h⟩
theorem ints_snoc (L : List Int) (x : Int) : ints (L ++ [x]) = ints L ++ [.int .i64 x] := by simp [ints]
set_option maxHeartbeats 2000000 in
theorem sDecs (s : ByteArray) (hs : s.size ≤ 1048576) (w : World) : Calls Try.prog 20 #[.string s] w (OutD w s) := by
  obtain ⟨i0, hi, hz0, hz1, hz2⟩ := info_parts info_int
  have HW := Lib.hid (own_empty w w.heap.size 3 1 (Nat.le_refl _))
  have HB := Lib.hid (show Below w.heap.size w (w.alloc (.cells #[] 3)) from (Below.refl _ _).alloc (Nat.le_refl _) _)
  go_enter Try.func20, Try.ntmps20
  go_wp2
  generalize w.alloc (.cells #[] 3) = w1 at HW HB ⊢
  go_loopw [4, 5] (fun v a wr => ∃ (p : Nat) (L : List Int), a = .int .i64 p ∧ DecAt s p L ∧ wr.ownsRow w.heap.size 3 1 v L.length (ints L) ∧ Below w.heap.size w wr) (fun v a _ => s.size - (intOf a).toNat)
  case atStart => exact ⟨0, [], rfl, DecAt.start s, HW.out, HB.out⟩
  case round =>
    obtain ⟨p, L, rfl, hd, ho, hbw⟩ := hrel
    clear HW HB
    have hlp := hd.1
    have HD := Lib.hid hd; clear hd
    by_cases hlt : p < s.size
    · rcases dq_two s p with ⟨hn, hv⟩ | ⟨n, k, hn, hv, hn4, hk1, hk8, hpk⟩
      · have HN := Lib.hid (HD.out.fail hlt hn); clear hn
        have HO := Lib.hid ho; clear ho
        go_wp2_with (first | (go_at_call 14; refine (sDQ _ _ _ hs).mono ?_; rintro e w' ⟨rfl, rfl⟩; rw [hv]))
        go_ret2
        exact OutD.of_own (hbw.alloc hbw.size _) (own_empty wr _ _ _ hbw.size) rfl HN.out
      · have HN := Lib.hid (HD.out.next hlt hn hk1 (by omega)); clear hn
        have hsz := hbw.size
        have HO := Lib.hid ho; clear ho
        go_wp2_with (first | (go_at_call 14; refine (sDQ _ _ _ hs).mono ?_; rintro e w' ⟨rfl, rfl⟩; rw [hv]) | (at_builtin; refine wpList_append_own _ rfl _ _ 32 rfl w.heap.size 3 i0 (.int .i64 0) 1 8 Try.underlying32 hi hz0 hz1 hz2 rfl (by decide) _ _ _ rfl (HO.out.alloc _) ⟨wr.heap.size, 0, none⟩ 1 1 [.int .i64 (n : Int)] rfl rfl (news1 _ (by simp)) (one_1 _) (by unfold maxLen; omega) (by omega) (by simp; omega) ?_))
        intro v' w1 hown1 hgrow _
        have hb2 : Below w.heap.size w w1 := (hbw.alloc hsz (.cells #[.int .i64 (n : Int)] 3)).grown hgrow (by simp; omega) (fun k hk => (HO.out.lt k hk).1)
        have HO1 := Lib.hid (show w1.ownsRow w.heap.size 3 1 v' (L ++ [(n : Int)]).length (ints (L ++ [(n : Int)])) by rw [ints_snoc]; simpa using hown1)
        clear hown1 hgrow HO
        have hpk' : p + k ≤ s.size := by omega
        go_wp2
        go_roundw
        case rel => exact ⟨p + k, L ++ [(n : Int)], by go_num, HN.out, HO1.out, hb2⟩
        case measure => simp [intOf]; omega
    · go_wp2
      go_ret2
      exact OutD.of_own hbw ho rfl (HD.out.done (by omega))
set_option maxHeartbeats 2000000 in
theorem iDecs (s : ByteArray) (hs : s.size ≤ 1048576) (w : World) : Calls Try.prog 17 #[.string s] w (OutD w s) := by
  obtain ⟨i0, hi, hz0, hz1, hz2⟩ := info_parts info_int
  have HW := Lib.hid (own_empty w w.heap.size 3 1 (Nat.le_refl _))
  have HB := Lib.hid (show Below w.heap.size w (w.alloc (.cells #[] 3)) from (Below.refl _ _).alloc (Nat.le_refl _) _)
  go_enter Try.func17, Try.ntmps17
  go_wp2
  generalize w.alloc (.cells #[] 3) = w1 at HW HB ⊢
  go_loopw [4, 5] (fun v a wr => ∃ (p : Nat) (L : List Int), a = .int .i64 p ∧ DecAt s p L ∧ wr.ownsRow w.heap.size 3 1 v L.length (ints L) ∧ Below w.heap.size w wr) (fun v a _ => s.size - (intOf a).toNat)
  case atStart => exact ⟨0, [], rfl, DecAt.start s, HW.out, HB.out⟩
  case round =>
    obtain ⟨p, L, rfl, hd, ho, hbw⟩ := hrel
    clear HW HB
    have hlp := hd.1
    have HD := Lib.hid hd; clear hd
    by_cases hlt : p < s.size
    · rcases dq_two s p with ⟨hn, hv⟩ | ⟨n, k, hn, hv, hn4, hk1, hk8, hpk⟩
      · have HN := Lib.hid (HD.out.fail hlt hn); clear hn
        have HO := Lib.hid ho; clear ho
        go_wp2_with (first | (go_at_call 9; refine (iDQ _ _ _ hs).mono ?_; rintro e w' ⟨rfl, rfl⟩; rw [hv]))
        go_ret2
        exact OutD.of_own (L := []) hbw (World.ownsRow_nil _ _ _ _) rfl HN.out
      · have HN := Lib.hid (HD.out.next hlt hn hk1 (by omega)); clear hn
        have hsz := hbw.size
        have HO := Lib.hid ho; clear ho
        go_wp2_with (first | (go_at_call 9; refine (iDQ _ _ _ hs).mono ?_; rintro e w' ⟨rfl, rfl⟩; rw [hv]) | (at_builtin; refine wpList_append_own _ rfl _ _ 32 rfl w.heap.size 3 i0 (.int .i64 0) 1 8 Try.underlying32 hi hz0 hz1 hz2 rfl (by decide) _ _ _ rfl (HO.out.alloc _) ⟨wr.heap.size, 0, none⟩ 1 1 [.int .i64 (n : Int)] rfl rfl (news1 _ (by simp)) (one_1 _) (by unfold maxLen; omega) (by omega) (by simp; omega) ?_))
        intro v' w1 hown1 hgrow _
        have hb2 : Below w.heap.size w w1 := (hbw.alloc hsz (.cells #[.int .i64 (n : Int)] 3)).grown hgrow (by simp; omega) (fun k hk => (HO.out.lt k hk).1)
        have HO1 := Lib.hid (show w1.ownsRow w.heap.size 3 1 v' (L ++ [(n : Int)]).length (ints (L ++ [(n : Int)])) by rw [ints_snoc]; simpa using hown1)
        clear hown1 hgrow HO
        have hpk' : p + k ≤ s.size := by omega
        go_wp2
        go_roundw
        case rel => exact ⟨p + k, L ++ [(n : Int)], by go_num, HN.out, HO1.out, hb2⟩
        case measure => simp [intOf]; omega
    · go_wp2
      go_ret2
      exact OutD.of_own hbw ho rfl (HD.out.done (by omega))
end Go.Proofs.Ytadoiehgobcjcaa
