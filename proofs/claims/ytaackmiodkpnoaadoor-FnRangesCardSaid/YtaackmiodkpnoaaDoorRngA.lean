/- Contracts of the functions that build a slice of ranges: copies, RemoveRange. No conditions. -/
import Derived.Test.YtaackmiodkpnoaaDoorRngL1
import Derived.Laws.AppendOwnNone
namespace Go.Proofs.YtaackmiodkpnoaaDoor
open Go.ChangeShapes Go.WideShapes Go.ChangeAt Go.RowKit Go.Sort RM
set_option linter.unusedVariables false
/-- A new slice of ranges is handed back, which lies in the call's own memory. -/
def OutR (w : World) (L : List R) (e : Ending) (w' : World) : Prop := ∃ A c, e = .returned (.slice A L.length c) ∧ Below w.heap.size w w' ∧ w'.ownsRow w.heap.size 32 2 (.slice A L.length c) L.length (encR L)
theorem own_empty (w : World) (base : Nat) (T : TypeId) (size : Nat) (hb : base ≤ w.heap.size) : (w.alloc (.cells #[] T)).ownsRow base T size (.slice (some ⟨w.heap.size, 0, none⟩) 0 0) 0 [] :=
  World.ownsRow_made w #[] 0 hb (by unfold maxLen; omega) (by simp)
theorem OutR.of_own {w w' : World} {L : List R} {v : Value} {n : Nat} (hb : Below w.heap.size w w') (h : w'.ownsRow w.heap.size 32 2 v n (encR L)) (hn : n = L.length) : OutR w L (.returned v) w' := by
  obtain ⟨A, c, rfl, _, _⟩ := Rd.of_own h
  subst hn
  exact ⟨A, c, rfl, hb, h⟩
theorem own_any_nil {w : World} {base : Nat} {e : TypeId} {size n : Nat} {v : Value} {xs : List Value} (h : w.ownsRow base e size v n xs) : ∀ k, v.ownBlock = some k → base ≤ k := fun k hk => (h.lt k hk).1
set_option maxRecDepth 20000 in
theorem sCopy {A : Option Addr} {c n : Nat} {w : World} {B : Nat} {l : List R} (hB : B ≤ w.heap.size) (hr : Rd w B A (encR l)) (hm : n ≤ 1048577) (HL : Hid (l.length = n)) :
    Calls Tryd.prog 38 #[.slice A n c] w (OutR w l) := by
  obtain ⟨i0, hi, hz0, hz1, hz2⟩ := info_parts info_rng
  have hown := own_empty w w.heap.size 32 2 (Nat.le_refl _)
  have hb1 : Below w.heap.size w (w.alloc (.cells #[] 32)) := (Below.refl _ _).alloc (Nat.le_refl _) _
  have HR := Lib.hid (hr.below hb1 hB)
  have hone : ∀ u ∈ encR l, u.oneCell' = true := by
    intro u hu; simp only [encR, List.mem_flatMap, List.mem_cons, List.mem_nil_iff, or_false] at hu
    obtain ⟨r, _, rfl | rfl⟩ := hu <;> rfl
  have hll := encR_len l
  rw [HL.out] at hll
  have HO := Lib.hid hone; clear hone
  have HLL := Lib.hid hll; clear hll
  have HW := Lib.hid hown; clear hown
  rcases A with _ | ad
  · have hl0 : encR l = [] := by
      cases h : encR l with
      | nil => rfl
      | cons u t => obtain ⟨b, off, e, _⟩ := hr 0 u (by rw [h]; rfl); cases e
    have hn0 : l = [] := by have := encR_len l; rw [hl0] at this; simp only [List.length_nil] at this; exact List.eq_nil_of_length_eq_zero (by omega)
    subst hn0
    obtain rfl : n = 0 := by rw [← HL.out]; rfl
    go_enter Tryd.func38, Tryd.ntmps38
    go_wp2
    go_ret
    exact OutR.of_own (L := []) hb1 HW.out rfl
  · go_enter Tryd.func38, Tryd.ntmps38
    go_wp2_with (at_builtin; refine wpList_append_own _ rfl _ _ 25 rfl w.heap.size 32 i0 (.agg #[.int .i64 0, .int .i64 0]) 2 16 Tryd.underlying25 hi hz0 hz1 hz2 rfl (by decide) _ _ _ rfl HW.out ad n c (encR l) rfl (by rw [HLL.out, Nat.mul_comm]) ?c1 HO.out ?c3 ?c4 hb1.size ?_)
    case c3 => unfold maxLen; omega
    case c4 => omega
    case c1 =>
      intro j u hj
      obtain ⟨b, off, e, _, hc⟩ := HR.out j u hj
      injection e with e
      subst e
      have : (⟨b, off, none⟩ : Addr).add j = ⟨b, off + j, none⟩ := by unfold Addr.add; split <;> simp_all
      rw [this]; exact hc
    · intro v' w1 hown1 hgrow _
      have hb2 : Below w.heap.size w w1 := hb1.grown hgrow (by simp) (fun k hk => by simp [Value.ownBlock] at hk; omega)
      try simp only [Nat.zero_add, List.nil_append] at hown1
      have HW1 := Lib.hid hown1; clear hown1 hgrow
      go_wp2
      go_ret
      exact OutR.of_own hb2 HW1.out HL.out.symm
set_option maxRecDepth 20000 in
theorem iCopy {A : Option Addr} {c n : Nat} {w : World} {B : Nat} {l : List R} (hB : B ≤ w.heap.size) (hr : Rd w B A (encR l)) (hm : n ≤ 1048577) (HL : Hid (l.length = n)) :
    Calls Tryd.prog 36 #[.slice A n c] w (OutR w l) := by
  obtain ⟨i0, hi, hz0, hz1, hz2⟩ := info_parts info_rng
  have hown := own_empty w w.heap.size 32 2 (Nat.le_refl _)
  have hb1 : Below w.heap.size w (w.alloc (.cells #[] 32)) := (Below.refl _ _).alloc (Nat.le_refl _) _
  have HR := Lib.hid (hr.below hb1 hB)
  have hone : ∀ u ∈ encR l, u.oneCell' = true := by
    intro u hu; simp only [encR, List.mem_flatMap, List.mem_cons, List.mem_nil_iff, or_false] at hu
    obtain ⟨r, _, rfl | rfl⟩ := hu <;> rfl
  have hll := encR_len l
  rw [HL.out] at hll
  have HO := Lib.hid hone; clear hone
  have HLL := Lib.hid hll; clear hll
  have HW := Lib.hid hown; clear hown
  rcases A with _ | ad
  · have hl0 : encR l = [] := by
      cases h : encR l with
      | nil => rfl
      | cons u t => obtain ⟨b, off, e, _⟩ := hr 0 u (by rw [h]; rfl); cases e
    have hn0 : l = [] := by have := encR_len l; rw [hl0] at this; simp only [List.length_nil] at this; exact List.eq_nil_of_length_eq_zero (by omega)
    subst hn0
    obtain rfl : n = 0 := by rw [← HL.out]; rfl
    go_enter Tryd.func36, Tryd.ntmps36
    go_wp2
    go_ret
    exact OutR.of_own (L := []) hb1 HW.out rfl
  · go_enter Tryd.func36, Tryd.ntmps36
    go_wp2_with (at_builtin; refine wpList_append_own _ rfl _ _ 25 rfl w.heap.size 32 i0 (.agg #[.int .i64 0, .int .i64 0]) 2 16 Tryd.underlying25 hi hz0 hz1 hz2 rfl (by decide) _ _ _ rfl HW.out ad n c (encR l) rfl (by rw [HLL.out, Nat.mul_comm]) ?c1 HO.out ?c3 ?c4 hb1.size ?_)
    case c3 => unfold maxLen; omega
    case c4 => omega
    case c1 =>
      intro j u hj
      obtain ⟨b, off, e, _, hc⟩ := HR.out j u hj
      injection e with e
      subst e
      have : (⟨b, off, none⟩ : Addr).add j = ⟨b, off + j, none⟩ := by unfold Addr.add; split <;> simp_all
      rw [this]; exact hc
    · intro v' w1 hown1 hgrow _
      have hb2 : Below w.heap.size w w1 := hb1.grown hgrow (by simp) (fun k hk => by simp [Value.ownBlock] at hk; omega)
      try simp only [Nat.zero_add, List.nil_append] at hown1
      have HW1 := Lib.hid hown1; clear hown1 hgrow
      go_wp2
      go_ret
      exact OutR.of_own hb2 HW1.out HL.out.symm
end Go.Proofs.YtaackmiodkpnoaaDoor
