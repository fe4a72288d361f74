/- A frame behind its type, as what is read. No conditions. -/
import Derived.Test.YtgeicojnjagboaaR2
namespace Go.Proofs.Ytgeicojnjagboaa
open Go.ChangeShapes Go.WideShapes Go.ChangeAt Go.RowKit Go.Sort QM
set_option linter.unusedVariables false
set_option linter.unusedSimpArgs false
def rfK (s : ByteArray) (k : Nat) (p : Int) : Option (Fr × Int) :=
  match k with
  | 4 => (rdN s 3 p).map fun x => ((⟨4, x.1.getD 0 0, 0, ⟨#[]⟩, false, x.1.getD 1 0, 0, x.1.getD 2 0, false⟩ : Fr), x.2)
  | 5 => (rdN s 2 p).map fun x => ((⟨5, x.1.getD 0 0, 0, ⟨#[]⟩, false, x.1.getD 1 0, 0, 0, false⟩ : Fr), x.2)
  | 16 => (rdN s 1 p).map fun x => ((⟨16, 0, 0, ⟨#[]⟩, false, 0, x.1.getD 0 0, 0, false⟩ : Fr), x.2)
  | 17 => (rdN s 2 p).map fun x => ((⟨17, x.1.getD 0 0, 0, ⟨#[]⟩, false, 0, x.1.getD 1 0, 0, false⟩ : Fr), x.2)
  | 18 => (rdN s 1 p).map fun x => ((⟨18, 0, 0, ⟨#[]⟩, false, 0, x.1.getD 0 0, 0, false⟩ : Fr), x.2)
  | 19 => (rdN s 1 p).map fun x => ((⟨18, 0, 0, ⟨#[]⟩, false, 0, x.1.getD 0 0, 0, true⟩ : Fr), x.2)
  | 20 => (rdN s 1 p).map fun x => ((⟨20, 0, 0, ⟨#[]⟩, false, 0, x.1.getD 0 0, 0, false⟩ : Fr), x.2)
  | 21 => (rdN s 2 p).map fun x => ((⟨21, x.1.getD 0 0, 0, ⟨#[]⟩, false, 0, x.1.getD 1 0, 0, false⟩ : Fr), x.2)
  | 22 => (rdN s 1 p).map fun x => ((⟨22, 0, 0, ⟨#[]⟩, false, 0, x.1.getD 0 0, 0, false⟩ : Fr), x.2)
  | 23 => (rdN s 1 p).map fun x => ((⟨22, 0, 0, ⟨#[]⟩, false, 0, x.1.getD 0 0, 0, true⟩ : Fr), x.2)
  | 8 => stO s false false false p
  | 9 => stO s true false false p
  | 10 => stO s false false true p
  | 11 => stO s true false true p
  | 12 => stO s false true false p
  | 13 => stO s true true false p
  | 14 => stO s false true true p
  | 15 => stO s true true true p
  | _ => none
/-- The kinds of which something is read. -/
def knownT (k : Nat) : Bool := k == 4 || k == 5 || (8 ≤ k && k ≤ 23)
theorem rfK_none (s : ByteArray) (k : Nat) (p : Int) (h : knownT k = false) : rfK s k p = none := by
  unfold rfK
  split <;> first | rfl | (exact absurd h (by decide))
/-- What readFrame hands back. -/
def RfV (o : Option (Fr × Int)) (e : Ending) : Prop := ∃ (f : Fr) (q : Int) (t : Bool), e = .returned (.tuple #[.agg (frA f), .int .i64 q, .bool t]) ∧ ((o = none ∧ t = false) ∨ (o = some (f, q) ∧ t = true))
theorem RfV.none (f : Fr) (q : Int) : RfV none (.returned (.tuple #[.agg (frA f), .int .i64 q, .bool false])) := ⟨f, q, false, rfl, .inl ⟨rfl, rfl⟩⟩
theorem RfV.some (f : Fr) (q : Int) : RfV (some (f, q)) (.returned (.tuple #[.agg (frA f), .int .i64 q, .bool true])) := ⟨f, q, true, rfl, .inr ⟨rfl, rfl⟩⟩
theorem RfV.of_df (o : Option (Fr × Int)) : RfV o (.returned (dfVal o)) := by
  cases o with
  | none => exact RfV.none fr0 0
  | some x => obtain ⟨f, q⟩ := x; exact RfV.some f q
def frO (s : ByteArray) (p : Int) : Option (Fr × Int) := if 0 ≤ p ∧ p < s.size then rfK s ((bl s).getD p.toNat 0).toNat (p + 1) else none
theorem frO_out {s : ByteArray} {p : Int} (h : ¬ (0 ≤ p ∧ p < s.size)) : frO s p = none := by unfold frO; rw [if_neg h]
theorem frO_in {s : ByteArray} {p : Nat} (h : p < s.size) : frO s p = rfK s (s[p]'h).toNat ((p : Int) + 1) := by
  unfold frO; rw [if_pos (by omega), Int.toNat_natCast, bl_getD s p h]
theorem stO_facts {s : ByteArray} (hs : s.size ≤ 1048576) {fin off len : Bool} {p : Int} (hp : 0 ≤ p) {f : Fr} {q : Int} (h : stO s fin off len p = some (f, q)) : f.d.size ≤ 1048576 ∧ p < q ∧ q ≤ s.size := by
  unfold stO at h
  cases hr : rdN s (if off then 2 else 1) p with
  | none => rw [hr] at h; cases h
  | some x =>
    obtain ⟨L, r⟩ := x
    obtain ⟨_, _, h1, h2⟩ := rdN_facts s _ p L r hr
    have h2' := h2 (by cases off <;> decide)
    have h1' : p + 1 ≤ r := by cases off <;> simp at h1 <;> omega
    rw [hr] at h
    cases len with
    | false =>
      simp at h
      obtain ⟨rfl, rfl⟩ := h
      exact ⟨ext_size _ _ _ hs, by omega, by omega⟩
    | true =>
      simp only [if_true] at h
      cases hd : dq s r with
      | none => rw [hd] at h; cases h
      | some y =>
        obtain ⟨n, k⟩ := y
        rw [hd] at h
        simp only at h
        split at h
        · cases h
        · injection h with h
          injection h with h3 h4
          subst h3 h4
          exact ⟨ext_size _ _ _ hs, by omega, by omega⟩
theorem map_facts {s : ByteArray} {m : Nat} {p : Int} {g : List Int × Int → Fr} (hm : m ≠ 0) (hg : ∀ x, (g x).d.size ≤ 1048576) {f : Fr} {q : Int} (h : ((rdN s m p).map fun x => (g x, x.2)) = some (f, q)) : f.d.size ≤ 1048576 ∧ p < q ∧ q ≤ s.size := by
  cases hr : rdN s m p with
  | none => rw [hr] at h; cases h
  | some x =>
    obtain ⟨L, r⟩ := x
    obtain ⟨_, _, h1, h2⟩ := rdN_facts s _ p L r hr
    rw [hr] at h
    injection h with h
    injection h with h3 h4
    subst h3 h4
    exact ⟨hg _, by omega, h2 hm⟩
theorem frO_facts {s : ByteArray} (hs : s.size ≤ 1048576) {p : Int} {f : Fr} {q : Int} (h : frO s p = some (f, q)) : f.d.size ≤ 1048576 ∧ 0 ≤ p ∧ p + 1 < q ∧ q ≤ s.size := by
  unfold frO at h
  split at h
  · rename_i hp
    have key : ∀ k, rfK s k (p + 1) = some (f, q) → f.d.size ≤ 1048576 ∧ p + 1 < q ∧ q ≤ s.size := by
      intro k hk
      unfold rfK at hk
      split at hk
      all_goals first
        | exact stO_facts hs (by omega) hk
        | exact map_facts (by decide) (fun _ => Nat.zero_le _) hk
        | cases hk
    obtain ⟨a, b, c⟩ := key _ h
    exact ⟨a, hp.1, b, c⟩
  · cases h
theorem nine_of {cs : Array Value} (h : cs.size = 9) : ∃ x0 x1 x2 x3 x4 x5 x6 x7 x8, cs = #[x0, x1, x2, x3, x4, x5, x6, x7, x8] := by
  obtain ⟨l⟩ := cs
  match l, h with
  | [x0, x1, x2, x3, x4, x5, x6, x7, x8], _ => exact ⟨x0, x1, x2, x3, x4, x5, x6, x7, x8, rfl⟩
end Go.Proofs.Ytgeicojnjagboaa
