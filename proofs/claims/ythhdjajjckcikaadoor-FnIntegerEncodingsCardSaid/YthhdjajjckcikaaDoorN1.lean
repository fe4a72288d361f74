/- FormatInt: one contract for each package. The table of powers is a premise on the world. -/
import Derived.Test.YthhdjajjckcikaaDoorShelf
import Derived.Test.YthhdjajjckcikaaDoorNMath
import Derived.Test.YthhdjajjckcikaaDoorMemQ
import Derived.Laws.IdiomStrings
namespace Go.Proofs.YthhdjajjckcikaaDoor
open Go.ChangeShapes Go.WideShapes Go.ChangeAt Go.RowKit Go.Sort
set_option linter.unusedVariables false
set_option linter.unusedSimpArgs false
def Tab (w : World) : Prop := Lib.TabIs Tryd.prog w "internal/strconv.uint64pow10" .u64 Lib.pow10Tab
theorem below_grow (w : World) (k : Nat) (os : Array Obj) : Below w.heap.size w (Sort.grow (w.drewN k) os) :=
  ⟨rfl, rfl, rfl, by simp [grow, World.drewN], fun j hj => by simp [grow, World.drewN, Array.getElem?_append, hj]⟩
/-- The text of a number. -/
def itB (n : Int) : ByteArray := ⟨(Lib.itoa n).toArray⟩
theorem iFmt (n : Int) (h0 : -9223372036854775808 ≤ n) (h1 : n ≤ 9223372036854775807) (w : World) (ht : Tab w) : Calls Tryd.prog 15 #[.int .i64 n] w fun e w' => e = .returned (.string (itB n)) ∧ Below w.heap.size w w' := by
  go_enter Tryd.func15, Tryd.ntmps15
  go_wp2_with fail
  refine (Tryd.strconv_Itoa n h0 h1 w ht).mono ?_
  rintro e w' ⟨rfl, k, os, rfl⟩
  go_wp2
  go_ret
  exact ⟨rfl, below_grow w k os⟩
theorem convOne (w : World) (c : Int) (q : Nat) (hc : c = (q : Int)) (h1 : q < 256) :
    (convert 22 9 (.slice (some ⟨w.heap.size, 0, none⟩) 1 1)).run Tryd.prog (w.alloc (.cells #[.int .u8 c] 5)) = .ok (.string ⟨#[UInt8.ofNat q]⟩) (w.alloc (.cells #[.int .u8 c] 5)) := by
  subst hc
  have h := run_convert_bytes_back (P := Tryd.prog) (w.alloc (.cells #[.int .u8 (q : Int)] 5)) 22 9 5 ⟨w.heap.size, 0, none⟩ 1 [UInt8.ofNat q] Tryd.underlying22 Tryd.underlying5 Tryd.underlying9 (fun j hj => by
    obtain rfl : j = 0 := by simpa using hj
    have e : (([UInt8.ofNat q] : List UInt8)[0].toNat : Int) = (q : Int) := by show ((UInt8.ofNat q).toNat : Int) = q; simp; omega
    rw [e]
    exact (World.cell?_alloc_new (w := w) _ _ 0).trans rfl)
  exact h
theorem rest_size (f u : Nat) (h : u < 10 ^ f) : (NM.rest u).length ≤ f := by
  induction f generalizing u with
  | zero => have : u = 0 := by simpa using h
            subst this; exact Nat.le_refl _
  | succ f ih =>
    by_cases h0 : u = 0
    · subst h0; exact Nat.zero_le _
    · rw [NM.rest_step h0, List.length_append]
      have := ih (u / 10) (by rw [Nat.pow_succ] at h; omega)
      simp only [List.length_singleton]; omega
/-- Where the loop stands: u of the magnitude U is left, s is written. -/
def FmtAt (U u : Nat) (s : ByteArray) : Prop := ∃ f, u < 10 ^ f ∧ s.size + f = 20 ∧ NM.rest U = NM.rest u ++ s.data.toList
theorem FmtAt.start {U : Nat} (h : U ≤ 9223372036854775808) : FmtAt U U ⟨#[]⟩ := ⟨20, Nat.lt_of_le_of_lt h (by decide), rfl, by simp⟩
theorem FmtAt.size {U u : Nat} {s : ByteArray} (h : FmtAt U u s) : s.size ≤ 20 := by obtain ⟨f, _, h, _⟩ := h; omega
theorem FmtAt.next {U u : Nat} {s : ByteArray} (h : FmtAt U u s) (h0 : u ≠ 0) : FmtAt U (u / 10) ((⟨#[UInt8.ofNat (48 + u % 10)]⟩ : ByteArray) ++ s) := by
  obtain ⟨f, h1, h2, h3⟩ := h
  cases f with
  | zero => simp at h1; omega
  | succ f =>
    refine ⟨f, by rw [Nat.pow_succ] at h1; omega, ?_, ?_⟩
    · rw [ByteArray.size_append]; show 1 + s.size + f = 20; omega
    · rw [h3, NM.rest_step h0]
      have : ((⟨#[UInt8.ofNat (48 + u % 10)]⟩ : ByteArray) ++ s).data.toList = [UInt8.ofNat (48 + u % 10)] ++ s.data.toList := by simp
      rw [this, List.append_assoc]
theorem FmtAt.done {U : Nat} {s : ByteArray} (h : FmtAt U 0 s) (h0 : U ≠ 0) : s.data.toList = Lib.decDigits U := by
  obtain ⟨f, _, _, h3⟩ := h
  have e1 : NM.rest 0 = [] := rfl
  have e2 : NM.rest U = Lib.decDigits U := by unfold NM.rest; rw [if_neg h0]
  rw [← e2, h3, e1]; rfl
theorem bytes_ext {a b : ByteArray} (h : a.data.toList = b.data.toList) : a = b := by
  obtain ⟨⟨a⟩⟩ := a; obtain ⟨⟨b⟩⟩ := b; simp at h; subst h; rfl
theorem itB_pos {n : Int} {U : Nat} {s : ByteArray} (hn : n = (U : Int)) (h : s.data.toList = Lib.decDigits U) : s = itB n := by
  apply bytes_ext
  rw [h]
  show _ = (Lib.itoa n)
  unfold Lib.itoa
  rw [if_neg (by omega)]
  congr 1; omega
theorem itB_neg {n : Int} {U : Nat} {s : ByteArray} (hn : n = -(U : Int)) (hU : U ≠ 0) (h : s.data.toList = Lib.decDigits U) : (⟨#[45]⟩ : ByteArray) ++ s = itB n := by
  apply bytes_ext
  show ((⟨#[45]⟩ : ByteArray) ++ s).data.toList = (Lib.itoa n)
  have : ((⟨#[45]⟩ : ByteArray) ++ s).data.toList = 45 :: s.data.toList := by simp
  rw [this, h]
  unfold Lib.itoa
  rw [if_pos (by omega)]
  congr 2; omega
set_option maxRecDepth 20000 in
set_option maxHeartbeats 2000000 in
theorem sFmt (n : Int) (h0 : -9223372036854775808 ≤ n) (h1 : n ≤ 9223372036854775807) (w : World) : Calls Tryd.prog 17 #[.int .i64 n] w fun e w' => e = .returned (.string (itB n)) ∧ Below w.heap.size w w' := by
  by_cases hz : n = 0
  · subst hz
    go_enter Tryd.func17, Tryd.ntmps17
    go_wp2
    go_ret
    exact ⟨ret_str (itB_pos (U := 0) rfl (by rw [NM.decDigits_small (by decide)]; rfl)), Below.refl _ _⟩
  · have hzb : (n == 0) = false := by simp; omega
    by_cases hn : n < 0
    · have hd : decide (n < 0) = true := by simp; omega
      obtain ⟨U, hU⟩ : ∃ U : Nat, n = -(U : Int) := ⟨n.natAbs, by omega⟩
      have HU := Lib.hid hU
      clear hU
      go_enter Tryd.func17, Tryd.ntmps17
      go_wp2
      go_loopw [0, 3] (fun x o wr => ∃ (z : Int) (u : Nat) (s : ByteArray), x = .int .i64 z ∧ Hid (z = -(u : Int)) ∧ o = .string s ∧ u ≤ 9223372036854775808 ∧ FmtAt U u s ∧ Below w.heap.size w wr) (fun x _ _ => (intOf x).natAbs)
      case atStart => exact ⟨_, U, ⟨#[]⟩, rfl, HU.out, rfl, by have := HU.out; omega, FmtAt.start (by have := HU.out; omega), Below.refl _ _⟩
      case round =>
        obtain ⟨z, u, s, rfl, hzu, rfl, hu, ha, hbw⟩ := hrel
        have HA := Lib.hid ha; clear ha
        have hsz := HA.out.size
        by_cases hu0 : u = 0
        · subst hu0
          have HX := Lib.hid (itB_neg HU.out (by have := HU.out; omega) (HA.out.done (by have := HU.out; omega)))
          obtain rfl : z = 0 := by have := hzu.out; omega
          go_wp2
          go_ret
          exact ⟨ret_str HX.out, hbw⟩
        · have hub : (z == 0) = false := by have := hzu.out; simp; omega
          have HN := Lib.hid (HA.out.next hu0)
          have hq : z.tdiv 10 = -((u / 10 : Nat) : Int) := by have := hzu.out; rw [this, Int.neg_tdiv]; rfl
          have ht : z.tmod 10 = -((u % 10 : Nat) : Int) := by have := hzu.out; rw [this, Int.neg_tmod]; rfl
          obtain ⟨q, hqq⟩ : ∃ q : Int, -((u / 10 : Nat) : Int) = q := ⟨_, rfl⟩
          have HQ : Hid (q = -((u / 10 : Nat) : Int)) := hqq.symm
          rw [hqq] at hq
          have hmz : (intOf (.int .i64 q)).natAbs < (intOf (.int .i64 z)).natAbs := by have := hzu.out; simp [intOf]; omega
          have HMZ := Lib.hid hmz
          have hqb : -9223372036854775808 ≤ q ∧ q ≤ 0 := by omega
          obtain ⟨hqb0, hqb1⟩ := hqb
          have hwq : wrap64 q = q := by unfold wrap64; omega
          obtain ⟨m, hm⟩ : ∃ m, u % 10 = m := ⟨_, rfl⟩
          have hm10 : m < 10 := by omega
          rw [hm] at ht HN
          have hub10 : u / 10 ≤ 9223372036854775808 := by omega
          have HUB := Lib.hid hub10
          clear hub10 hm hqq hmz
          obtain ⟨D, hD⟩ : ∃ D : ByteArray, (⟨#[UInt8.ofNat (48 + m)]⟩ : ByteArray) = D := ⟨_, rfl⟩
          have hDs : D.size = 1 := by rw [← hD]; rfl
          by_cases hm0 : m = 0
          · subst hm0
            have hc := convOne wr 48 48 rfl (by decide)
            have hD' : (⟨#[UInt8.ofNat 48]⟩ : ByteArray) = D := hD
            rw [hD'] at hc
            rw [show (48 + 0 : Nat) = 48 from rfl, hD'] at HN
            have ht' : z.tmod 10 = 0 := ht
            clear hD hD' ht hm10
            go_wp2
            go_roundw
            case rel => exact ⟨q, u / 10, D ++ s, rfl, HQ, rfl, HUB.out, HN.out, hbw.alloc hbw.size _⟩
            case measure => exact HMZ.out
          · have hc := convOne wr (48 + (m : Int)) (48 + m) (by omega) (by omega)
            rw [hD] at hc HN
            have hl1 : decide (-(m : Int) < 0) = true := by simp; omega
            have hl2 : decide ((0 : Int) < (m : Int)) = true := by simp; omega
            have hl3 : decide (0 < m) = true := by simp; omega
            clear hD
            go_wp2
            go_roundw
            case rel => exact ⟨q, u / 10, D ++ s, rfl, HQ, rfl, HUB.out, HN.out, hbw.alloc hbw.size _⟩
            case measure => exact HMZ.out
    · have hd : decide (n < 0) = false := by simp; omega
      obtain ⟨U, hU⟩ : ∃ U : Nat, n = (U : Int) := ⟨n.natAbs, by omega⟩
      have HU := Lib.hid hU
      go_enter Tryd.func17, Tryd.ntmps17
      go_wp2
      go_loopw [0, 3] (fun x o wr => ∃ (u : Nat) (s : ByteArray), x = .int .i64 u ∧ o = .string s ∧ u ≤ 9223372036854775807 ∧ FmtAt U u s ∧ Below w.heap.size w wr) (fun x _ _ => (intOf x).natAbs)
      case atStart => exact ⟨U, ⟨#[]⟩, rfl, rfl, by omega, FmtAt.start (by omega), Below.refl _ _⟩
      case round =>
        obtain ⟨u, s, rfl, rfl, hu, ha, hbw⟩ := hrel
        have HA := Lib.hid ha; clear ha
        have hsz := HA.out.size
        clear hU
        by_cases hu0 : u = 0
        · subst hu0
          have HX := Lib.hid (itB_pos HU.out (HA.out.done (by have := HU.out; omega)))
          go_wp2
          go_ret
          exact ⟨ret_str HX.out, hbw⟩
        · have hub : ((u : Int) == 0) = false := by simp; omega
          have HN := Lib.hid (HA.out.next hu0)
          have hc := convOne wr (48 + (u : Int) % 10) (48 + u % 10) (by omega) (by omega)
          have hdl : decide ((u : Int) % 10 < 0) = false := by simp; omega
          obtain ⟨D, hD⟩ : ∃ D : ByteArray, (⟨#[UInt8.ofNat (48 + u % 10)]⟩ : ByteArray) = D := ⟨_, rfl⟩
          have hDs : D.size = 1 := by rw [← hD]; rfl
          rw [hD] at hc HN
          clear hD
          go_wp2
          go_roundw
          case rel => exact ⟨u / 10, D ++ s, by go_num, rfl, by omega, HN.out, hbw.alloc hbw.size _⟩
          case measure => simp [intOf]; omega
end Go.Proofs.YthhdjajjckcikaaDoor
