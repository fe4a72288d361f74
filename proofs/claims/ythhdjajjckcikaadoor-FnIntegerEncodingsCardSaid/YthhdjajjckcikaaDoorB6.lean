/- DecodeVarint: one contract for each package. No conditions. -/
import Derived.Test.YthhdjajjckcikaaDoorB2
namespace Go.Proofs.YthhdjajjckcikaaDoor
open Go.ChangeShapes Go.WideShapes Go.ChangeAt Go.RowKit Go.Sort QM VM
set_option linter.unusedVariables false
set_option linter.unusedSimpArgs false
def dvV (s : ByteArray) : Value := .tuple #[.int .i64 ((dv (bl s)).1 : Nat), .int .i64 ((dv (bl s)).2 : Nat)]
def ag (s : ByteArray) (k : Nat) : Nat := accG k (bl s)
theorem ag_zero (s : ByteArray) : ag s 0 = 0 := accG_zero _
theorem ag_succ (s : ByteArray) (k : Nat) (h : k < s.size) : ag s (k + 1) = ag s k + 128 ^ k * ((s[k]'h).toNat % 128) := by
  unfold ag
  have hl : k < (bl s).length := by rw [bl_len]; exact h
  exact accG_snoc k (bl s) (s[k]'h) (by rw [List.getElem?_eq_getElem hl, bl_get s k h])
theorem ag_lt (s : ByteArray) (k : Nat) : ag s k < 128 ^ k := accG_lt k _
theorem bl_get? (s : ByteArray) (k : Nat) (h : k < s.size) : (bl s)[k]? = some (s[k]'h) := by
  rw [List.getElem?_eq_getElem (by rw [bl_len]; exact h), bl_get s k h]
/-- The bytes ahead of place k are no last ones. -/
def Big (s : ByteArray) (k : Nat) : Prop := ∀ j (hj : j < s.size), j < k → 128 ≤ (s[j]'hj).toNat
theorem Big.list {s : ByteArray} {k : Nat} (h : Big s k) : ∀ j c, j < k → (bl s)[j]? = some c → 128 ≤ c.toNat := by
  intro j c hj hc
  have hl : j < s.size := by have := (List.getElem?_eq_some_iff.1 hc).1; rwa [bl_len] at this
  rw [bl_get? s j hl] at hc
  injection hc with hc
  subst hc
  exact h j hl hj
theorem Big.next {s : ByteArray} {k : Nat} (h : Big s k) (hk : k < s.size) (hc : 128 ≤ (s[k]'hk).toNat) : Big s (k + 1) := by
  intro j hj hjk
  by_cases e : j = k
  · subst e; exact hc
  · exact h j hj (by omega)
theorem Big.none {s : ByteArray} {k : Nat} (h : Big s k) (hk : 7 ≤ k ∨ s.size ≤ k) : dvV s = .tuple #[.int .i64 0, .int .i64 0] := by
  have e : dv (bl s) = (0, 0) := by
    unfold dv
    cases hs : stop 7 (bl s) with
    | none => rfl
    | some i =>
      exfalso
      obtain ⟨h1, ⟨c, h2, h3⟩, _⟩ := stop_some hs
      have hl : i < s.size := by have := (List.getElem?_eq_some_iff.1 h2).1; rwa [bl_len] at this
      have := h.list i c (by omega) h2
      omega
  unfold dvV; rw [e]; rfl
theorem Big.some_ {s : ByteArray} {k : Nat} (h : Big s k) (h7 : k < 7) (hk : k < s.size) (hc : (s[k]'hk).toNat < 128) : dv (bl s) = if 0 < k ∧ (s[k]'hk).toNat = 0 then (0, 0) else (ag s (k + 1), k + 1) := by
  have hs := stop_of h7 (bl_get? s k hk) hc h.list
  unfold dv
  rw [hs]
  simp only [List.getD_eq_getElem?_getD, bl_get? s k hk, Option.getD_some]
  rfl
theorem Big.bad {s : ByteArray} {k : Nat} (h : Big s k) (h7 : k < 7) (hk : k < s.size) (h0 : 0 < k) (hc : (s[k]'hk).toNat = 0) : dvV s = .tuple #[.int .i64 0, .int .i64 0] := by
  unfold dvV; rw [h.some_ h7 hk (by omega), if_pos ⟨h0, hc⟩]; rfl
theorem Big.good {s : ByteArray} {k : Nat} (h : Big s k) (h7 : k < 7) (hk : k < s.size) (hc : (s[k]'hk).toNat < 128) (hn : ¬ (0 < k ∧ (s[k]'hk).toNat = 0)) {x : Nat} (hx : ag s (k + 1) = x) : dvV s = .tuple #[.int .i64 (x : Int), .int .i64 ((k : Int) + 1)] := by
  unfold dvV; rw [h.some_ h7 hk hc, if_neg hn, hx]; rfl
theorem or_v (x c K C y : Nat) (hC : 2 ^ (7 * K) = C) (hK : K ≤ 6) (hx : x < C) (hc : c < 128) (hy : y = x + C * c) (z : Int) (hz : z = ((c * C : Nat) : Int)) : bits .or .i64 (x : Int) z = (y : Int) := by
  subst hz
  have hp : C ≤ 2 ^ (7 * 6) := by rw [← hC]; exact Nat.pow_le_pow_right (by decide) (by omega)
  have hp2 : C * c < 2 ^ 49 := by
    have h1 : C * c ≤ 2 ^ (7 * 6) * 127 := Nat.mul_le_mul hp (by omega)
    omega
  have h := (bits_nat .i64 63 (by decide) wraps_i64_63 x (c * C) (by omega) (by rw [Nat.mul_comm]; omega)).2
  have e : x ||| c * C = y := by
    have := Nat.shiftLeft_add_eq_or_of_lt (i := 7 * K) (b := x) (by rw [hC]; exact hx) c
    rw [Nat.shiftLeft_eq, hC] at this
    rw [Nat.or_comm, ← this, hy, Nat.mul_comm]; omega
  rw [e] at h
  exact h
set_option maxRecDepth 20000 in
set_option maxHeartbeats 4000000 in
theorem iDV (s : ByteArray) (hs : s.size ≤ 1048576) (w : World) : Calls Tryd.prog 8 #[.string s] w fun e w' => e = .returned (dvV s) ∧ w = w' := by
  go_enter Tryd.func8, Tryd.ntmps8
  go_wp2
  go_loop [4, 5] (fun n i => ∃ k : Nat, k ≤ 7 ∧ k ≤ s.size ∧ i = .int .i64 k ∧ n = .int .i64 (ag s k : Nat) ∧ Big s k) (fun n i => 8 - (intOf i).toNat)
  case atStart => exact ⟨0, by omega, by omega, rfl, by rw [ag_zero]; rfl, fun j _ hj => by omega⟩
  case round =>
    obtain ⟨k, hk7, hks, rfl, rfl, hbig⟩ := hrel
    have HBG := Lib.hid hbig; clear hbig
    by_cases hlt : k < s.size
    · by_cases h7 : k < 7
      · rcases (show k = 0 ∨ k = 1 ∨ k = 2 ∨ k = 3 ∨ k = 4 ∨ k = 5 ∨ k = 6 by omega) with rfl | rfl | rfl | rfl | rfl | rfl | rfl
        · have hc := (s[0]'hlt).toNat_lt
          have HS := Lib.hid (ag_succ s 0 hlt)
          have hx : ag s 0 < 1 := ag_lt s 0
          have HN := Lib.hid (fun h => HBG.out.next hlt h)
          have HB := Lib.hid (fun h0 hz => HBG.out.bad (by omega) hlt h0 hz)
          have HG := Lib.hid (fun h1 h2 x (hx : ag s (0 + 1) = x) => HBG.out.good (x := x) (by omega) hlt h1 h2 hx)
          obtain ⟨y, hy⟩ : ∃ y, ag s (0 + 1) = y := ⟨_, rfl⟩
          have hor : bits .or .i64 ((ag s 0 : Nat) : Int) (((s[0]'hlt).toNat : Int) % 128) = (y : Int) := by
            exact or_v (ag s 0) ((s[0]'hlt).toNat % 128) 0 1 y (by decide) (by decide) hx (Nat.mod_lt _ (by decide)) (by rw [← hy]; exact HS.out) _ (by omega)
          have HY := Lib.hid hy; clear hy
          generalize ag s 0 = x at hx hor ⊢
          clear HS
          by_cases h128 : 128 ≤ (s[0]'hlt).toNat
          · go_wp2
            go_round
            case rel => exact ⟨1, by omega, by omega, by go_num, by rw [HY.out], HN.out h128⟩
            case measure => simp [intOf]
          · have hl128 : (s[0]'hlt).toNat < 128 := by omega
            have hd3 : decide (((s[0]'hlt).toNat : Int) < 128) = true := by simp; omega
            by_cases hz : (s[0]'hlt).toNat = 0
            · have HR := Lib.hid (HG.out hl128 (by omega) y HY.out)
              have hz0 : (((s[0]'hlt).toNat : Int) == 0) = true := by simp; omega
              clear hz
              go_wp2
              go_ret2
              exact ⟨by rw [HR.out]; rfl, rfl⟩
            · have HR := Lib.hid (HG.out hl128 (fun h => hz h.2) y HY.out)
              have hz0 : (((s[0]'hlt).toNat : Int) == 0) = false := by simp; omega
              clear hz
              go_wp2
              go_ret2
              exact ⟨by rw [HR.out]; rfl, rfl⟩
        · have hc := (s[1]'hlt).toNat_lt
          have HS := Lib.hid (ag_succ s 1 hlt)
          have hx : ag s 1 < 128 := ag_lt s 1
          have HN := Lib.hid (fun h => HBG.out.next hlt h)
          have HB := Lib.hid (fun h0 hz => HBG.out.bad (by omega) hlt h0 hz)
          have HG := Lib.hid (fun h1 h2 x (hx : ag s (1 + 1) = x) => HBG.out.good (x := x) (by omega) hlt h1 h2 hx)
          obtain ⟨y, hy⟩ : ∃ y, ag s (1 + 1) = y := ⟨_, rfl⟩
          have hor : bits .or .i64 ((ag s 1 : Nat) : Int) (((s[1]'hlt).toNat : Int) % 128 * 128) = (y : Int) := by
            exact or_v (ag s 1) ((s[1]'hlt).toNat % 128) 1 128 y (by decide) (by decide) hx (Nat.mod_lt _ (by decide)) (by rw [← hy]; exact HS.out) _ (by omega)
          have HY := Lib.hid hy; clear hy
          generalize ag s 1 = x at hx hor ⊢
          clear HS
          by_cases h128 : 128 ≤ (s[1]'hlt).toNat
          · go_wp2
            go_round
            case rel => exact ⟨2, by omega, by omega, by go_num, by rw [HY.out], HN.out h128⟩
            case measure => simp [intOf]
          · have hl128 : (s[1]'hlt).toNat < 128 := by omega
            have hd3 : decide (((s[1]'hlt).toNat : Int) < 128) = true := by simp; omega
            by_cases hz : (s[1]'hlt).toNat = 0
            · have HR := Lib.hid (HB.out (by decide) hz)
              have hz0 : (((s[1]'hlt).toNat : Int) == 0) = true := by simp; omega
              clear hz
              go_wp2
              go_ret2
              exact ⟨by rw [HR.out]; rfl, rfl⟩
            · have HR := Lib.hid (HG.out hl128 (fun h => hz h.2) y HY.out)
              have hz0 : (((s[1]'hlt).toNat : Int) == 0) = false := by simp; omega
              clear hz
              go_wp2
              go_ret2
              exact ⟨by rw [HR.out]; rfl, rfl⟩
        · have hc := (s[2]'hlt).toNat_lt
          have HS := Lib.hid (ag_succ s 2 hlt)
          have hx : ag s 2 < 16384 := ag_lt s 2
          have HN := Lib.hid (fun h => HBG.out.next hlt h)
          have HB := Lib.hid (fun h0 hz => HBG.out.bad (by omega) hlt h0 hz)
          have HG := Lib.hid (fun h1 h2 x (hx : ag s (2 + 1) = x) => HBG.out.good (x := x) (by omega) hlt h1 h2 hx)
          obtain ⟨y, hy⟩ : ∃ y, ag s (2 + 1) = y := ⟨_, rfl⟩
          have hor : bits .or .i64 ((ag s 2 : Nat) : Int) (((s[2]'hlt).toNat : Int) % 128 * 16384) = (y : Int) := by
            exact or_v (ag s 2) ((s[2]'hlt).toNat % 128) 2 16384 y (by decide) (by decide) hx (Nat.mod_lt _ (by decide)) (by rw [← hy]; exact HS.out) _ (by omega)
          have HY := Lib.hid hy; clear hy
          generalize ag s 2 = x at hx hor ⊢
          clear HS
          by_cases h128 : 128 ≤ (s[2]'hlt).toNat
          · go_wp2
            go_round
            case rel => exact ⟨3, by omega, by omega, by go_num, by rw [HY.out], HN.out h128⟩
            case measure => simp [intOf]
          · have hl128 : (s[2]'hlt).toNat < 128 := by omega
            have hd3 : decide (((s[2]'hlt).toNat : Int) < 128) = true := by simp; omega
            by_cases hz : (s[2]'hlt).toNat = 0
            · have HR := Lib.hid (HB.out (by decide) hz)
              have hz0 : (((s[2]'hlt).toNat : Int) == 0) = true := by simp; omega
              clear hz
              go_wp2
              go_ret2
              exact ⟨by rw [HR.out]; rfl, rfl⟩
            · have HR := Lib.hid (HG.out hl128 (fun h => hz h.2) y HY.out)
              have hz0 : (((s[2]'hlt).toNat : Int) == 0) = false := by simp; omega
              clear hz
              go_wp2
              go_ret2
              exact ⟨by rw [HR.out]; rfl, rfl⟩
        · have hc := (s[3]'hlt).toNat_lt
          have HS := Lib.hid (ag_succ s 3 hlt)
          have hx : ag s 3 < 2097152 := ag_lt s 3
          have HN := Lib.hid (fun h => HBG.out.next hlt h)
          have HB := Lib.hid (fun h0 hz => HBG.out.bad (by omega) hlt h0 hz)
          have HG := Lib.hid (fun h1 h2 x (hx : ag s (3 + 1) = x) => HBG.out.good (x := x) (by omega) hlt h1 h2 hx)
          obtain ⟨y, hy⟩ : ∃ y, ag s (3 + 1) = y := ⟨_, rfl⟩
          have hor : bits .or .i64 ((ag s 3 : Nat) : Int) (((s[3]'hlt).toNat : Int) % 128 * 2097152) = (y : Int) := by
            exact or_v (ag s 3) ((s[3]'hlt).toNat % 128) 3 2097152 y (by decide) (by decide) hx (Nat.mod_lt _ (by decide)) (by rw [← hy]; exact HS.out) _ (by omega)
          have HY := Lib.hid hy; clear hy
          generalize ag s 3 = x at hx hor ⊢
          clear HS
          by_cases h128 : 128 ≤ (s[3]'hlt).toNat
          · go_wp2
            go_round
            case rel => exact ⟨4, by omega, by omega, by go_num, by rw [HY.out], HN.out h128⟩
            case measure => simp [intOf]
          · have hl128 : (s[3]'hlt).toNat < 128 := by omega
            have hd3 : decide (((s[3]'hlt).toNat : Int) < 128) = true := by simp; omega
            by_cases hz : (s[3]'hlt).toNat = 0
            · have HR := Lib.hid (HB.out (by decide) hz)
              have hz0 : (((s[3]'hlt).toNat : Int) == 0) = true := by simp; omega
              clear hz
              go_wp2
              go_ret2
              exact ⟨by rw [HR.out]; rfl, rfl⟩
            · have HR := Lib.hid (HG.out hl128 (fun h => hz h.2) y HY.out)
              have hz0 : (((s[3]'hlt).toNat : Int) == 0) = false := by simp; omega
              clear hz
              go_wp2
              go_ret2
              exact ⟨by rw [HR.out]; rfl, rfl⟩
        · have hc := (s[4]'hlt).toNat_lt
          have HS := Lib.hid (ag_succ s 4 hlt)
          have hx : ag s 4 < 268435456 := ag_lt s 4
          have HN := Lib.hid (fun h => HBG.out.next hlt h)
          have HB := Lib.hid (fun h0 hz => HBG.out.bad (by omega) hlt h0 hz)
          have HG := Lib.hid (fun h1 h2 x (hx : ag s (4 + 1) = x) => HBG.out.good (x := x) (by omega) hlt h1 h2 hx)
          obtain ⟨y, hy⟩ : ∃ y, ag s (4 + 1) = y := ⟨_, rfl⟩
          have hor : bits .or .i64 ((ag s 4 : Nat) : Int) (((s[4]'hlt).toNat : Int) % 128 * 268435456) = (y : Int) := by
            exact or_v (ag s 4) ((s[4]'hlt).toNat % 128) 4 268435456 y (by decide) (by decide) hx (Nat.mod_lt _ (by decide)) (by rw [← hy]; exact HS.out) _ (by omega)
          have HY := Lib.hid hy; clear hy
          generalize ag s 4 = x at hx hor ⊢
          clear HS
          by_cases h128 : 128 ≤ (s[4]'hlt).toNat
          · go_wp2
            go_round
            case rel => exact ⟨5, by omega, by omega, by go_num, by rw [HY.out], HN.out h128⟩
            case measure => simp [intOf]
          · have hl128 : (s[4]'hlt).toNat < 128 := by omega
            have hd3 : decide (((s[4]'hlt).toNat : Int) < 128) = true := by simp; omega
            by_cases hz : (s[4]'hlt).toNat = 0
            · have HR := Lib.hid (HB.out (by decide) hz)
              have hz0 : (((s[4]'hlt).toNat : Int) == 0) = true := by simp; omega
              clear hz
              go_wp2
              go_ret2
              exact ⟨by rw [HR.out]; rfl, rfl⟩
            · have HR := Lib.hid (HG.out hl128 (fun h => hz h.2) y HY.out)
              have hz0 : (((s[4]'hlt).toNat : Int) == 0) = false := by simp; omega
              clear hz
              go_wp2
              go_ret2
              exact ⟨by rw [HR.out]; rfl, rfl⟩
        · have hc := (s[5]'hlt).toNat_lt
          have HS := Lib.hid (ag_succ s 5 hlt)
          have hx : ag s 5 < 34359738368 := ag_lt s 5
          have HN := Lib.hid (fun h => HBG.out.next hlt h)
          have HB := Lib.hid (fun h0 hz => HBG.out.bad (by omega) hlt h0 hz)
          have HG := Lib.hid (fun h1 h2 x (hx : ag s (5 + 1) = x) => HBG.out.good (x := x) (by omega) hlt h1 h2 hx)
          obtain ⟨y, hy⟩ : ∃ y, ag s (5 + 1) = y := ⟨_, rfl⟩
          have hor : bits .or .i64 ((ag s 5 : Nat) : Int) (((s[5]'hlt).toNat : Int) % 128 * 34359738368) = (y : Int) := by
            exact or_v (ag s 5) ((s[5]'hlt).toNat % 128) 5 34359738368 y (by decide) (by decide) hx (Nat.mod_lt _ (by decide)) (by rw [← hy]; exact HS.out) _ (by omega)
          have HY := Lib.hid hy; clear hy
          generalize ag s 5 = x at hx hor ⊢
          clear HS
          by_cases h128 : 128 ≤ (s[5]'hlt).toNat
          · go_wp2
            go_round
            case rel => exact ⟨6, by omega, by omega, by go_num, by rw [HY.out], HN.out h128⟩
            case measure => simp [intOf]
          · have hl128 : (s[5]'hlt).toNat < 128 := by omega
            have hd3 : decide (((s[5]'hlt).toNat : Int) < 128) = true := by simp; omega
            by_cases hz : (s[5]'hlt).toNat = 0
            · have HR := Lib.hid (HB.out (by decide) hz)
              have hz0 : (((s[5]'hlt).toNat : Int) == 0) = true := by simp; omega
              clear hz
              go_wp2
              go_ret2
              exact ⟨by rw [HR.out]; rfl, rfl⟩
            · have HR := Lib.hid (HG.out hl128 (fun h => hz h.2) y HY.out)
              have hz0 : (((s[5]'hlt).toNat : Int) == 0) = false := by simp; omega
              clear hz
              go_wp2
              go_ret2
              exact ⟨by rw [HR.out]; rfl, rfl⟩
        · have hc := (s[6]'hlt).toNat_lt
          have HS := Lib.hid (ag_succ s 6 hlt)
          have hx : ag s 6 < 4398046511104 := ag_lt s 6
          have HN := Lib.hid (fun h => HBG.out.next hlt h)
          have HB := Lib.hid (fun h0 hz => HBG.out.bad (by omega) hlt h0 hz)
          have HG := Lib.hid (fun h1 h2 x (hx : ag s (6 + 1) = x) => HBG.out.good (x := x) (by omega) hlt h1 h2 hx)
          obtain ⟨y, hy⟩ : ∃ y, ag s (6 + 1) = y := ⟨_, rfl⟩
          have hor : bits .or .i64 ((ag s 6 : Nat) : Int) (((s[6]'hlt).toNat : Int) % 128 * 4398046511104) = (y : Int) := by
            exact or_v (ag s 6) ((s[6]'hlt).toNat % 128) 6 4398046511104 y (by decide) (by decide) hx (Nat.mod_lt _ (by decide)) (by rw [← hy]; exact HS.out) _ (by omega)
          have HY := Lib.hid hy; clear hy
          generalize ag s 6 = x at hx hor ⊢
          clear HS
          by_cases h128 : 128 ≤ (s[6]'hlt).toNat
          · go_wp2
            go_round
            case rel => exact ⟨7, by omega, by omega, by go_num, by rw [HY.out], HN.out h128⟩
            case measure => simp [intOf]
          · have hl128 : (s[6]'hlt).toNat < 128 := by omega
            have hd3 : decide (((s[6]'hlt).toNat : Int) < 128) = true := by simp; omega
            by_cases hz : (s[6]'hlt).toNat = 0
            · have HR := Lib.hid (HB.out (by decide) hz)
              have hz0 : (((s[6]'hlt).toNat : Int) == 0) = true := by simp; omega
              clear hz
              go_wp2
              go_ret2
              exact ⟨by rw [HR.out]; rfl, rfl⟩
            · have HR := Lib.hid (HG.out hl128 (fun h => hz h.2) y HY.out)
              have hz0 : (((s[6]'hlt).toNat : Int) == 0) = false := by simp; omega
              clear hz
              go_wp2
              go_ret2
              exact ⟨by rw [HR.out]; rfl, rfl⟩
      · obtain rfl : k = 7 := by omega
        have HV := Lib.hid (HBG.out.none (.inl (by omega)))
        go_wp2
        go_ret2
        exact ⟨by rw [HV.out]; rfl, rfl⟩
    · have HV := Lib.hid (HBG.out.none (.inr (by omega)))
      go_wp2
      go_ret2
      exact ⟨by rw [HV.out]; rfl, rfl⟩
--SPEC
def rv (s : ByteArray) (m t : Nat) : Nat := accG t ((bl s).drop m)
theorem rv_zero (s : ByteArray) (m : Nat) : rv s m 0 = 0 := accG_zero _
theorem rv_succ (s : ByteArray) (m t : Nat) (h : m < s.size) : rv s m (t + 1) = (s[m]'h).toNat % 128 + 128 * rv s (m + 1) t := by
  unfold rv
  rw [List.drop_eq_getElem_cons (by rw [bl_len]; exact h), bl_get s m h]
  rfl
theorem rv_top (s : ByteArray) (t : Nat) : rv s 0 t = ag s t := rfl
theorem rv_lt (s : ByteArray) (m t : Nat) (h : t ≤ 6) : rv s m t < 4398046511104 := by
  have h1 := accG_lt t ((bl s).drop m)
  have h2 : (128 : Nat) ^ t ≤ 128 ^ 6 := Nat.pow_le_pow_right (by decide) h
  unfold rv
  omega
theorem ag_max (s : ByteArray) (t : Nat) (h : t ≤ 7) : ag s t ≤ 562949953421311 := by
  have h1 := ag_lt s t
  have h2 : (128 : Nat) ^ t ≤ 128 ^ 7 := Nat.pow_le_pow_right (by decide) h
  omega
theorem ex_list (s : ByteArray) (k : Nat) : (s.extract 0 k).toList = (bl s).take k := by
  rw [ByteArray.toList_eq]
  unfold bl
  rw [ByteArray.data_extract]
  simp
theorem ev_list (n : Nat) : (evB n).toList = encV 7 n := by unfold evB; exact ByteArray.toList_mk _
/-- None of the first places is a hit. -/
def Miss (s : ByteArray) (k : Nat) : Prop := ∀ j, j < k → j < 7 → j < (bl s).length → encV 7 (accG (j + 1) (bl s)) ≠ (bl s).take (j + 1)
theorem Miss.next {s : ByteArray} {j : Nat} {E : ByteArray} (h : Miss s j) (hE : evB (ag s (j + 1)) = E) (hq : (E.toList == (s.extract 0 (j + 1)).toList) = false) : Miss s (j + 1) := by
  intro i hi h7 hl
  by_cases e : i = j
  · subst e
    rw [← hE, ev_list, ex_list] at hq
    simpa [ag] using hq
  · exact h i (by omega) h7 hl
theorem Miss.done {s : ByteArray} {j : Nat} (h : Miss s j) (hj : 7 ≤ j ∨ s.size ≤ j) : dvV s = .tuple #[.int .i64 0, .int .i64 0] := by
  unfold dvV
  rw [dv_miss (fun k h7 hl => h k (by rw [bl_len] at hl; omega) h7 hl)]
  rfl
theorem hit_done {s : ByteArray} {j x : Nat} {E : ByteArray} (h7 : j < 7) (hj : j < s.size) (hx : ag s (j + 1) = x) (hE : evB x = E) (hq : (E.toList == (s.extract 0 (j + 1)).toList) = true) : dvV s = .tuple #[.int .i64 (x : Int), .int .i64 ((j : Int) + 1)] := by
  rw [← hE, ev_list, ex_list, ← hx] at hq
  unfold dvV
  rw [dv_hit h7 (by rw [bl_len]; exact hj) (by simpa [ag] using hq)]
  show Value.tuple #[.int .i64 ((ag s (j + 1) : Nat) : Int), _] = _
  rw [hx]; rfl
end Go.Proofs.YthhdjajjckcikaaDoor
