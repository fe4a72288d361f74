/- DecodeHex: one contract for each package; the walks of both hexadecimal laws. No conditions. -/
import Derived.Test.YthhdjajjckcikaaDoorB4
namespace Go.Proofs.YthhdjajjckcikaaDoor
open Go.ChangeShapes Go.WideShapes Go.ChangeAt Go.RowKit Go.Sort QM VM
set_option linter.unusedVariables false
set_option linter.unusedSimpArgs false
def dhL (s : ByteArray) : ByteArray := ⟨((decH (bl s)).getD []).toArray⟩
def dhB (s : ByteArray) : Bool := (decH (bl s)).isSome
theorem dh_odd {s : ByteArray} (h : s.size % 2 = 1) : dhL s = ⟨#[]⟩ ∧ dhB s = false := by
  have e := decH_odd (s.size / 2) (bl s) (by rw [bl_len]; omega)
  simp [dhL, dhB, e]
/-- Where the loop stands: at place p, with the bytes L read. -/
def DHAt (s : ByteArray) (p : Nat) (L : List UInt8) : Prop := p = 2 * L.length ∧ p ≤ s.size ∧ decH (bl s) = (decH ((bl s).drop p)).map (L ++ ·)
theorem DHAt.start (s : ByteArray) : DHAt s 0 [] := ⟨rfl, Nat.zero_le _, by cases h : decH (bl s) <;> simp [h]⟩
theorem dh_two (s : ByteArray) (p : Nat) (h : p + 1 < s.size) : (bl s).drop p = s[p] :: s[p + 1] :: (bl s).drop (p + 2) := by
  rw [List.drop_eq_getElem_cons (by rw [bl_len]; omega), List.drop_eq_getElem_cons (by rw [bl_len]; omega), bl_get s p (by omega), bl_get s (p + 1) h]
theorem DHAt.fail {s : ByteArray} {p : Nat} {L : List UInt8} (h : DHAt s p L) (hp : p + 1 < s.size) (hx : hexV (s[p]'(by omega)) < 0 ∨ hexV (s[p + 1]'hp) < 0) : dhL s = ⟨#[]⟩ ∧ dhB s = false := by
  obtain ⟨_, _, e⟩ := h
  rw [dh_two s p hp] at e
  simp only [decH] at e
  rw [if_pos hx] at e
  simp at e
  simp [dhL, dhB, e]
theorem DHAt.next {s : ByteArray} {p : Nat} {L : List UInt8} {m : Nat} (h : DHAt s p L) (hp : p + 1 < s.size) (hx : ¬ (hexV (s[p]'(by omega)) < 0 ∨ hexV (s[p + 1]'hp) < 0)) (hm : 16 * (hexV (s[p]'(by omega))).toNat + (hexV (s[p + 1]'hp)).toNat = m) : DHAt s (p + 2) (L ++ [UInt8.ofNat m]) := by
  obtain ⟨h1, h2, e⟩ := h
  refine ⟨by simp; omega, by omega, ?_⟩
  rw [dh_two s p hp] at e
  simp only [decH] at e
  rw [if_neg hx, hm] at e
  rw [e]
  generalize decH ((bl s).drop (p + 2)) = o
  cases o <;> simp
theorem DHAt.done {s : ByteArray} {p : Nat} {L : List UInt8} (h : DHAt s p L) (hp : s.size ≤ p) : dhL s = ⟨L.toArray⟩ ∧ dhB s = true := by
  obtain ⟨_, _, e⟩ := h
  rw [List.drop_eq_nil_of_le (by rw [bl_len]; exact hp)] at e
  simp [decH] at e
  simp [dhL, dhB, e]
theorem at_same (s : ByteArray) (i k : Nat) (hi : i < s.size) (hk : k < s.size) (h : i = k) : ((s[i]'hi).toNat : Int) = ((s[k]'hk).toNat : Int) := by subst h; rfl
theorem hexValue_int (z : Int) (c : UInt8) (hz : z = (c.toNat : Int)) (w : World) : Calls Tryd.prog 24 #[.int .u8 z] w fun e w' => e = .returned (.int .i64 (hexV c)) ∧ w = w' := by
  subst hz; exact hexValue_any c w
theorem ret_two {a b : ByteArray} {x y : Bool} (h1 : a = b) (h2 : x = y) : Ending.returned (.tuple #[.string a, .bool x]) = .returned (.tuple #[.string b, .bool y]) := by rw [h1, h2]
set_option maxHeartbeats 2000000 in
theorem iDH (s : ByteArray) (hs : s.size ≤ 1048576) (w : World) : Calls Tryd.prog 14 #[.string s] w fun e w' => e = .returned (.tuple #[.string (dhL s), .bool (dhB s)]) ∧ Below w.heap.size w w' := by
  obtain ⟨i0, hi, hz0, hz1, hz2⟩ := info_parts info_byte
  have HW := Lib.hid (bown_empty w w.heap.size 5 1 (Nat.le_refl _))
  have HB := Lib.hid (show Below w.heap.size w (w.alloc (.cells #[] 5)) from (Below.refl _ _).alloc (Nat.le_refl _) _)
  by_cases hodd : s.size % 2 = 1
  · have hd : (((s.size : Int) % 2) == 0) = false := by simp; omega
    obtain ⟨h1, h2⟩ := dh_odd hodd
    rw [h1, h2]
    go_enter Tryd.func14, Tryd.ntmps14
    go_wp2
    go_ret2
    exact ⟨rfl, Below.refl _ _⟩
  · have hd : (((s.size : Int) % 2) == 0) = true := by simp; omega
    have hdn : (((s.size : Int) % 2) != 0) = false := by simp; omega
    go_enter Tryd.func14, Tryd.ntmps14
    go_wp2
    generalize w.alloc (.cells #[] 5) = w1 at HW HB ⊢
    go_loopw [4, 5, 6, 7] (fun v i _ _ wr => ∃ (p : Nat) (L : List UInt8), i = .int .i64 p ∧ DHAt s p L ∧ v ≠ .slice none 0 0 ∧ wr.ownsRow w.heap.size 5 1 v L.length (bys L) ∧ Below w.heap.size w wr) (fun v i _ _ _ => s.size + 2 - (intOf i).toNat)
    case atStart => exact ⟨0, [], rfl, DHAt.start s, by simp, HW.out, HB.out⟩
    case round =>
      obtain ⟨p, L, rfl, hda, hne, ho, hbw⟩ := hrel
      have hpL1 : p ≤ 2 * L.length := by have := hda.1; omega
      have hpL2 : 2 * L.length ≤ p := by have := hda.1; omega
      have hps := hda.2.1
      have HDA := Lib.hid hda; clear hda
      have HNE := Lib.hid hne; clear hne
      have HO := Lib.hid ho; clear ho
      have hsz := hbw.size
      clear HW HB
      by_cases hlt : p < s.size
      · have hp1 : p + 1 < s.size := by omega
        have hfa := Lib.hid (HDA.out.fail hp1)
        have hnx := Lib.hid (fun m => HDA.out.next (m := m) hp1)
        obtain ⟨x, hx⟩ : ∃ x, hexV (s[p]'hlt) = x := ⟨_, rfl⟩
        obtain ⟨y, hy⟩ : ∃ y, hexV (s[p + 1]'hp1) = y := ⟨_, rfl⟩
        have hbx := hexV_bd (s[p]'hlt)
        have hby := hexV_bd (s[p + 1]'hp1)
        rw [hx] at hbx
        rw [hy] at hby
        have hbx1 := hbx.1; have hbx2 := hbx.2; have hby1 := hby.1; have hby2 := hby.2; clear hbx hby
        have HX := Lib.hid hx; have HY := Lib.hid hy; clear hx hy
        have hwp : IntKind.i64.wrap ((p : Int) + 1) = (p : Int) + 1 := by rw [IntKind.wrap_i64]; omega
        have hpi0 : (0 : Int) ≤ (p : Int) + 1 := by omega
        have hpi1 : (p : Int) + 1 < (s.size : Int) := by omega
        have hpj0 : (0 : Int) ≤ (p : Int) := by omega
        have hpj1 : (p : Int) < (s.size : Int) := by omega
        go_wp2_with fail
        go_region_held3 (fun _ => True) (first | trivial) (first | (go_at_call 24; refine (hexValue_int _ (s[p]'hlt) ?_ _).mono ?_; (refine at_same s _ _ _ _ ?_; omega); rintro e w' ⟨rfl, rfl⟩; rw [HX.out]) | (go_at_call 24; refine (hexValue_int _ (s[p + 1]'hp1) ?_ _).mono ?_; (refine at_same s _ _ _ _ ?_; omega); rintro e w' ⟨rfl, rfl⟩; rw [HY.out]))
        all_goals
          replace hbw := hbw.drew
          replace hsz := hbw.size
          replace HO := Lib.hid HO.out.drew
          generalize wr.drew = wr2 at hbw HO hsz ⊢
          by_cases hxx : x < 0
          · have hd1 : decide (x < 0) = true := by simpa using hxx
            obtain ⟨r1, r2⟩ := hfa.out (.inl (by rw [HX.out]; exact hxx))
            have R1 := Lib.hid r1; have R2 := Lib.hid r2; clear r1 r2
            go_wp2
            go_ret2
            exact ⟨ret_two R1.out.symm R2.out.symm, hbw⟩
          · have hd1 : decide (x < 0) = false := by simp; omega
            by_cases hyy : y < 0
            · have hd2 : decide (y < 0) = true := by simpa using hyy
              obtain ⟨r1, r2⟩ := hfa.out (.inr (by rw [HY.out]; exact hyy))
              have R1 := Lib.hid r1; have R2 := Lib.hid r2; clear r1 r2
              go_wp2
              go_ret2
              exact ⟨ret_two R1.out.symm R2.out.symm, hbw⟩
            · have hd2 : decide (y < 0) = false := by simp; omega
              have HN := Lib.hid (hnx.out (16 * x.toNat + y.toNat) (by rw [HX.out, HY.out]; omega) (by rw [HX.out, HY.out]))
              go_wp2_with (first | (at_builtin; refine wpList_append_own _ rfl _ _ 22 rfl w.heap.size 5 i0 (.int .u8 0) 1 1 Tryd.underlying22 hi hz0 hz1 hz2 rfl (by decide) _ _ _ rfl (HO.out.alloc _) ⟨wr2.heap.size, 0, none⟩ 1 1 [.int .u8 (16 * x + y)] rfl rfl (bnews1 _ (by simp)) (bone_1 _) (by unfold maxLen; omega) (by omega) (by simp; omega) ?_))
              intro v' w1 hown1 hgrow hnil
              have hb2 : Below w.heap.size w w1 := (hbw.alloc hsz (.cells #[.int .u8 (16 * x + y)] 5)).grown hgrow (by simp; omega) (fun k hk => (HO.out.lt k hk).1)
              have HO1 := Lib.hid (show w1.ownsRow w.heap.size 5 1 v' (L ++ [UInt8.ofNat (16 * x.toNat + y.toNat)]).length (bys (L ++ [UInt8.ofNat (16 * x.toNat + y.toNat)])) by rw [← bys_snoc L (16 * x.toNat + y.toNat) (16 * x + y) (by omega) (by omega)]; simpa using hown1)
              have HN1 := Lib.hid (show v' ≠ .slice none 0 0 from fun e => hnil e)
              clear hown1 hgrow hnil HO
              go_wp2
              go_roundw
              case rel => exact ⟨p + 2, L ++ [UInt8.ofNat (16 * x.toNat + y.toNat)], by go_num, HN.out, HN1.out, HO1.out, hb2⟩
              case measure => simp [intOf]; omega
      · have hcv := conv_own HO.out HNE.out
        obtain ⟨r1, r2⟩ := HDA.out.done (by omega)
        rw [← r1] at hcv
        have R2 := Lib.hid r2; clear r1 r2
        go_wp2
        go_ret2
        exact ⟨ret_two rfl R2.out.symm, hbw⟩
end Go.Proofs.YthhdjajjckcikaaDoor
