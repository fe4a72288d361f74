/- EncodeHex, DecodeHex: one contract for each function. No conditions. -/
import Derived.Test.YthhdjajjckcikaaDoorB1
import Derived.Deep.RegionHeld3
import Derived.Deep.AppendLies
namespace Go.Proofs.YthhdjajjckcikaaDoor
open Go.ChangeShapes Go.WideShapes Go.ChangeAt Go.RowKit Go.Sort QM VM
set_option linter.unusedVariables false
set_option linter.unusedSimpArgs false
theorem hexValue_any (c : UInt8) (w : World) : Calls Tryd.prog 24 #[.int .u8 (c.toNat : Int)] w fun e w' => e = .returned (.int .i64 (hexV c)) ∧ w = w' := by
  have hc := c.toNat_lt
  have hcs : (c.toNat < 48 ∧ hexV c = -1) ∨ (48 ≤ c.toNat ∧ c.toNat ≤ 57 ∧ hexV c = (c.toNat : Int) - 48) ∨ (57 < c.toNat ∧ c.toNat < 97 ∧ hexV c = -1) ∨ (97 ≤ c.toNat ∧ c.toNat ≤ 102 ∧ hexV c = (c.toNat : Int) - 87) ∨ (102 < c.toNat ∧ hexV c = -1) := by
    unfold hexV
    (repeat' split) <;> omega
  generalize hexV c = h at hcs ⊢
  generalize c.toNat = n at hc hcs ⊢
  rcases hcs with ⟨h1, rfl⟩ | ⟨h1, h2, rfl⟩ | ⟨h1, h2, rfl⟩ | ⟨h1, h2, rfl⟩ | ⟨h1, rfl⟩
  all_goals go_enter Tryd.func24, Tryd.ntmps24
  all_goals go_wp2
  all_goals go_ret
  all_goals exact ⟨ret_int (by omega), rfl⟩
def ehB (s : ByteArray) : ByteArray := ⟨(encH (bl s)).toArray⟩
def ehL (s : ByteArray) (k : Nat) : List UInt8 := encH ((bl s).take k)
theorem ehL_zero (s : ByteArray) : ehL s 0 = [] := by simp [ehL, encH]
theorem ehL_len (s : ByteArray) (k : Nat) (h : k ≤ s.size) : (ehL s k).length = 2 * k := by unfold ehL; rw [encH_len, List.length_take, bl_len]; omega
theorem ehL_succ (s : ByteArray) (k : Nat) (h : k < s.size) : ehL s (k + 1) = ehL s k ++ [dig ((s[k]'h).toNat / 16), dig ((s[k]'h).toNat % 16)] := by
  unfold ehL encH
  have hl : k < (bl s).length := by rw [bl_len]; exact h
  rw [List.take_succ_eq_append_getElem hl, List.flatMap_append, bl_get s k h]
  simp
theorem ehL_end (s : ByteArray) : (⟨(ehL s s.size).toArray⟩ : ByteArray) = ehB s := by
  unfold ehL ehB
  rw [List.take_of_length_le (by rw [bl_len]; exact Nat.le_refl _)]
theorem dig_get (z : Int) (n : Nat) (hz : z = (n : Int)) (h : n < 16) : ((({ data := #[48, 49, 50, 51, 52, 53, 54, 55, 56, 57, 97, 98, 99, 100, 101, 102] } : ByteArray)[z.toNat]'(by show z.toNat < 16; omega)).toNat : Int) = ((dig n).toNat : Int) := by
  subst hz
  have h16 : n = 0 ∨ n = 1 ∨ n = 2 ∨ n = 3 ∨ n = 4 ∨ n = 5 ∨ n = 6 ∨ n = 7 ∨ n = 8 ∨ n = 9 ∨ n = 10 ∨ n = 11 ∨ n = 12 ∨ n = 13 ∨ n = 14 ∨ n = 15 := by omega
  rcases h16 with rfl | rfl | rfl | rfl | rfl | rfl | rfl | rfl | rfl | rfl | rfl | rfl | rfl | rfl | rfl | rfl
  all_goals rfl
set_option maxHeartbeats 2000000 in
theorem iEH (s : ByteArray) (hs : s.size ≤ 1048576) (w : World) : Calls Tryd.prog 13 #[.string s] w fun e w' => e = .returned (.string (ehB s)) ∧ Below w.heap.size w w' := by
  obtain ⟨i0, hi, hz0, hz1, hz2⟩ := info_parts info_byte
  have HW := Lib.hid (bown_empty w w.heap.size 5 1 (Nat.le_refl _))
  have HB := Lib.hid (show Below w.heap.size w (w.alloc (.cells #[] 5)) from (Below.refl _ _).alloc (Nat.le_refl _) _)
  have HE := Lib.hid (ehL_end s)
  have HS := Lib.hid (ehL_succ s)
  go_enter Tryd.func13, Tryd.ntmps13
  go_wp2
  generalize w.alloc (.cells #[] 5) = w1 at HW HB ⊢
  go_loopw [3, 4] (fun v i wr => ∃ k : Nat, k ≤ s.size ∧ i = .int .i64 k ∧ v ≠ .slice none 0 0 ∧ wr.ownsRow w.heap.size 5 1 v (2 * k) (bys (ehL s k)) ∧ Below w.heap.size w wr) (fun v i _ => s.size - (intOf i).toNat)
  case atStart => exact ⟨0, Nat.zero_le _, rfl, by simp, by rw [ehL_zero]; exact HW.out, HB.out⟩
  case round =>
    obtain ⟨k, hk, rfl, hne, ho, hbw⟩ := hrel
    have HNE := Lib.hid hne; clear hne
    have HO := Lib.hid ho; clear ho
    have hsz := hbw.size
    clear HW HB
    by_cases hlt : k < s.size
    · have hc := (s[k]'hlt).toNat_lt
      have HSK := Lib.hid (HS.out k hlt)
      go_wp2_with fail
      have hlen := ehL_len s k hk
      have hd16 : (s[k]'hlt).toNat / 16 < 16 := by omega
      have hm16 : (s[k]'hlt).toNat % 16 < 16 := by omega
      have hw1 : IntKind.u8.wrap (((s[k]'hlt).toNat : Int) / 16) = ((s[k]'hlt).toNat : Int) / 16 := by rw [IntKind.wrap_u8]; omega
      have hw2 : IntKind.u8.wrap (((s[k]'hlt).toNat : Int) % 16) = ((s[k]'hlt).toNat : Int) % 16 := by rw [IntKind.wrap_u8]; omega
      have ht : Int.tmod ((s[k]'hlt).toNat : Int) 16 = ((s[k]'hlt).toNat : Int) % 16 := Int.tmod_eq_emod_of_nonneg (by omega)
      have hx0 : 0 ≤ ((s[k]'hlt).toNat : Int) / 16 := by omega
      have hx1 : ((s[k]'hlt).toNat : Int) / 16 < 16 := by omega
      have hy0 : 0 ≤ ((s[k]'hlt).toNat : Int) % 16 := by omega
      have hy1 : ((s[k]'hlt).toNat : Int) % 16 < 16 := by omega
      have hg1 := dig_get (((s[k]'hlt).toNat : Int) / 16) _ (show ((s[k]'hlt).toNat : Int) / 16 = (((s[k]'hlt).toNat / 16 : Nat) : Int) by omega) hd16
      have hg2 := dig_get (((s[k]'hlt).toNat : Int) % 16) _ (show ((s[k]'hlt).toNat : Int) % 16 = (((s[k]'hlt).toNat % 16 : Nat) : Int) by omega) hm16
      go_region_held3 (fun _ => True) (first | trivial) (first | (refine step_append_lies _ (by rfl) _ _ _ (by rfl) w.heap.size 5 i0 _ 1 1 Tryd.underlying22 hi hz0 hz1 hz2 rfl (by omega) _ _ _ (by rfl) ((HO.out.alloc _).drew) ⟨wr.heap.size, 0, none⟩ 2 2 [.int .u8 ((dig ((s[k]'hlt).toNat / 16)).toNat : Int), .int .u8 ((dig ((s[k]'hlt).toNat % 16)).toNat : Int)] (by rfl) (by rfl) (World.news_of_block (cs := #[.int .u8 ((dig ((s[k]'hlt).toNat / 16)).toNat : Int), .int .u8 ((dig ((s[k]'hlt).toNat % 16)).toNat : Int)]) (t := 5) (fr := (0, 0)) (heap_alloc_new wr _)) (by simp [Value.oneCell']) (by omega) (by unfold maxLen; omega) (by omega) (by simp; omega) (wr.heap.size + 1) (by simp) ?_; intro gg1 cap1 w1 hown1 hgrow1 hat1 hlt1))
      all_goals
        have hb2 : Below w.heap.size w w1 := ((hbw.alloc hsz (.cells #[.int .u8 ((dig ((s[k]'hlt).toNat / 16)).toNat : Int), .int .u8 ((dig ((s[k]'hlt).toNat % 16)).toNat : Int)] 5)).drew).grown hgrow1 (by simp; omega) (fun k hk => (HO.out.lt k hk).1)
        have HO1 := Lib.hid (show w1.ownsRow w.heap.size 5 1 (.slice (some ⟨gg1, 0, none⟩) (2 * k + 2) cap1) (2 * (k + 1)) (bys (ehL s (k + 1))) by rw [HSK.out, ← bys_snoc2]; exact hown1)
        clear hown1 hgrow1 hat1 hlt1
        go_wp2
        go_roundw
        case rel => exact ⟨k + 1, by omega, by go_num, by simp, HO1.out, hb2⟩
        case measure => simp [intOf]; omega
    · obtain rfl : k = s.size := by omega
      have hcv := conv_own HO.out HNE.out
      rw [HE.out] at hcv
      go_wp2
      go_ret
      exact ⟨rfl, hbw⟩
end Go.Proofs.YthhdjajjckcikaaDoor
