/- EncodeVarint: one contract for each package. No conditions. -/
import Derived.Test.YthhdjajjckcikaaDoorB1
namespace Go.Proofs.YthhdjajjckcikaaDoor
open Go.ChangeShapes Go.WideShapes Go.ChangeAt Go.RowKit Go.Sort QM VM
set_option linter.unusedVariables false
set_option linter.unusedSimpArgs false
def evB (n : Nat) : ByteArray := ⟨(encV 7 n).toArray⟩
/-- Where the loop stands: the bytes L written, q left. -/
def VAt (n : Nat) (L : List UInt8) (q : Nat) : Prop := ∃ f, q < 128 ^ (f + 1) ∧ encV 7 n = L ++ encV f q
theorem VAt.start {n : Nat} (h : n ≤ 562949953421311) : VAt n [] n := by
  have e : (128 : Nat) ^ (7 + 1) = 72057594037927936 := by decide
  exact ⟨7, by omega, by simp⟩
theorem VAt.len {n q : Nat} {L : List UInt8} (h : VAt n L q) : L.length ≤ 8 := by
  obtain ⟨f, _, e⟩ := h
  have h1 := encV_len 7 n
  rw [e, List.length_append] at h1
  omega
theorem VAt.next {n q : Nat} {L : List UInt8} (h : VAt n L q) (hq : 128 ≤ q) : VAt n (L ++ [UInt8.ofNat (q % 128 + 128)]) (q / 128) := by
  obtain ⟨f, h1, e⟩ := h
  cases f with
  | zero => simp at h1; omega
  | succ f =>
    refine ⟨f, ?_, ?_⟩
    · rw [Nat.pow_succ] at h1; omega
    · rw [e, encV_big (by omega)]; simp
theorem VAt.done {n q : Nat} {L : List UInt8} (h : VAt n L q) (hq : q < 128) : evB n = ⟨(L ++ [UInt8.ofNat q]).toArray⟩ := by
  obtain ⟨f, h1, e⟩ := h
  unfold evB
  rw [e, encV_small hq]
def evI (n : Int) : ByteArray := if 0 ≤ n ∧ n ≤ 562949953421311 then evB n.toNat else ⟨#[]⟩
set_option maxHeartbeats 2000000 in
theorem iEV (n : Nat) (hn : n ≤ 562949953421311) (w : World) : Calls Tryd.prog 7 #[.int .i64 n] w fun e w' => e = .returned (.string (evB n)) ∧ Below w.heap.size w w' := by
  obtain ⟨i0, hi, hz0, hz1, hz2⟩ := info_parts info_byte
  have HW := Lib.hid (bown_empty w w.heap.size 5 1 (Nat.le_refl _))
  have HB := Lib.hid (show Below w.heap.size w (w.alloc (.cells #[] 5)) from (Below.refl _ _).alloc (Nat.le_refl _) _)
  have hd1 : (decide ((0 : Int) ≤ (n : Int)) && decide ((n : Int) ≤ 562949953421311)) = true := by simp; omega
  have hd2 : decide ((n : Int) ≤ 562949953421311) = true := by simp; omega
  have HV := Lib.hid (VAt.start hn)
  go_enter Tryd.func7, Tryd.ntmps7
  go_wp2_with (first | (go_at_call 21; refine (within_any _ _ _ _).mono ?_; rintro e w' ⟨rfl, rfl⟩))
  generalize w.alloc (.cells #[] 5) = w1 at HW HB ⊢
  go_loopw [0, 3] (fun x v wr => ∃ (q : Nat) (L : List UInt8), x = .int .i64 (q : Int) ∧ q ≤ 562949953421311 ∧ VAt n L q ∧ v ≠ .slice none 0 0 ∧ wr.ownsRow w.heap.size 5 1 v L.length (bys L) ∧ Below w.heap.size w wr) (fun x v _ => (intOf x).toNat)
  case atStart => exact ⟨n, [], rfl, hn, HV.out, by simp, HW.out, HB.out⟩
  case round =>
    obtain ⟨q, L, rfl, hq, hva, hne, ho, hbw⟩ := hrel
    have hl8 := hva.len
    have HVA := Lib.hid hva; clear hva
    have HNE := Lib.hid hne; clear hne
    have HO := Lib.hid ho; clear ho
    have hsz := hbw.size
    clear HW HB HV
    by_cases hlt : 128 ≤ q
    · have hd : decide ((128 : Int) ≤ (q : Int)) = true := by simp; omega
      go_wp2_with (first | (at_builtin; refine wpList_append_own _ rfl _ _ 22 rfl w.heap.size 5 i0 (.int .u8 0) 1 1 Tryd.underlying22 hi hz0 hz1 hz2 rfl (by decide) _ _ _ rfl (HO.out.alloc _) ⟨wr.heap.size, 0, none⟩ 1 1 [.int .u8 ((q : Int) % 128 + 128)] rfl rfl (bnews1 _ (by simp)) (bone_1 _) (by unfold maxLen; omega) (by omega) (by simp; omega) ?_))
      intro v' w1 hown1 hgrow hnil
      have hb2 : Below w.heap.size w w1 := (hbw.alloc hsz (.cells #[.int .u8 ((q : Int) % 128 + 128)] 5)).grown hgrow (by simp; omega) (fun k hk => (HO.out.lt k hk).1)
      have HO1 := Lib.hid (show w1.ownsRow w.heap.size 5 1 v' (L ++ [UInt8.ofNat (q % 128 + 128)]).length (bys (L ++ [UInt8.ofNat (q % 128 + 128)])) by rw [← bys_snoc L (q % 128 + 128) ((q : Int) % 128 + 128) (by omega) (by omega)]; simpa using hown1)
      have HN1 := Lib.hid (show v' ≠ .slice none 0 0 from fun e => hnil e)
      have HV1 := Lib.hid (HVA.out.next hlt)
      clear hown1 hgrow hnil HO
      go_wp2
      go_roundw
      case rel => exact ⟨q / 128, L ++ [UInt8.ofNat (q % 128 + 128)], by go_num, by omega, HV1.out, HN1.out, HO1.out, hb2⟩
      case measure => simp [intOf]; omega
    · have hq1 : q < 128 := by omega
      have hd : decide ((128 : Int) ≤ (q : Int)) = false := by simp; omega
      go_wp2_with (first | (at_builtin; refine wpList_append_own _ rfl _ _ 22 rfl w.heap.size 5 i0 (.int .u8 0) 1 1 Tryd.underlying22 hi hz0 hz1 hz2 rfl (by decide) _ _ _ rfl (HO.out.alloc _) ⟨wr.heap.size, 0, none⟩ 1 1 [.int .u8 (q : Int)] rfl rfl (bnews1 _ (by simp)) (bone_1 _) (by unfold maxLen; omega) (by omega) (by simp; omega) ?_))
      intro v' w1 hown1 hgrow hnil
      have hb2 : Below w.heap.size w w1 := (hbw.alloc hsz (.cells #[.int .u8 (q : Int)] 5)).grown hgrow (by simp; omega) (fun k hk => (HO.out.lt k hk).1)
      have HO1 : w1.ownsRow w.heap.size 5 1 v' (L ++ [UInt8.ofNat q]).length (bys (L ++ [UInt8.ofNat q])) := by rw [← bys_snoc L q (q : Int) rfl (by omega)]; simpa using hown1
      have HN1 : v' ≠ .slice none 0 0 := fun e => hnil e
      have hcv := conv_own HO1 HN1
      rw [← HVA.out.done hq1] at hcv
      clear hown1 hgrow hnil HO HO1 HN1
      go_wp2
      go_ret
      exact ⟨rfl, hb2⟩
theorem ev_cases (n : Int) : (n < 0 ∨ 562949953421311 < n) ∨ ∃ N : Nat, n = N ∧ N ≤ 562949953421311 := by
  by_cases h : n < 0 ∨ 562949953421311 < n
  · exact .inl h
  · exact .inr ⟨n.toNat, by omega, by omega⟩
theorem evI_out {n : Int} (h : n < 0 ∨ 562949953421311 < n) : evI n = ⟨#[]⟩ := by unfold evI; rw [if_neg (by omega)]
theorem evI_in {n : Nat} (h : n ≤ 562949953421311) : evI n = evB n := by unfold evI; rw [if_pos (by omega)]; simp
theorem iEV0 (n : Int) (h : n < 0 ∨ 562949953421311 < n) (w : World) : Calls Tryd.prog 7 #[.int .i64 n] w fun e w' => e = .returned (.string ⟨#[]⟩) ∧ Below w.heap.size w w' := by
  have hb : (decide ((0 : Int) ≤ n) && decide (n ≤ 562949953421311)) = false := by simp; omega
  go_enter Tryd.func7, Tryd.ntmps7
  go_wp2_with (first | (go_at_call 21; refine (within_any _ _ _ _).mono ?_; rintro e w' ⟨rfl, rfl⟩; rw [hb]))
  go_ret
  exact ⟨rfl, Below.refl _ _⟩
theorem iEVI (n : Int) (w : World) : Calls Tryd.prog 7 #[.int .i64 n] w fun e w' => e = .returned (.string (evI n)) ∧ Below w.heap.size w w' := by
  rcases ev_cases n with h | ⟨N, rfl, h⟩
  · rw [evI_out h]; exact iEV0 n h w
  · rw [evI_in h]; exact iEV N h w
end Go.Proofs.YthhdjajjckcikaaDoor
