/- impl.readFrame of each kind. No conditions. -/
import Derived.Test.YtadoiehgobcjcaaA7
import Derived.StillTailTactics
namespace Go.Proofs.Ytadoiehgobcjcaa
open Go.ChangeShapes Go.WideShapes Go.ChangeAt Go.RowKit Go.Sort QM
set_option linter.unusedVariables false
set_option linter.unusedSimpArgs false
set_option maxRecDepth 20000 in
set_option maxHeartbeats 4000000 in
theorem iRF_4 (s : ByteArray) (hs : s.size ≤ 1048576) (p : Nat) (hp : p < s.size) (hk : (s[p]'hp).toNat = 4) (w : World) :
    Calls Try.prog 58 #[.string s, .int .i64 p] w fun e w' => Below w.heap.size w w' ∧ RfV (rfK s 4 ((p : Int) + 1)) e := by
  have hk3 : (((s[p]'hp).toNat : Nat) : Int) = 4 := by omega
  have hkw : wrap64 4 = 4 := by unfold wrap64; omega
  clear hk
  have hd4 : decide ((p : Int) ≤ (s.size : Int) - 1) = true := by simp; omega
  obtain ⟨p1, hp1⟩ : ∃ p1, p + 1 = p1 := ⟨_, rfl⟩
  have hp2 : (p : Int) + 1 = p1 := by omega
  rw [hp2]
  have k0 : Bk (w.alloc (.cells #[.int .i64 0, .int .i64 0, .int .i64 0, .string ⟨#[]⟩, .bool false, .int .i64 0, .int .i64 0, .int .i64 0, .bool false] 40)) w.heap.size 40 #[.int .i64 0, .int .i64 0, .int .i64 0, .string ⟨#[]⟩, .bool false, .int .i64 0, .int .i64 0, .int .i64 0, .bool false] := heap_alloc_new w _
  have hb0 : Below w.heap.size w (w.alloc (.cells #[.int .i64 0, .int .i64 0, .int .i64 0, .string ⟨#[]⟩, .bool false, .int .i64 0, .int .i64 0, .int .i64 0, .bool false] 40)) := (Below.refl _ _).alloc (Nat.le_refl _) _
  have hs0 : (w.alloc (.cells #[.int .i64 0, .int .i64 0, .int .i64 0, .string ⟨#[]⟩, .bool false, .int .i64 0, .int .i64 0, .int .i64 0, .bool false] 40)).heap.size = w.heap.size + 1 := by simp
  go_enter Try.func58, Try.ntmps58
  go_wp2_with (first | (go_at_call 47; go_in))
  generalize (w.alloc (.cells #[.int .i64 0, .int .i64 0, .int .i64 0, .string ⟨#[]⟩, .bool false, .int .i64 0, .int .i64 0, .int .i64 0, .bool false] 40)) = w0 at k0 hb0 hs0 ⊢
  have k1 : Bk (w0.alloc (.cells #[.int .i64 4, .int .i64 0, .int .i64 0, .string ⟨#[]⟩, .bool false, .int .i64 0, .int .i64 0, .int .i64 0, .bool false] 40)) (w.heap.size + 1) 40 #[.int .i64 4, .int .i64 0, .int .i64 0, .string ⟨#[]⟩, .bool false, .int .i64 0, .int .i64 0, .int .i64 0, .bool false] := by rw [← hs0]; exact heap_alloc_new w0 _
  replace k0 := k0.below ((Below.refl w0.heap.size w0).alloc (Nat.le_refl _) (.cells #[.int .i64 4, .int .i64 0, .int .i64 0, .string ⟨#[]⟩, .bool false, .int .i64 0, .int .i64 0, .int .i64 0, .bool false] 40)) k0.lt
  replace hb0 := hb0.alloc hb0.size (.cells #[.int .i64 4, .int .i64 0, .int .i64 0, .string ⟨#[]⟩, .bool false, .int .i64 0, .int .i64 0, .int .i64 0, .bool false] 40)
  replace hs0 : (w0.alloc (.cells #[.int .i64 4, .int .i64 0, .int .i64 0, .string ⟨#[]⟩, .bool false, .int .i64 0, .int .i64 0, .int .i64 0, .bool false] 40)).heap.size = (w.heap.size + 1) + 1 := by rw [← hs0]; simp
  generalize (w0.alloc (.cells #[.int .i64 4, .int .i64 0, .int .i64 0, .string ⟨#[]⟩, .bool false, .int .i64 0, .int .i64 0, .int .i64 0, .bool false] 40)) = w1 at k0 k1 hb0 hs0 ⊢
  have kp : Bk (w1.alloc (.cells #[.pointer (some ⟨w.heap.size + 1, 1, none⟩), .pointer (some ⟨w.heap.size + 1, 5, none⟩), .pointer (some ⟨w.heap.size + 1, 7, none⟩)] 78)) (w.heap.size + 1 + 1) 78 #[.pointer (some ⟨w.heap.size + 1, 1, none⟩), .pointer (some ⟨w.heap.size + 1, 5, none⟩), .pointer (some ⟨w.heap.size + 1, 7, none⟩)] := by rw [← hs0]; exact heap_alloc_new w1 _
  replace k0 := k0.below ((Below.refl w1.heap.size w1).alloc (Nat.le_refl _) (.cells #[.pointer (some ⟨w.heap.size + 1, 1, none⟩), .pointer (some ⟨w.heap.size + 1, 5, none⟩), .pointer (some ⟨w.heap.size + 1, 7, none⟩)] 78)) k0.lt
  replace k1 := k1.below ((Below.refl w1.heap.size w1).alloc (Nat.le_refl _) (.cells #[.pointer (some ⟨w.heap.size + 1, 1, none⟩), .pointer (some ⟨w.heap.size + 1, 5, none⟩), .pointer (some ⟨w.heap.size + 1, 7, none⟩)] 78)) k1.lt
  replace hb0 := hb0.alloc hb0.size (.cells #[.pointer (some ⟨w.heap.size + 1, 1, none⟩), .pointer (some ⟨w.heap.size + 1, 5, none⟩), .pointer (some ⟨w.heap.size + 1, 7, none⟩)] 78)
  replace hs0 : (w1.alloc (.cells #[.pointer (some ⟨w.heap.size + 1, 1, none⟩), .pointer (some ⟨w.heap.size + 1, 5, none⟩), .pointer (some ⟨w.heap.size + 1, 7, none⟩)] 78)).heap.size = (w.heap.size + 1 + 1) + 1 := by rw [← hs0]; simp
  generalize (w1.alloc (.cells #[.pointer (some ⟨w.heap.size + 1, 1, none⟩), .pointer (some ⟨w.heap.size + 1, 5, none⟩), .pointer (some ⟨w.heap.size + 1, 7, none⟩)] 78)) = w3 at k0 k1 kp hb0 hs0 ⊢
  clear hs0
  refine (iRdQ s hs p1 (w.heap.size + 1 + 1) 3 3 (w.heap.size + 1) 40 78 [1, 5, 7] _ _ rfl (by omega) (by omega) kp k1 (by decide)).mono ?_
  rintro e w4 ⟨hk, ⟨hn, rfl, L, hB⟩ | ⟨L, q, hn, rfl, hB⟩⟩
  · have HO := Lib.hid (show rfK s 4 p1 = none by simp [rfK, hn])
    have k0 := hk.2 _ _ _ (by omega) k0
    replace hb0 := hb0.trans (hk.1.mono (by omega))
    obtain ⟨y1, y5, y7, hx⟩ : ∃ y1 y5 y7 : Int, setN #[.int .i64 4, .int .i64 0, .int .i64 0, .string ⟨#[]⟩, .bool false, .int .i64 0, .int .i64 0, .int .i64 0, .bool false] [1, 5, 7] L = #[.int .i64 4, .int .i64 y1, .int .i64 0, .string ⟨#[]⟩, .bool false, .int .i64 y5, .int .i64 0, .int .i64 y7, .bool false] := by rcases L with _ | ⟨y, _ | ⟨z, _ | ⟨v, L⟩⟩⟩ <;> exact ⟨_, _, _, rfl⟩
    rw [hx] at hB
    have k1 : Bk w4 (w.heap.size + 1) 40 #[.int .i64 4, .int .i64 y1, .int .i64 0, .string ⟨#[]⟩, .bool false, .int .i64 y5, .int .i64 0, .int .i64 y7, .bool false] := hB
    clear hk kp hB hx hn
    obtain ⟨q0, q1, q2, q3, q4, q5, q6, q7, q8⟩ := k0.nine
    obtain ⟨j0, j1, j2, j3, j4, j5, j6, j7, j8⟩ := k1.nine
    have f0 := k0.frozen
    go_wp2
    refine bodyPost_ret (results_frame3 rfl _ _ w.heap.size #[.int .i64 4, .int .i64 y1, .int .i64 0, .string ⟨#[]⟩, .bool false, .int .i64 y5, .int .i64 0, .int .i64 y7, .bool false] rfl (((((((((k0.set_ 0 (.int .i64 4)).set_ 1 (.int .i64 y1)).set_ 2 (.int .i64 0)).set_ 3 (.string ⟨#[]⟩)).set_ 4 (.bool false)).set_ 5 (.int .i64 y5)).set_ 6 (.int .i64 0)).set_ 7 (.int .i64 y7)).set_ 8 (.bool false)) rfl) rfl ⟨(((((((((hb0.setCell (p := ⟨w.heap.size, 0, none⟩) (Nat.le_refl _) (.int .i64 4)).setCell (p := ⟨w.heap.size, 1, none⟩) (Nat.le_refl _) (.int .i64 y1)).setCell (p := ⟨w.heap.size, 2, none⟩) (Nat.le_refl _) (.int .i64 0)).setCell (p := ⟨w.heap.size, 3, none⟩) (Nat.le_refl _) (.string ⟨#[]⟩)).setCell (p := ⟨w.heap.size, 4, none⟩) (Nat.le_refl _) (.bool false)).setCell (p := ⟨w.heap.size, 5, none⟩) (Nat.le_refl _) (.int .i64 y5)).setCell (p := ⟨w.heap.size, 6, none⟩) (Nat.le_refl _) (.int .i64 0)).setCell (p := ⟨w.heap.size, 7, none⟩) (Nat.le_refl _) (.int .i64 y7)).setCell (p := ⟨w.heap.size, 8, none⟩) (Nat.le_refl _) (.bool false)), by rw [HO.out]; exact RfV.none (⟨4, y1, 0, ⟨#[]⟩, false, y5, 0, y7, false⟩ : Fr) _⟩
  · obtain ⟨y1, y5, y7, rfl⟩ := three_of (rdN_facts s 3 p1 L q hn).1
    have HO := Lib.hid (show rfK s 4 p1 = some ((⟨4, y1, 0, ⟨#[]⟩, false, y5, 0, y7, false⟩ : Fr), q) by simp [rfK, hn])
    have k0 := hk.2 _ _ _ (by omega) k0
    replace hb0 := hb0.trans (hk.1.mono (by omega))
    have k1 : Bk w4 (w.heap.size + 1) 40 #[.int .i64 4, .int .i64 y1, .int .i64 0, .string ⟨#[]⟩, .bool false, .int .i64 y5, .int .i64 0, .int .i64 y7, .bool false] := hB
    clear hk kp hB hn
    obtain ⟨q0, q1, q2, q3, q4, q5, q6, q7, q8⟩ := k0.nine
    obtain ⟨j0, j1, j2, j3, j4, j5, j6, j7, j8⟩ := k1.nine
    have f0 := k0.frozen
    go_wp2
    refine bodyPost_ret (results_frame3 rfl _ _ w.heap.size #[.int .i64 4, .int .i64 y1, .int .i64 0, .string ⟨#[]⟩, .bool false, .int .i64 y5, .int .i64 0, .int .i64 y7, .bool false] rfl (((((((((k0.set_ 0 (.int .i64 4)).set_ 1 (.int .i64 y1)).set_ 2 (.int .i64 0)).set_ 3 (.string ⟨#[]⟩)).set_ 4 (.bool false)).set_ 5 (.int .i64 y5)).set_ 6 (.int .i64 0)).set_ 7 (.int .i64 y7)).set_ 8 (.bool false)) rfl) rfl ⟨(((((((((hb0.setCell (p := ⟨w.heap.size, 0, none⟩) (Nat.le_refl _) (.int .i64 4)).setCell (p := ⟨w.heap.size, 1, none⟩) (Nat.le_refl _) (.int .i64 y1)).setCell (p := ⟨w.heap.size, 2, none⟩) (Nat.le_refl _) (.int .i64 0)).setCell (p := ⟨w.heap.size, 3, none⟩) (Nat.le_refl _) (.string ⟨#[]⟩)).setCell (p := ⟨w.heap.size, 4, none⟩) (Nat.le_refl _) (.bool false)).setCell (p := ⟨w.heap.size, 5, none⟩) (Nat.le_refl _) (.int .i64 y5)).setCell (p := ⟨w.heap.size, 6, none⟩) (Nat.le_refl _) (.int .i64 0)).setCell (p := ⟨w.heap.size, 7, none⟩) (Nat.le_refl _) (.int .i64 y7)).setCell (p := ⟨w.heap.size, 8, none⟩) (Nat.le_refl _) (.bool false)), by rw [HO.out]; exact RfV.some _ _⟩
set_option maxRecDepth 20000 in
set_option maxHeartbeats 4000000 in
theorem iRF_5 (s : ByteArray) (hs : s.size ≤ 1048576) (p : Nat) (hp : p < s.size) (hk : (s[p]'hp).toNat = 5) (w : World) :
    Calls Try.prog 58 #[.string s, .int .i64 p] w fun e w' => Below w.heap.size w w' ∧ RfV (rfK s 5 ((p : Int) + 1)) e := by
  have hk3 : (((s[p]'hp).toNat : Nat) : Int) = 5 := by omega
  have hkw : wrap64 5 = 5 := by unfold wrap64; omega
  clear hk
  have hd4 : decide ((p : Int) ≤ (s.size : Int) - 1) = true := by simp; omega
  obtain ⟨p1, hp1⟩ : ∃ p1, p + 1 = p1 := ⟨_, rfl⟩
  have hp2 : (p : Int) + 1 = p1 := by omega
  rw [hp2]
  have k0 : Bk (w.alloc (.cells #[.int .i64 0, .int .i64 0, .int .i64 0, .string ⟨#[]⟩, .bool false, .int .i64 0, .int .i64 0, .int .i64 0, .bool false] 40)) w.heap.size 40 #[.int .i64 0, .int .i64 0, .int .i64 0, .string ⟨#[]⟩, .bool false, .int .i64 0, .int .i64 0, .int .i64 0, .bool false] := heap_alloc_new w _
  have hb0 : Below w.heap.size w (w.alloc (.cells #[.int .i64 0, .int .i64 0, .int .i64 0, .string ⟨#[]⟩, .bool false, .int .i64 0, .int .i64 0, .int .i64 0, .bool false] 40)) := (Below.refl _ _).alloc (Nat.le_refl _) _
  have hs0 : (w.alloc (.cells #[.int .i64 0, .int .i64 0, .int .i64 0, .string ⟨#[]⟩, .bool false, .int .i64 0, .int .i64 0, .int .i64 0, .bool false] 40)).heap.size = w.heap.size + 1 := by simp
  go_enter Try.func58, Try.ntmps58
  go_wp2_with (first | (go_at_call 47; go_in))
  generalize (w.alloc (.cells #[.int .i64 0, .int .i64 0, .int .i64 0, .string ⟨#[]⟩, .bool false, .int .i64 0, .int .i64 0, .int .i64 0, .bool false] 40)) = w0 at k0 hb0 hs0 ⊢
  have k1 : Bk (w0.alloc (.cells #[.int .i64 5, .int .i64 0, .int .i64 0, .string ⟨#[]⟩, .bool false, .int .i64 0, .int .i64 0, .int .i64 0, .bool false] 40)) (w.heap.size + 1) 40 #[.int .i64 5, .int .i64 0, .int .i64 0, .string ⟨#[]⟩, .bool false, .int .i64 0, .int .i64 0, .int .i64 0, .bool false] := by rw [← hs0]; exact heap_alloc_new w0 _
  replace k0 := k0.below ((Below.refl w0.heap.size w0).alloc (Nat.le_refl _) (.cells #[.int .i64 5, .int .i64 0, .int .i64 0, .string ⟨#[]⟩, .bool false, .int .i64 0, .int .i64 0, .int .i64 0, .bool false] 40)) k0.lt
  replace hb0 := hb0.alloc hb0.size (.cells #[.int .i64 5, .int .i64 0, .int .i64 0, .string ⟨#[]⟩, .bool false, .int .i64 0, .int .i64 0, .int .i64 0, .bool false] 40)
  replace hs0 : (w0.alloc (.cells #[.int .i64 5, .int .i64 0, .int .i64 0, .string ⟨#[]⟩, .bool false, .int .i64 0, .int .i64 0, .int .i64 0, .bool false] 40)).heap.size = (w.heap.size + 1) + 1 := by rw [← hs0]; simp
  generalize (w0.alloc (.cells #[.int .i64 5, .int .i64 0, .int .i64 0, .string ⟨#[]⟩, .bool false, .int .i64 0, .int .i64 0, .int .i64 0, .bool false] 40)) = w1 at k0 k1 hb0 hs0 ⊢
  have kp : Bk (w1.alloc (.cells #[.pointer (some ⟨w.heap.size + 1, 1, none⟩), .pointer (some ⟨w.heap.size + 1, 5, none⟩)] 78)) (w.heap.size + 1 + 1) 78 #[.pointer (some ⟨w.heap.size + 1, 1, none⟩), .pointer (some ⟨w.heap.size + 1, 5, none⟩)] := by rw [← hs0]; exact heap_alloc_new w1 _
  replace k0 := k0.below ((Below.refl w1.heap.size w1).alloc (Nat.le_refl _) (.cells #[.pointer (some ⟨w.heap.size + 1, 1, none⟩), .pointer (some ⟨w.heap.size + 1, 5, none⟩)] 78)) k0.lt
  replace k1 := k1.below ((Below.refl w1.heap.size w1).alloc (Nat.le_refl _) (.cells #[.pointer (some ⟨w.heap.size + 1, 1, none⟩), .pointer (some ⟨w.heap.size + 1, 5, none⟩)] 78)) k1.lt
  replace hb0 := hb0.alloc hb0.size (.cells #[.pointer (some ⟨w.heap.size + 1, 1, none⟩), .pointer (some ⟨w.heap.size + 1, 5, none⟩)] 78)
  replace hs0 : (w1.alloc (.cells #[.pointer (some ⟨w.heap.size + 1, 1, none⟩), .pointer (some ⟨w.heap.size + 1, 5, none⟩)] 78)).heap.size = (w.heap.size + 1 + 1) + 1 := by rw [← hs0]; simp
  generalize (w1.alloc (.cells #[.pointer (some ⟨w.heap.size + 1, 1, none⟩), .pointer (some ⟨w.heap.size + 1, 5, none⟩)] 78)) = w3 at k0 k1 kp hb0 hs0 ⊢
  clear hs0
  refine (iRdQ s hs p1 (w.heap.size + 1 + 1) 2 2 (w.heap.size + 1) 40 78 [1, 5] _ _ rfl (by omega) (by omega) kp k1 (by decide)).mono ?_
  rintro e w4 ⟨hk, ⟨hn, rfl, L, hB⟩ | ⟨L, q, hn, rfl, hB⟩⟩
  · have HO := Lib.hid (show rfK s 5 p1 = none by simp [rfK, hn])
    have k0 := hk.2 _ _ _ (by omega) k0
    replace hb0 := hb0.trans (hk.1.mono (by omega))
    obtain ⟨y1, y5, hx⟩ : ∃ y1 y5 : Int, setN #[.int .i64 5, .int .i64 0, .int .i64 0, .string ⟨#[]⟩, .bool false, .int .i64 0, .int .i64 0, .int .i64 0, .bool false] [1, 5] L = #[.int .i64 5, .int .i64 y1, .int .i64 0, .string ⟨#[]⟩, .bool false, .int .i64 y5, .int .i64 0, .int .i64 0, .bool false] := by rcases L with _ | ⟨y, _ | ⟨z, L⟩⟩ <;> exact ⟨_, _, rfl⟩
    rw [hx] at hB
    have k1 : Bk w4 (w.heap.size + 1) 40 #[.int .i64 5, .int .i64 y1, .int .i64 0, .string ⟨#[]⟩, .bool false, .int .i64 y5, .int .i64 0, .int .i64 0, .bool false] := hB
    clear hk kp hB hx hn
    obtain ⟨q0, q1, q2, q3, q4, q5, q6, q7, q8⟩ := k0.nine
    obtain ⟨j0, j1, j2, j3, j4, j5, j6, j7, j8⟩ := k1.nine
    have f0 := k0.frozen
    go_wp2
    refine bodyPost_ret (results_frame3 rfl _ _ w.heap.size #[.int .i64 5, .int .i64 y1, .int .i64 0, .string ⟨#[]⟩, .bool false, .int .i64 y5, .int .i64 0, .int .i64 0, .bool false] rfl (((((((((k0.set_ 0 (.int .i64 5)).set_ 1 (.int .i64 y1)).set_ 2 (.int .i64 0)).set_ 3 (.string ⟨#[]⟩)).set_ 4 (.bool false)).set_ 5 (.int .i64 y5)).set_ 6 (.int .i64 0)).set_ 7 (.int .i64 0)).set_ 8 (.bool false)) rfl) rfl ⟨(((((((((hb0.setCell (p := ⟨w.heap.size, 0, none⟩) (Nat.le_refl _) (.int .i64 5)).setCell (p := ⟨w.heap.size, 1, none⟩) (Nat.le_refl _) (.int .i64 y1)).setCell (p := ⟨w.heap.size, 2, none⟩) (Nat.le_refl _) (.int .i64 0)).setCell (p := ⟨w.heap.size, 3, none⟩) (Nat.le_refl _) (.string ⟨#[]⟩)).setCell (p := ⟨w.heap.size, 4, none⟩) (Nat.le_refl _) (.bool false)).setCell (p := ⟨w.heap.size, 5, none⟩) (Nat.le_refl _) (.int .i64 y5)).setCell (p := ⟨w.heap.size, 6, none⟩) (Nat.le_refl _) (.int .i64 0)).setCell (p := ⟨w.heap.size, 7, none⟩) (Nat.le_refl _) (.int .i64 0)).setCell (p := ⟨w.heap.size, 8, none⟩) (Nat.le_refl _) (.bool false)), by rw [HO.out]; exact RfV.none (⟨5, y1, 0, ⟨#[]⟩, false, y5, 0, 0, false⟩ : Fr) _⟩
  · obtain ⟨y1, y5, rfl⟩ := two_of (rdN_facts s 2 p1 L q hn).1
    have HO := Lib.hid (show rfK s 5 p1 = some ((⟨5, y1, 0, ⟨#[]⟩, false, y5, 0, 0, false⟩ : Fr), q) by simp [rfK, hn])
    have k0 := hk.2 _ _ _ (by omega) k0
    replace hb0 := hb0.trans (hk.1.mono (by omega))
    have k1 : Bk w4 (w.heap.size + 1) 40 #[.int .i64 5, .int .i64 y1, .int .i64 0, .string ⟨#[]⟩, .bool false, .int .i64 y5, .int .i64 0, .int .i64 0, .bool false] := hB
    clear hk kp hB hn
    obtain ⟨q0, q1, q2, q3, q4, q5, q6, q7, q8⟩ := k0.nine
    obtain ⟨j0, j1, j2, j3, j4, j5, j6, j7, j8⟩ := k1.nine
    have f0 := k0.frozen
    go_wp2
    refine bodyPost_ret (results_frame3 rfl _ _ w.heap.size #[.int .i64 5, .int .i64 y1, .int .i64 0, .string ⟨#[]⟩, .bool false, .int .i64 y5, .int .i64 0, .int .i64 0, .bool false] rfl (((((((((k0.set_ 0 (.int .i64 5)).set_ 1 (.int .i64 y1)).set_ 2 (.int .i64 0)).set_ 3 (.string ⟨#[]⟩)).set_ 4 (.bool false)).set_ 5 (.int .i64 y5)).set_ 6 (.int .i64 0)).set_ 7 (.int .i64 0)).set_ 8 (.bool false)) rfl) rfl ⟨(((((((((hb0.setCell (p := ⟨w.heap.size, 0, none⟩) (Nat.le_refl _) (.int .i64 5)).setCell (p := ⟨w.heap.size, 1, none⟩) (Nat.le_refl _) (.int .i64 y1)).setCell (p := ⟨w.heap.size, 2, none⟩) (Nat.le_refl _) (.int .i64 0)).setCell (p := ⟨w.heap.size, 3, none⟩) (Nat.le_refl _) (.string ⟨#[]⟩)).setCell (p := ⟨w.heap.size, 4, none⟩) (Nat.le_refl _) (.bool false)).setCell (p := ⟨w.heap.size, 5, none⟩) (Nat.le_refl _) (.int .i64 y5)).setCell (p := ⟨w.heap.size, 6, none⟩) (Nat.le_refl _) (.int .i64 0)).setCell (p := ⟨w.heap.size, 7, none⟩) (Nat.le_refl _) (.int .i64 0)).setCell (p := ⟨w.heap.size, 8, none⟩) (Nat.le_refl _) (.bool false)), by rw [HO.out]; exact RfV.some _ _⟩
set_option maxRecDepth 20000 in
set_option maxHeartbeats 4000000 in
theorem iRF_16 (s : ByteArray) (hs : s.size ≤ 1048576) (p : Nat) (hp : p < s.size) (hk : (s[p]'hp).toNat = 16) (w : World) :
    Calls Try.prog 58 #[.string s, .int .i64 p] w fun e w' => Below w.heap.size w w' ∧ RfV (rfK s 16 ((p : Int) + 1)) e := by
  have hk3 : (((s[p]'hp).toNat : Nat) : Int) = 16 := by omega
  have hkw : wrap64 16 = 16 := by unfold wrap64; omega
  clear hk
  have hd4 : decide ((p : Int) ≤ (s.size : Int) - 1) = true := by simp; omega
  obtain ⟨p1, hp1⟩ : ∃ p1, p + 1 = p1 := ⟨_, rfl⟩
  have hp2 : (p : Int) + 1 = p1 := by omega
  rw [hp2]
  have k0 : Bk (w.alloc (.cells #[.int .i64 0, .int .i64 0, .int .i64 0, .string ⟨#[]⟩, .bool false, .int .i64 0, .int .i64 0, .int .i64 0, .bool false] 40)) w.heap.size 40 #[.int .i64 0, .int .i64 0, .int .i64 0, .string ⟨#[]⟩, .bool false, .int .i64 0, .int .i64 0, .int .i64 0, .bool false] := heap_alloc_new w _
  have hb0 : Below w.heap.size w (w.alloc (.cells #[.int .i64 0, .int .i64 0, .int .i64 0, .string ⟨#[]⟩, .bool false, .int .i64 0, .int .i64 0, .int .i64 0, .bool false] 40)) := (Below.refl _ _).alloc (Nat.le_refl _) _
  have hs0 : (w.alloc (.cells #[.int .i64 0, .int .i64 0, .int .i64 0, .string ⟨#[]⟩, .bool false, .int .i64 0, .int .i64 0, .int .i64 0, .bool false] 40)).heap.size = w.heap.size + 1 := by simp
  go_enter Try.func58, Try.ntmps58
  go_wp2_with (first | (go_at_call 47; go_in))
  generalize (w.alloc (.cells #[.int .i64 0, .int .i64 0, .int .i64 0, .string ⟨#[]⟩, .bool false, .int .i64 0, .int .i64 0, .int .i64 0, .bool false] 40)) = w0 at k0 hb0 hs0 ⊢
  have k1 : Bk (w0.alloc (.cells #[.int .i64 16, .int .i64 0, .int .i64 0, .string ⟨#[]⟩, .bool false, .int .i64 0, .int .i64 0, .int .i64 0, .bool false] 40)) (w.heap.size + 1) 40 #[.int .i64 16, .int .i64 0, .int .i64 0, .string ⟨#[]⟩, .bool false, .int .i64 0, .int .i64 0, .int .i64 0, .bool false] := by rw [← hs0]; exact heap_alloc_new w0 _
  replace k0 := k0.below ((Below.refl w0.heap.size w0).alloc (Nat.le_refl _) (.cells #[.int .i64 16, .int .i64 0, .int .i64 0, .string ⟨#[]⟩, .bool false, .int .i64 0, .int .i64 0, .int .i64 0, .bool false] 40)) k0.lt
  replace hb0 := hb0.alloc hb0.size (.cells #[.int .i64 16, .int .i64 0, .int .i64 0, .string ⟨#[]⟩, .bool false, .int .i64 0, .int .i64 0, .int .i64 0, .bool false] 40)
  replace hs0 : (w0.alloc (.cells #[.int .i64 16, .int .i64 0, .int .i64 0, .string ⟨#[]⟩, .bool false, .int .i64 0, .int .i64 0, .int .i64 0, .bool false] 40)).heap.size = (w.heap.size + 1) + 1 := by rw [← hs0]; simp
  generalize (w0.alloc (.cells #[.int .i64 16, .int .i64 0, .int .i64 0, .string ⟨#[]⟩, .bool false, .int .i64 0, .int .i64 0, .int .i64 0, .bool false] 40)) = w1 at k0 k1 hb0 hs0 ⊢
  have kp : Bk (w1.alloc (.cells #[.pointer (some ⟨w.heap.size + 1, 6, none⟩)] 78)) (w.heap.size + 1 + 1) 78 #[.pointer (some ⟨w.heap.size + 1, 6, none⟩)] := by rw [← hs0]; exact heap_alloc_new w1 _
  replace k0 := k0.below ((Below.refl w1.heap.size w1).alloc (Nat.le_refl _) (.cells #[.pointer (some ⟨w.heap.size + 1, 6, none⟩)] 78)) k0.lt
  replace k1 := k1.below ((Below.refl w1.heap.size w1).alloc (Nat.le_refl _) (.cells #[.pointer (some ⟨w.heap.size + 1, 6, none⟩)] 78)) k1.lt
  replace hb0 := hb0.alloc hb0.size (.cells #[.pointer (some ⟨w.heap.size + 1, 6, none⟩)] 78)
  replace hs0 : (w1.alloc (.cells #[.pointer (some ⟨w.heap.size + 1, 6, none⟩)] 78)).heap.size = (w.heap.size + 1 + 1) + 1 := by rw [← hs0]; simp
  generalize (w1.alloc (.cells #[.pointer (some ⟨w.heap.size + 1, 6, none⟩)] 78)) = w3 at k0 k1 kp hb0 hs0 ⊢
  clear hs0
  refine (iRdQ s hs p1 (w.heap.size + 1 + 1) 1 1 (w.heap.size + 1) 40 78 [6] _ _ rfl (by omega) (by omega) kp k1 (by decide)).mono ?_
  rintro e w4 ⟨hk, ⟨hn, rfl, L, hB⟩ | ⟨L, q, hn, rfl, hB⟩⟩
  · have HO := Lib.hid (show rfK s 16 p1 = none by simp [rfK, hn])
    have k0 := hk.2 _ _ _ (by omega) k0
    replace hb0 := hb0.trans (hk.1.mono (by omega))
    obtain ⟨y6, hx⟩ : ∃ y6 : Int, setN #[.int .i64 16, .int .i64 0, .int .i64 0, .string ⟨#[]⟩, .bool false, .int .i64 0, .int .i64 0, .int .i64 0, .bool false] [6] L = #[.int .i64 16, .int .i64 0, .int .i64 0, .string ⟨#[]⟩, .bool false, .int .i64 0, .int .i64 y6, .int .i64 0, .bool false] := by rcases L with _ | ⟨y, L⟩ <;> exact ⟨_, rfl⟩
    rw [hx] at hB
    have k1 : Bk w4 (w.heap.size + 1) 40 #[.int .i64 16, .int .i64 0, .int .i64 0, .string ⟨#[]⟩, .bool false, .int .i64 0, .int .i64 y6, .int .i64 0, .bool false] := hB
    clear hk kp hB hx hn
    obtain ⟨q0, q1, q2, q3, q4, q5, q6, q7, q8⟩ := k0.nine
    obtain ⟨j0, j1, j2, j3, j4, j5, j6, j7, j8⟩ := k1.nine
    have f0 := k0.frozen
    go_wp2
    refine bodyPost_ret (results_frame3 rfl _ _ w.heap.size #[.int .i64 16, .int .i64 0, .int .i64 0, .string ⟨#[]⟩, .bool false, .int .i64 0, .int .i64 y6, .int .i64 0, .bool false] rfl (((((((((k0.set_ 0 (.int .i64 16)).set_ 1 (.int .i64 0)).set_ 2 (.int .i64 0)).set_ 3 (.string ⟨#[]⟩)).set_ 4 (.bool false)).set_ 5 (.int .i64 0)).set_ 6 (.int .i64 y6)).set_ 7 (.int .i64 0)).set_ 8 (.bool false)) rfl) rfl ⟨(((((((((hb0.setCell (p := ⟨w.heap.size, 0, none⟩) (Nat.le_refl _) (.int .i64 16)).setCell (p := ⟨w.heap.size, 1, none⟩) (Nat.le_refl _) (.int .i64 0)).setCell (p := ⟨w.heap.size, 2, none⟩) (Nat.le_refl _) (.int .i64 0)).setCell (p := ⟨w.heap.size, 3, none⟩) (Nat.le_refl _) (.string ⟨#[]⟩)).setCell (p := ⟨w.heap.size, 4, none⟩) (Nat.le_refl _) (.bool false)).setCell (p := ⟨w.heap.size, 5, none⟩) (Nat.le_refl _) (.int .i64 0)).setCell (p := ⟨w.heap.size, 6, none⟩) (Nat.le_refl _) (.int .i64 y6)).setCell (p := ⟨w.heap.size, 7, none⟩) (Nat.le_refl _) (.int .i64 0)).setCell (p := ⟨w.heap.size, 8, none⟩) (Nat.le_refl _) (.bool false)), by rw [HO.out]; exact RfV.none (⟨16, 0, 0, ⟨#[]⟩, false, 0, y6, 0, false⟩ : Fr) _⟩
  · obtain ⟨y6, rfl⟩ := one_of (rdN_facts s 1 p1 L q hn).1
    have HO := Lib.hid (show rfK s 16 p1 = some ((⟨16, 0, 0, ⟨#[]⟩, false, 0, y6, 0, false⟩ : Fr), q) by simp [rfK, hn])
    have k0 := hk.2 _ _ _ (by omega) k0
    replace hb0 := hb0.trans (hk.1.mono (by omega))
    have k1 : Bk w4 (w.heap.size + 1) 40 #[.int .i64 16, .int .i64 0, .int .i64 0, .string ⟨#[]⟩, .bool false, .int .i64 0, .int .i64 y6, .int .i64 0, .bool false] := hB
    clear hk kp hB hn
    obtain ⟨q0, q1, q2, q3, q4, q5, q6, q7, q8⟩ := k0.nine
    obtain ⟨j0, j1, j2, j3, j4, j5, j6, j7, j8⟩ := k1.nine
    have f0 := k0.frozen
    go_wp2
    refine bodyPost_ret (results_frame3 rfl _ _ w.heap.size #[.int .i64 16, .int .i64 0, .int .i64 0, .string ⟨#[]⟩, .bool false, .int .i64 0, .int .i64 y6, .int .i64 0, .bool false] rfl (((((((((k0.set_ 0 (.int .i64 16)).set_ 1 (.int .i64 0)).set_ 2 (.int .i64 0)).set_ 3 (.string ⟨#[]⟩)).set_ 4 (.bool false)).set_ 5 (.int .i64 0)).set_ 6 (.int .i64 y6)).set_ 7 (.int .i64 0)).set_ 8 (.bool false)) rfl) rfl ⟨(((((((((hb0.setCell (p := ⟨w.heap.size, 0, none⟩) (Nat.le_refl _) (.int .i64 16)).setCell (p := ⟨w.heap.size, 1, none⟩) (Nat.le_refl _) (.int .i64 0)).setCell (p := ⟨w.heap.size, 2, none⟩) (Nat.le_refl _) (.int .i64 0)).setCell (p := ⟨w.heap.size, 3, none⟩) (Nat.le_refl _) (.string ⟨#[]⟩)).setCell (p := ⟨w.heap.size, 4, none⟩) (Nat.le_refl _) (.bool false)).setCell (p := ⟨w.heap.size, 5, none⟩) (Nat.le_refl _) (.int .i64 0)).setCell (p := ⟨w.heap.size, 6, none⟩) (Nat.le_refl _) (.int .i64 y6)).setCell (p := ⟨w.heap.size, 7, none⟩) (Nat.le_refl _) (.int .i64 0)).setCell (p := ⟨w.heap.size, 8, none⟩) (Nat.le_refl _) (.bool false)), by rw [HO.out]; exact RfV.some _ _⟩
set_option maxRecDepth 20000 in
set_option maxHeartbeats 4000000 in
theorem iRF_17 (s : ByteArray) (hs : s.size ≤ 1048576) (p : Nat) (hp : p < s.size) (hk : (s[p]'hp).toNat = 17) (w : World) :
    Calls Try.prog 58 #[.string s, .int .i64 p] w fun e w' => Below w.heap.size w w' ∧ RfV (rfK s 17 ((p : Int) + 1)) e := by
  have hk3 : (((s[p]'hp).toNat : Nat) : Int) = 17 := by omega
  have hkw : wrap64 17 = 17 := by unfold wrap64; omega
  clear hk
  have hd4 : decide ((p : Int) ≤ (s.size : Int) - 1) = true := by simp; omega
  obtain ⟨p1, hp1⟩ : ∃ p1, p + 1 = p1 := ⟨_, rfl⟩
  have hp2 : (p : Int) + 1 = p1 := by omega
  rw [hp2]
  have k0 : Bk (w.alloc (.cells #[.int .i64 0, .int .i64 0, .int .i64 0, .string ⟨#[]⟩, .bool false, .int .i64 0, .int .i64 0, .int .i64 0, .bool false] 40)) w.heap.size 40 #[.int .i64 0, .int .i64 0, .int .i64 0, .string ⟨#[]⟩, .bool false, .int .i64 0, .int .i64 0, .int .i64 0, .bool false] := heap_alloc_new w _
  have hb0 : Below w.heap.size w (w.alloc (.cells #[.int .i64 0, .int .i64 0, .int .i64 0, .string ⟨#[]⟩, .bool false, .int .i64 0, .int .i64 0, .int .i64 0, .bool false] 40)) := (Below.refl _ _).alloc (Nat.le_refl _) _
  have hs0 : (w.alloc (.cells #[.int .i64 0, .int .i64 0, .int .i64 0, .string ⟨#[]⟩, .bool false, .int .i64 0, .int .i64 0, .int .i64 0, .bool false] 40)).heap.size = w.heap.size + 1 := by simp
  go_enter Try.func58, Try.ntmps58
  go_wp2_with (first | (go_at_call 47; go_in))
  generalize (w.alloc (.cells #[.int .i64 0, .int .i64 0, .int .i64 0, .string ⟨#[]⟩, .bool false, .int .i64 0, .int .i64 0, .int .i64 0, .bool false] 40)) = w0 at k0 hb0 hs0 ⊢
  have k1 : Bk (w0.alloc (.cells #[.int .i64 17, .int .i64 0, .int .i64 0, .string ⟨#[]⟩, .bool false, .int .i64 0, .int .i64 0, .int .i64 0, .bool false] 40)) (w.heap.size + 1) 40 #[.int .i64 17, .int .i64 0, .int .i64 0, .string ⟨#[]⟩, .bool false, .int .i64 0, .int .i64 0, .int .i64 0, .bool false] := by rw [← hs0]; exact heap_alloc_new w0 _
  replace k0 := k0.below ((Below.refl w0.heap.size w0).alloc (Nat.le_refl _) (.cells #[.int .i64 17, .int .i64 0, .int .i64 0, .string ⟨#[]⟩, .bool false, .int .i64 0, .int .i64 0, .int .i64 0, .bool false] 40)) k0.lt
  replace hb0 := hb0.alloc hb0.size (.cells #[.int .i64 17, .int .i64 0, .int .i64 0, .string ⟨#[]⟩, .bool false, .int .i64 0, .int .i64 0, .int .i64 0, .bool false] 40)
  replace hs0 : (w0.alloc (.cells #[.int .i64 17, .int .i64 0, .int .i64 0, .string ⟨#[]⟩, .bool false, .int .i64 0, .int .i64 0, .int .i64 0, .bool false] 40)).heap.size = (w.heap.size + 1) + 1 := by rw [← hs0]; simp
  generalize (w0.alloc (.cells #[.int .i64 17, .int .i64 0, .int .i64 0, .string ⟨#[]⟩, .bool false, .int .i64 0, .int .i64 0, .int .i64 0, .bool false] 40)) = w1 at k0 k1 hb0 hs0 ⊢
  have kp : Bk (w1.alloc (.cells #[.pointer (some ⟨w.heap.size + 1, 1, none⟩), .pointer (some ⟨w.heap.size + 1, 6, none⟩)] 78)) (w.heap.size + 1 + 1) 78 #[.pointer (some ⟨w.heap.size + 1, 1, none⟩), .pointer (some ⟨w.heap.size + 1, 6, none⟩)] := by rw [← hs0]; exact heap_alloc_new w1 _
  replace k0 := k0.below ((Below.refl w1.heap.size w1).alloc (Nat.le_refl _) (.cells #[.pointer (some ⟨w.heap.size + 1, 1, none⟩), .pointer (some ⟨w.heap.size + 1, 6, none⟩)] 78)) k0.lt
  replace k1 := k1.below ((Below.refl w1.heap.size w1).alloc (Nat.le_refl _) (.cells #[.pointer (some ⟨w.heap.size + 1, 1, none⟩), .pointer (some ⟨w.heap.size + 1, 6, none⟩)] 78)) k1.lt
  replace hb0 := hb0.alloc hb0.size (.cells #[.pointer (some ⟨w.heap.size + 1, 1, none⟩), .pointer (some ⟨w.heap.size + 1, 6, none⟩)] 78)
  replace hs0 : (w1.alloc (.cells #[.pointer (some ⟨w.heap.size + 1, 1, none⟩), .pointer (some ⟨w.heap.size + 1, 6, none⟩)] 78)).heap.size = (w.heap.size + 1 + 1) + 1 := by rw [← hs0]; simp
  generalize (w1.alloc (.cells #[.pointer (some ⟨w.heap.size + 1, 1, none⟩), .pointer (some ⟨w.heap.size + 1, 6, none⟩)] 78)) = w3 at k0 k1 kp hb0 hs0 ⊢
  clear hs0
  refine (iRdQ s hs p1 (w.heap.size + 1 + 1) 2 2 (w.heap.size + 1) 40 78 [1, 6] _ _ rfl (by omega) (by omega) kp k1 (by decide)).mono ?_
  rintro e w4 ⟨hk, ⟨hn, rfl, L, hB⟩ | ⟨L, q, hn, rfl, hB⟩⟩
  · have HO := Lib.hid (show rfK s 17 p1 = none by simp [rfK, hn])
    have k0 := hk.2 _ _ _ (by omega) k0
    replace hb0 := hb0.trans (hk.1.mono (by omega))
    obtain ⟨y1, y6, hx⟩ : ∃ y1 y6 : Int, setN #[.int .i64 17, .int .i64 0, .int .i64 0, .string ⟨#[]⟩, .bool false, .int .i64 0, .int .i64 0, .int .i64 0, .bool false] [1, 6] L = #[.int .i64 17, .int .i64 y1, .int .i64 0, .string ⟨#[]⟩, .bool false, .int .i64 0, .int .i64 y6, .int .i64 0, .bool false] := by rcases L with _ | ⟨y, _ | ⟨z, L⟩⟩ <;> exact ⟨_, _, rfl⟩
    rw [hx] at hB
    have k1 : Bk w4 (w.heap.size + 1) 40 #[.int .i64 17, .int .i64 y1, .int .i64 0, .string ⟨#[]⟩, .bool false, .int .i64 0, .int .i64 y6, .int .i64 0, .bool false] := hB
    clear hk kp hB hx hn
    obtain ⟨q0, q1, q2, q3, q4, q5, q6, q7, q8⟩ := k0.nine
    obtain ⟨j0, j1, j2, j3, j4, j5, j6, j7, j8⟩ := k1.nine
    have f0 := k0.frozen
    go_wp2
    refine bodyPost_ret (results_frame3 rfl _ _ w.heap.size #[.int .i64 17, .int .i64 y1, .int .i64 0, .string ⟨#[]⟩, .bool false, .int .i64 0, .int .i64 y6, .int .i64 0, .bool false] rfl (((((((((k0.set_ 0 (.int .i64 17)).set_ 1 (.int .i64 y1)).set_ 2 (.int .i64 0)).set_ 3 (.string ⟨#[]⟩)).set_ 4 (.bool false)).set_ 5 (.int .i64 0)).set_ 6 (.int .i64 y6)).set_ 7 (.int .i64 0)).set_ 8 (.bool false)) rfl) rfl ⟨(((((((((hb0.setCell (p := ⟨w.heap.size, 0, none⟩) (Nat.le_refl _) (.int .i64 17)).setCell (p := ⟨w.heap.size, 1, none⟩) (Nat.le_refl _) (.int .i64 y1)).setCell (p := ⟨w.heap.size, 2, none⟩) (Nat.le_refl _) (.int .i64 0)).setCell (p := ⟨w.heap.size, 3, none⟩) (Nat.le_refl _) (.string ⟨#[]⟩)).setCell (p := ⟨w.heap.size, 4, none⟩) (Nat.le_refl _) (.bool false)).setCell (p := ⟨w.heap.size, 5, none⟩) (Nat.le_refl _) (.int .i64 0)).setCell (p := ⟨w.heap.size, 6, none⟩) (Nat.le_refl _) (.int .i64 y6)).setCell (p := ⟨w.heap.size, 7, none⟩) (Nat.le_refl _) (.int .i64 0)).setCell (p := ⟨w.heap.size, 8, none⟩) (Nat.le_refl _) (.bool false)), by rw [HO.out]; exact RfV.none (⟨17, y1, 0, ⟨#[]⟩, false, 0, y6, 0, false⟩ : Fr) _⟩
  · obtain ⟨y1, y6, rfl⟩ := two_of (rdN_facts s 2 p1 L q hn).1
    have HO := Lib.hid (show rfK s 17 p1 = some ((⟨17, y1, 0, ⟨#[]⟩, false, 0, y6, 0, false⟩ : Fr), q) by simp [rfK, hn])
    have k0 := hk.2 _ _ _ (by omega) k0
    replace hb0 := hb0.trans (hk.1.mono (by omega))
    have k1 : Bk w4 (w.heap.size + 1) 40 #[.int .i64 17, .int .i64 y1, .int .i64 0, .string ⟨#[]⟩, .bool false, .int .i64 0, .int .i64 y6, .int .i64 0, .bool false] := hB
    clear hk kp hB hn
    obtain ⟨q0, q1, q2, q3, q4, q5, q6, q7, q8⟩ := k0.nine
    obtain ⟨j0, j1, j2, j3, j4, j5, j6, j7, j8⟩ := k1.nine
    have f0 := k0.frozen
    go_wp2
    refine bodyPost_ret (results_frame3 rfl _ _ w.heap.size #[.int .i64 17, .int .i64 y1, .int .i64 0, .string ⟨#[]⟩, .bool false, .int .i64 0, .int .i64 y6, .int .i64 0, .bool false] rfl (((((((((k0.set_ 0 (.int .i64 17)).set_ 1 (.int .i64 y1)).set_ 2 (.int .i64 0)).set_ 3 (.string ⟨#[]⟩)).set_ 4 (.bool false)).set_ 5 (.int .i64 0)).set_ 6 (.int .i64 y6)).set_ 7 (.int .i64 0)).set_ 8 (.bool false)) rfl) rfl ⟨(((((((((hb0.setCell (p := ⟨w.heap.size, 0, none⟩) (Nat.le_refl _) (.int .i64 17)).setCell (p := ⟨w.heap.size, 1, none⟩) (Nat.le_refl _) (.int .i64 y1)).setCell (p := ⟨w.heap.size, 2, none⟩) (Nat.le_refl _) (.int .i64 0)).setCell (p := ⟨w.heap.size, 3, none⟩) (Nat.le_refl _) (.string ⟨#[]⟩)).setCell (p := ⟨w.heap.size, 4, none⟩) (Nat.le_refl _) (.bool false)).setCell (p := ⟨w.heap.size, 5, none⟩) (Nat.le_refl _) (.int .i64 0)).setCell (p := ⟨w.heap.size, 6, none⟩) (Nat.le_refl _) (.int .i64 y6)).setCell (p := ⟨w.heap.size, 7, none⟩) (Nat.le_refl _) (.int .i64 0)).setCell (p := ⟨w.heap.size, 8, none⟩) (Nat.le_refl _) (.bool false)), by rw [HO.out]; exact RfV.some _ _⟩
set_option maxRecDepth 20000 in
set_option maxHeartbeats 4000000 in
theorem iRF_18 (s : ByteArray) (hs : s.size ≤ 1048576) (p : Nat) (hp : p < s.size) (hk : (s[p]'hp).toNat = 18) (w : World) :
    Calls Try.prog 58 #[.string s, .int .i64 p] w fun e w' => Below w.heap.size w w' ∧ RfV (rfK s 18 ((p : Int) + 1)) e := by
  have hk3 : (((s[p]'hp).toNat : Nat) : Int) = 18 := by omega
  have hkw : wrap64 18 = 18 := by unfold wrap64; omega
  clear hk
  have hd4 : decide ((p : Int) ≤ (s.size : Int) - 1) = true := by simp; omega
  obtain ⟨p1, hp1⟩ : ∃ p1, p + 1 = p1 := ⟨_, rfl⟩
  have hp2 : (p : Int) + 1 = p1 := by omega
  rw [hp2]
  have k0 : Bk (w.alloc (.cells #[.int .i64 0, .int .i64 0, .int .i64 0, .string ⟨#[]⟩, .bool false, .int .i64 0, .int .i64 0, .int .i64 0, .bool false] 40)) w.heap.size 40 #[.int .i64 0, .int .i64 0, .int .i64 0, .string ⟨#[]⟩, .bool false, .int .i64 0, .int .i64 0, .int .i64 0, .bool false] := heap_alloc_new w _
  have hb0 : Below w.heap.size w (w.alloc (.cells #[.int .i64 0, .int .i64 0, .int .i64 0, .string ⟨#[]⟩, .bool false, .int .i64 0, .int .i64 0, .int .i64 0, .bool false] 40)) := (Below.refl _ _).alloc (Nat.le_refl _) _
  have hs0 : (w.alloc (.cells #[.int .i64 0, .int .i64 0, .int .i64 0, .string ⟨#[]⟩, .bool false, .int .i64 0, .int .i64 0, .int .i64 0, .bool false] 40)).heap.size = w.heap.size + 1 := by simp
  go_enter Try.func58, Try.ntmps58
  go_wp2_with (first | (go_at_call 47; go_in))
  generalize (w.alloc (.cells #[.int .i64 0, .int .i64 0, .int .i64 0, .string ⟨#[]⟩, .bool false, .int .i64 0, .int .i64 0, .int .i64 0, .bool false] 40)) = w0 at k0 hb0 hs0 ⊢
  have k1 : Bk (w0.alloc (.cells #[.int .i64 18, .int .i64 0, .int .i64 0, .string ⟨#[]⟩, .bool false, .int .i64 0, .int .i64 0, .int .i64 0, .bool false] 40)) (w.heap.size + 1) 40 #[.int .i64 18, .int .i64 0, .int .i64 0, .string ⟨#[]⟩, .bool false, .int .i64 0, .int .i64 0, .int .i64 0, .bool false] := by rw [← hs0]; exact heap_alloc_new w0 _
  replace k0 := k0.below ((Below.refl w0.heap.size w0).alloc (Nat.le_refl _) (.cells #[.int .i64 18, .int .i64 0, .int .i64 0, .string ⟨#[]⟩, .bool false, .int .i64 0, .int .i64 0, .int .i64 0, .bool false] 40)) k0.lt
  replace hb0 := hb0.alloc hb0.size (.cells #[.int .i64 18, .int .i64 0, .int .i64 0, .string ⟨#[]⟩, .bool false, .int .i64 0, .int .i64 0, .int .i64 0, .bool false] 40)
  replace hs0 : (w0.alloc (.cells #[.int .i64 18, .int .i64 0, .int .i64 0, .string ⟨#[]⟩, .bool false, .int .i64 0, .int .i64 0, .int .i64 0, .bool false] 40)).heap.size = (w.heap.size + 1) + 1 := by rw [← hs0]; simp
  generalize (w0.alloc (.cells #[.int .i64 18, .int .i64 0, .int .i64 0, .string ⟨#[]⟩, .bool false, .int .i64 0, .int .i64 0, .int .i64 0, .bool false] 40)) = w1 at k0 k1 hb0 hs0 ⊢
  have j0 := (k1.cell 0).trans rfl
  have j8 := (k1.cell 8).trans rfl
  have f1 := k1.frozen
  refine wp_region_still_tail 7 (by kernel_rfl) (by kernel_rfl) ?_
  simp only [List.take_succ_cons, List.take_zero, List.drop_succ_cons, List.drop_zero]
  repeat still_step
  still_call ((iOne _ _).mono (fun _ _ h => ⟨h.1, h.2.symm⟩))
  repeat still_step
  refine wpStill_nil ?_
  change wpList _ _ _ _ _ w1.drew
  have hs1 : w1.drew.heap.size = w.heap.size + 1 + 1 := hs0
  replace hb0 := hb0.drew
  replace k0 : Bk w1.drew w.heap.size 40 #[.int .i64 0, .int .i64 0, .int .i64 0, .string ⟨#[]⟩, .bool false, .int .i64 0, .int .i64 0, .int .i64 0, .bool false] := k0
  replace k1 : Bk w1.drew (w.heap.size + 1) 40 #[.int .i64 18, .int .i64 0, .int .i64 0, .string ⟨#[]⟩, .bool false, .int .i64 0, .int .i64 0, .int .i64 0, .bool false] := k1
  clear hs0
  replace j0 : w1.drew.cell? ⟨w.heap.size + 1, 0, none⟩ = some (.int .i64 18) := j0
  replace f1 := k1.frozen
  generalize w1.drew = w2 at k0 k1 hb0 hs1 j0 f1 ⊢
  go_wp2_with fail
  replace k0 : Bk (w2.setCell ⟨w.heap.size + 1, 0, none⟩ (.int .i64 18)) w.heap.size 40 #[.int .i64 0, .int .i64 0, .int .i64 0, .string ⟨#[]⟩, .bool false, .int .i64 0, .int .i64 0, .int .i64 0, .bool false] := k0.set_other (by omega)
  replace k1 : Bk (w2.setCell ⟨w.heap.size + 1, 0, none⟩ (.int .i64 18)) (w.heap.size + 1) 40 #[.int .i64 18, .int .i64 0, .int .i64 0, .string ⟨#[]⟩, .bool false, .int .i64 0, .int .i64 0, .int .i64 0, .bool false] := k1.set_ 0 (.int .i64 18)
  replace hb0 := hb0.setCell (p := ⟨w.heap.size + 1, 0, none⟩) (Nat.le_succ _) (.int .i64 18)
  have hs0 : (w2.setCell ⟨w.heap.size + 1, 0, none⟩ (.int .i64 18)).heap.size = w.heap.size + 1 + 1 := by rw [← hs1]; simp [World.setCell]
  clear j0 j8 f1
  try simp only [hs1]
  generalize (w2.setCell ⟨w.heap.size + 1, 0, none⟩ (.int .i64 18)) = w1' at k0 k1 hb0 hs0 ⊢
  have kp : Bk (w1'.alloc (.cells #[.pointer (some ⟨w.heap.size + 1, 6, none⟩)] 78)) (w.heap.size + 1 + 1) 78 #[.pointer (some ⟨w.heap.size + 1, 6, none⟩)] := by rw [← hs0]; exact heap_alloc_new w1' _
  replace k0 := k0.below ((Below.refl w1'.heap.size w1').alloc (Nat.le_refl _) (.cells #[.pointer (some ⟨w.heap.size + 1, 6, none⟩)] 78)) k0.lt
  replace k1 := k1.below ((Below.refl w1'.heap.size w1').alloc (Nat.le_refl _) (.cells #[.pointer (some ⟨w.heap.size + 1, 6, none⟩)] 78)) k1.lt
  replace hb0 := hb0.alloc hb0.size (.cells #[.pointer (some ⟨w.heap.size + 1, 6, none⟩)] 78)
  replace hs0 : (w1'.alloc (.cells #[.pointer (some ⟨w.heap.size + 1, 6, none⟩)] 78)).heap.size = (w.heap.size + 1 + 1) + 1 := by rw [← hs0]; simp
  generalize (w1'.alloc (.cells #[.pointer (some ⟨w.heap.size + 1, 6, none⟩)] 78)) = w3 at k0 k1 kp hb0 hs0 ⊢
  clear hs0
  refine (iRdQ s hs p1 (w.heap.size + 1 + 1) 1 1 (w.heap.size + 1) 40 78 [6] _ _ rfl (by omega) (by omega) kp k1 (by decide)).mono ?_
  rintro e w4 ⟨hk, ⟨hn, rfl, L, hB⟩ | ⟨L, q, hn, rfl, hB⟩⟩
  · have HO := Lib.hid (show rfK s 18 p1 = none by simp [rfK, hn])
    have k0 := hk.2 _ _ _ (by omega) k0
    replace hb0 := hb0.trans (hk.1.mono (by omega))
    obtain ⟨y6, hx⟩ : ∃ y6 : Int, setN #[.int .i64 18, .int .i64 0, .int .i64 0, .string ⟨#[]⟩, .bool false, .int .i64 0, .int .i64 0, .int .i64 0, .bool false] [6] L = #[.int .i64 18, .int .i64 0, .int .i64 0, .string ⟨#[]⟩, .bool false, .int .i64 0, .int .i64 y6, .int .i64 0, .bool false] := by rcases L with _ | ⟨y, L⟩ <;> exact ⟨_, rfl⟩
    rw [hx] at hB
    have k1 : Bk w4 (w.heap.size + 1) 40 #[.int .i64 18, .int .i64 0, .int .i64 0, .string ⟨#[]⟩, .bool false, .int .i64 0, .int .i64 y6, .int .i64 0, .bool false] := hB
    clear hk kp hB hx hn
    obtain ⟨q0, q1, q2, q3, q4, q5, q6, q7, q8⟩ := k0.nine
    obtain ⟨j0, j1, j2, j3, j4, j5, j6, j7, j8⟩ := k1.nine
    have f0 := k0.frozen
    go_wp2
    refine bodyPost_ret (results_frame3 rfl _ _ w.heap.size #[.int .i64 18, .int .i64 0, .int .i64 0, .string ⟨#[]⟩, .bool false, .int .i64 0, .int .i64 y6, .int .i64 0, .bool false] rfl (((((((((k0.set_ 0 (.int .i64 18)).set_ 1 (.int .i64 0)).set_ 2 (.int .i64 0)).set_ 3 (.string ⟨#[]⟩)).set_ 4 (.bool false)).set_ 5 (.int .i64 0)).set_ 6 (.int .i64 y6)).set_ 7 (.int .i64 0)).set_ 8 (.bool false)) rfl) rfl ⟨(((((((((hb0.setCell (p := ⟨w.heap.size, 0, none⟩) (Nat.le_refl _) (.int .i64 18)).setCell (p := ⟨w.heap.size, 1, none⟩) (Nat.le_refl _) (.int .i64 0)).setCell (p := ⟨w.heap.size, 2, none⟩) (Nat.le_refl _) (.int .i64 0)).setCell (p := ⟨w.heap.size, 3, none⟩) (Nat.le_refl _) (.string ⟨#[]⟩)).setCell (p := ⟨w.heap.size, 4, none⟩) (Nat.le_refl _) (.bool false)).setCell (p := ⟨w.heap.size, 5, none⟩) (Nat.le_refl _) (.int .i64 0)).setCell (p := ⟨w.heap.size, 6, none⟩) (Nat.le_refl _) (.int .i64 y6)).setCell (p := ⟨w.heap.size, 7, none⟩) (Nat.le_refl _) (.int .i64 0)).setCell (p := ⟨w.heap.size, 8, none⟩) (Nat.le_refl _) (.bool false)), by rw [HO.out]; exact RfV.none (⟨18, 0, 0, ⟨#[]⟩, false, 0, y6, 0, false⟩ : Fr) _⟩
  · obtain ⟨y6, rfl⟩ := one_of (rdN_facts s 1 p1 L q hn).1
    have HO := Lib.hid (show rfK s 18 p1 = some ((⟨18, 0, 0, ⟨#[]⟩, false, 0, y6, 0, false⟩ : Fr), q) by simp [rfK, hn])
    have k0 := hk.2 _ _ _ (by omega) k0
    replace hb0 := hb0.trans (hk.1.mono (by omega))
    have k1 : Bk w4 (w.heap.size + 1) 40 #[.int .i64 18, .int .i64 0, .int .i64 0, .string ⟨#[]⟩, .bool false, .int .i64 0, .int .i64 y6, .int .i64 0, .bool false] := hB
    clear hk kp hB hn
    obtain ⟨q0, q1, q2, q3, q4, q5, q6, q7, q8⟩ := k0.nine
    obtain ⟨j0, j1, j2, j3, j4, j5, j6, j7, j8⟩ := k1.nine
    have f0 := k0.frozen
    go_wp2
    refine bodyPost_ret (results_frame3 rfl _ _ w.heap.size #[.int .i64 18, .int .i64 0, .int .i64 0, .string ⟨#[]⟩, .bool false, .int .i64 0, .int .i64 y6, .int .i64 0, .bool false] rfl (((((((((k0.set_ 0 (.int .i64 18)).set_ 1 (.int .i64 0)).set_ 2 (.int .i64 0)).set_ 3 (.string ⟨#[]⟩)).set_ 4 (.bool false)).set_ 5 (.int .i64 0)).set_ 6 (.int .i64 y6)).set_ 7 (.int .i64 0)).set_ 8 (.bool false)) rfl) rfl ⟨(((((((((hb0.setCell (p := ⟨w.heap.size, 0, none⟩) (Nat.le_refl _) (.int .i64 18)).setCell (p := ⟨w.heap.size, 1, none⟩) (Nat.le_refl _) (.int .i64 0)).setCell (p := ⟨w.heap.size, 2, none⟩) (Nat.le_refl _) (.int .i64 0)).setCell (p := ⟨w.heap.size, 3, none⟩) (Nat.le_refl _) (.string ⟨#[]⟩)).setCell (p := ⟨w.heap.size, 4, none⟩) (Nat.le_refl _) (.bool false)).setCell (p := ⟨w.heap.size, 5, none⟩) (Nat.le_refl _) (.int .i64 0)).setCell (p := ⟨w.heap.size, 6, none⟩) (Nat.le_refl _) (.int .i64 y6)).setCell (p := ⟨w.heap.size, 7, none⟩) (Nat.le_refl _) (.int .i64 0)).setCell (p := ⟨w.heap.size, 8, none⟩) (Nat.le_refl _) (.bool false)), by rw [HO.out]; exact RfV.some _ _⟩
end Go.Proofs.Ytadoiehgobcjcaa
