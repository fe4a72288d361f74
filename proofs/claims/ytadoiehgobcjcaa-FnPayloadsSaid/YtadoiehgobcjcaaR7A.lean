/- impl.readFrame of stream frames and of unknown kinds. No conditions. -/
import Derived.Test.YtadoiehgobcjcaaA7
import Derived.Test.YtadoiehgobcjcaaR5a
import Derived.Test.YtadoiehgobcjcaaR5b
import Derived.Test.YtadoiehgobcjcaaR5c
import Derived.Test.YtadoiehgobcjcaaR5d
namespace Go.Proofs.Ytadoiehgobcjcaa
open Go.ChangeShapes Go.WideShapes Go.ChangeAt Go.RowKit Go.Sort QM
set_option linter.unusedVariables false
set_option linter.unusedSimpArgs false
theorem iStr_any (s : ByteArray) (hs : s.size ≤ 1048576) (p : Nat) (k : Nat) (h8 : 8 ≤ k) (h15 : k ≤ 15) (w : World) :
    Calls Try.prog 73 #[.string s, .int .i64 p, .int .i64 k] w fun e w' => Below w.heap.size w w' ∧ e = .returned (dfVal (rfK s k p)) := by
  have h : k = 8 ∨ k = 9 ∨ k = 10 ∨ k = 11 ∨ k = 12 ∨ k = 13 ∨ k = 14 ∨ k = 15 := by omega
  rcases h with rfl | rfl | rfl | rfl | rfl | rfl | rfl | rfl
  · exact iStr_8 s hs p w
  · exact iStr_9 s hs p w
  · exact iStr_10 s hs p w
  · exact iStr_11 s hs p w
  · exact iStr_12 s hs p w
  · exact iStr_13 s hs p w
  · exact iStr_14 s hs p w
  · exact iStr_15 s hs p w
set_option maxRecDepth 20000 in
set_option maxHeartbeats 4000000 in
theorem iRF_str (s : ByteArray) (hs : s.size ≤ 1048576) (p : Nat) (hp : p < s.size) (k : Nat) (hk : (s[p]'hp).toNat = k) (h8 : 8 ≤ k) (h15 : k ≤ 15) (w : World) :
    Calls Try.prog 58 #[.string s, .int .i64 p] w fun e w' => Below w.heap.size w w' ∧ RfV (rfK s k ((p : Int) + 1)) e := by
  have hk3 : (((s[p]'hp).toNat : Nat) : Int) = (k : Int) := by omega
  have hkw : wrap64 (k : Int) = k := by unfold wrap64; omega
  have t4 : ((k : Int) == 4) = false := by simp; omega
  have t5 : ((k : Int) == 5) = false := by simp; omega
  have t16 : ((k : Int) == 16) = false := by simp; omega
  have t17 : ((k : Int) == 17) = false := by simp; omega
  have t18 : ((k : Int) == 18) = false := by simp; omega
  have t19 : ((k : Int) == 19) = false := by simp; omega
  have t20 : ((k : Int) == 20) = false := by simp; omega
  have t21 : ((k : Int) == 21) = false := by simp; omega
  have t22 : ((k : Int) == 22) = false := by simp; omega
  have t23 : ((k : Int) == 23) = false := by simp; omega
  have u8 : decide ((8 : Int) ≤ (k : Int)) = true := by simp; omega
  have u15 : decide ((k : Int) ≤ 15) = true := by simp; omega
  clear hk
  have hd4 : decide ((p : Int) ≤ (s.size : Int) - 1) = true := by simp; omega
  obtain ⟨p1, hp1⟩ : ∃ p1, p + 1 = p1 := ⟨_, rfl⟩
  have hp2 : (p : Int) + 1 = p1 := by omega
  rw [hp2]
  have hcs := fun W => iStr_any s hs p1 k h8 h15 W
  clear h8 h15
  have k0 : Bk (w.alloc (.cells #[.int .i64 0, .int .i64 0, .int .i64 0, .string ⟨#[]⟩, .bool false, .int .i64 0, .int .i64 0, .int .i64 0, .bool false] 40)) w.heap.size 40 #[.int .i64 0, .int .i64 0, .int .i64 0, .string ⟨#[]⟩, .bool false, .int .i64 0, .int .i64 0, .int .i64 0, .bool false] := heap_alloc_new w _
  have hb0 : Below w.heap.size w (w.alloc (.cells #[.int .i64 0, .int .i64 0, .int .i64 0, .string ⟨#[]⟩, .bool false, .int .i64 0, .int .i64 0, .int .i64 0, .bool false] 40)) := (Below.refl _ _).alloc (Nat.le_refl _) _
  have hs0 : (w.alloc (.cells #[.int .i64 0, .int .i64 0, .int .i64 0, .string ⟨#[]⟩, .bool false, .int .i64 0, .int .i64 0, .int .i64 0, .bool false] 40)).heap.size = w.heap.size + 1 := by simp
  go_enter Try.func58, Try.ntmps58
  go_wp2_with (first | (go_at_call 47; go_in))
  generalize (w.alloc (.cells #[.int .i64 0, .int .i64 0, .int .i64 0, .string ⟨#[]⟩, .bool false, .int .i64 0, .int .i64 0, .int .i64 0, .bool false] 40)) = w0 at k0 hb0 hs0 ⊢
  have k1 : Bk (w0.alloc (.cells #[.int .i64 (k : Nat), .int .i64 0, .int .i64 0, .string ⟨#[]⟩, .bool false, .int .i64 0, .int .i64 0, .int .i64 0, .bool false] 40)) (w.heap.size + 1) 40 #[.int .i64 (k : Nat), .int .i64 0, .int .i64 0, .string ⟨#[]⟩, .bool false, .int .i64 0, .int .i64 0, .int .i64 0, .bool false] := by rw [← hs0]; exact heap_alloc_new w0 _
  replace k0 := k0.below ((Below.refl w0.heap.size w0).alloc (Nat.le_refl _) (.cells #[.int .i64 (k : Nat), .int .i64 0, .int .i64 0, .string ⟨#[]⟩, .bool false, .int .i64 0, .int .i64 0, .int .i64 0, .bool false] 40)) k0.lt
  replace hb0 := hb0.alloc hb0.size (.cells #[.int .i64 (k : Nat), .int .i64 0, .int .i64 0, .string ⟨#[]⟩, .bool false, .int .i64 0, .int .i64 0, .int .i64 0, .bool false] 40)
  clear hs0
  generalize (w0.alloc (.cells #[.int .i64 (k : Nat), .int .i64 0, .int .i64 0, .string ⟨#[]⟩, .bool false, .int .i64 0, .int .i64 0, .int .i64 0, .bool false] 40)) = w1 at k0 k1 hb0 ⊢
  refine (hcs _).mono ?_
  rintro e w2 ⟨hb1, rfl⟩
  replace k0 := k0.below hb1 k0.lt
  replace hb0 := below_next hb0 hb0.size hb1
  clear hb1 k1 hcs
  obtain ⟨q0, q1, q2, q3, q4, q5, q6, q7, q8⟩ := k0.nine
  have f0 := k0.frozen
  cases hso : rfK s k p1 with
  | none =>
    have HO := Lib.hid hso; clear hso
    simp only [dfVal]
    go_wp2
    refine bodyPost_ret (results_frame3 rfl _ _ w.heap.size #[.int .i64 0, .int .i64 0, .int .i64 0, .string ⟨#[]⟩, .bool false, .int .i64 0, .int .i64 0, .int .i64 0, .bool false] rfl (((((((((k0.set_ 0 (.int .i64 0)).set_ 1 (.int .i64 0)).set_ 2 (.int .i64 0)).set_ 3 (.string ⟨#[]⟩)).set_ 4 (.bool false)).set_ 5 (.int .i64 0)).set_ 6 (.int .i64 0)).set_ 7 (.int .i64 0)).set_ 8 (.bool false)) rfl) rfl ⟨(((((((((hb0.setCell (p := ⟨w.heap.size, 0, none⟩) (Nat.le_refl _) (.int .i64 0)).setCell (p := ⟨w.heap.size, 1, none⟩) (Nat.le_refl _) (.int .i64 0)).setCell (p := ⟨w.heap.size, 2, none⟩) (Nat.le_refl _) (.int .i64 0)).setCell (p := ⟨w.heap.size, 3, none⟩) (Nat.le_refl _) (.string ⟨#[]⟩)).setCell (p := ⟨w.heap.size, 4, none⟩) (Nat.le_refl _) (.bool false)).setCell (p := ⟨w.heap.size, 5, none⟩) (Nat.le_refl _) (.int .i64 0)).setCell (p := ⟨w.heap.size, 6, none⟩) (Nat.le_refl _) (.int .i64 0)).setCell (p := ⟨w.heap.size, 7, none⟩) (Nat.le_refl _) (.int .i64 0)).setCell (p := ⟨w.heap.size, 8, none⟩) (Nat.le_refl _) (.bool false)), by rw [HO.out]; exact RfV.of_df none⟩
  | some x =>
    obtain ⟨⟨xa, xb, xc, xd, xe, xg, xl, xm, xu⟩, q⟩ := x
    have HO := Lib.hid hso; clear hso
    simp only [dfVal, frA]
    go_wp2
    refine bodyPost_ret (results_frame3 rfl _ _ w.heap.size #[.int .i64 xa, .int .i64 xb, .int .i64 xc, .string xd, .bool xe, .int .i64 xg, .int .i64 xl, .int .i64 xm, .bool xu] rfl (((((((((k0.set_ 0 (.int .i64 xa)).set_ 1 (.int .i64 xb)).set_ 2 (.int .i64 xc)).set_ 3 (.string xd)).set_ 4 (.bool xe)).set_ 5 (.int .i64 xg)).set_ 6 (.int .i64 xl)).set_ 7 (.int .i64 xm)).set_ 8 (.bool xu)) rfl) rfl ⟨(((((((((hb0.setCell (p := ⟨w.heap.size, 0, none⟩) (Nat.le_refl _) (.int .i64 xa)).setCell (p := ⟨w.heap.size, 1, none⟩) (Nat.le_refl _) (.int .i64 xb)).setCell (p := ⟨w.heap.size, 2, none⟩) (Nat.le_refl _) (.int .i64 xc)).setCell (p := ⟨w.heap.size, 3, none⟩) (Nat.le_refl _) (.string xd)).setCell (p := ⟨w.heap.size, 4, none⟩) (Nat.le_refl _) (.bool xe)).setCell (p := ⟨w.heap.size, 5, none⟩) (Nat.le_refl _) (.int .i64 xg)).setCell (p := ⟨w.heap.size, 6, none⟩) (Nat.le_refl _) (.int .i64 xl)).setCell (p := ⟨w.heap.size, 7, none⟩) (Nat.le_refl _) (.int .i64 xm)).setCell (p := ⟨w.heap.size, 8, none⟩) (Nat.le_refl _) (.bool xu)), by rw [HO.out]; exact RfV.some ⟨xa, xb, xc, xd, xe, xg, xl, xm, xu⟩ q⟩
set_option maxRecDepth 20000 in
set_option maxHeartbeats 4000000 in
theorem iRF_lo (s : ByteArray) (hs : s.size ≤ 1048576) (p : Nat) (hp : p < s.size) (k : Nat) (hk : (s[p]'hp).toNat = k) (h4 : k ≠ 4) (h5 : k ≠ 5) (h8 : k < 8) (w : World) :
    Calls Try.prog 58 #[.string s, .int .i64 p] w fun e w' => Below w.heap.size w w' ∧ RfV none e := by
  have hk3 : (((s[p]'hp).toNat : Nat) : Int) = (k : Int) := by omega
  have hk4 := (s[p]'hp).toNat_lt
  have hkw : wrap64 (k : Int) = k := by unfold wrap64; omega
  have t4 : ((k : Int) == 4) = false := by simp; omega
  have t5 : ((k : Int) == 5) = false := by simp; omega
  have t16 : ((k : Int) == 16) = false := by simp; omega
  have t17 : ((k : Int) == 17) = false := by simp; omega
  have t18 : ((k : Int) == 18) = false := by simp; omega
  have t19 : ((k : Int) == 19) = false := by simp; omega
  have t20 : ((k : Int) == 20) = false := by simp; omega
  have t21 : ((k : Int) == 21) = false := by simp; omega
  have t22 : ((k : Int) == 22) = false := by simp; omega
  have t23 : ((k : Int) == 23) = false := by simp; omega
  have u8 : decide ((8 : Int) ≤ (k : Int)) = false := by simp; omega
  clear hk h8 hk4 h4 h5
  have hd4 : decide ((p : Int) ≤ (s.size : Int) - 1) = true := by simp; omega
  have k0 : Bk (w.alloc (.cells #[.int .i64 0, .int .i64 0, .int .i64 0, .string ⟨#[]⟩, .bool false, .int .i64 0, .int .i64 0, .int .i64 0, .bool false] 40)) w.heap.size 40 #[.int .i64 0, .int .i64 0, .int .i64 0, .string ⟨#[]⟩, .bool false, .int .i64 0, .int .i64 0, .int .i64 0, .bool false] := heap_alloc_new w _
  have hb0 : Below w.heap.size w (w.alloc (.cells #[.int .i64 0, .int .i64 0, .int .i64 0, .string ⟨#[]⟩, .bool false, .int .i64 0, .int .i64 0, .int .i64 0, .bool false] 40)) := (Below.refl _ _).alloc (Nat.le_refl _) _
  have hs0 : (w.alloc (.cells #[.int .i64 0, .int .i64 0, .int .i64 0, .string ⟨#[]⟩, .bool false, .int .i64 0, .int .i64 0, .int .i64 0, .bool false] 40)).heap.size = w.heap.size + 1 := by simp
  go_enter Try.func58, Try.ntmps58
  go_wp2_with (first | (go_at_call 47; go_in))
  have k1 : Bk (w.alloc (.cells #[.int .i64 (k : Nat), .int .i64 0, .int .i64 0, .string ⟨#[]⟩, .bool false, .int .i64 0, .int .i64 0, .int .i64 0, .bool false] 40)) w.heap.size 40 #[.int .i64 (k : Nat), .int .i64 0, .int .i64 0, .string ⟨#[]⟩, .bool false, .int .i64 0, .int .i64 0, .int .i64 0, .bool false] := heap_alloc_new w _
  refine bodyPost_ret (results_frame3 rfl _ _ w.heap.size #[.int .i64 (k : Nat), .int .i64 0, .int .i64 0, .string ⟨#[]⟩, .bool false, .int .i64 0, .int .i64 0, .int .i64 0, .bool false] rfl (k1.below ((Below.refl (w.alloc (.cells #[.int .i64 (k : Nat), .int .i64 0, .int .i64 0, .string ⟨#[]⟩, .bool false, .int .i64 0, .int .i64 0, .int .i64 0, .bool false] 40)).heap.size (w.alloc (.cells #[.int .i64 (k : Nat), .int .i64 0, .int .i64 0, .string ⟨#[]⟩, .bool false, .int .i64 0, .int .i64 0, .int .i64 0, .bool false] 40))).alloc (Nat.le_refl _) (.cells #[.int .i64 (k : Nat), .int .i64 0, .int .i64 0, .string ⟨#[]⟩, .bool false, .int .i64 0, .int .i64 0, .int .i64 0, .bool false] 40)) k1.lt) rfl) rfl ⟨((Below.refl _ _).alloc (Nat.le_refl _) _).alloc (by simp) _, by exact RfV.none ⟨(k : Nat), 0, 0, ⟨#[]⟩, false, 0, 0, 0, false⟩ _⟩
set_option maxRecDepth 20000 in
set_option maxHeartbeats 4000000 in
theorem iRF_hi (s : ByteArray) (hs : s.size ≤ 1048576) (p : Nat) (hp : p < s.size) (k : Nat) (hk : (s[p]'hp).toNat = k) (h8 : 23 < k) (w : World) :
    Calls Try.prog 58 #[.string s, .int .i64 p] w fun e w' => Below w.heap.size w w' ∧ RfV none e := by
  have hk3 : (((s[p]'hp).toNat : Nat) : Int) = (k : Int) := by omega
  have hk4 := (s[p]'hp).toNat_lt
  have hkw : wrap64 (k : Int) = k := by unfold wrap64; omega
  have t4 : ((k : Int) == 4) = false := by simp; omega
  have t5 : ((k : Int) == 5) = false := by simp; omega
  have t16 : ((k : Int) == 16) = false := by simp; omega
  have t17 : ((k : Int) == 17) = false := by simp; omega
  have t18 : ((k : Int) == 18) = false := by simp; omega
  have t19 : ((k : Int) == 19) = false := by simp; omega
  have t20 : ((k : Int) == 20) = false := by simp; omega
  have t21 : ((k : Int) == 21) = false := by simp; omega
  have t22 : ((k : Int) == 22) = false := by simp; omega
  have t23 : ((k : Int) == 23) = false := by simp; omega
  have u8 : decide ((8 : Int) ≤ (k : Int)) = true := by simp; omega
  have u15 : decide ((k : Int) ≤ 15) = false := by simp; omega
  clear hk h8 hk4
  have hd4 : decide ((p : Int) ≤ (s.size : Int) - 1) = true := by simp; omega
  have k0 : Bk (w.alloc (.cells #[.int .i64 0, .int .i64 0, .int .i64 0, .string ⟨#[]⟩, .bool false, .int .i64 0, .int .i64 0, .int .i64 0, .bool false] 40)) w.heap.size 40 #[.int .i64 0, .int .i64 0, .int .i64 0, .string ⟨#[]⟩, .bool false, .int .i64 0, .int .i64 0, .int .i64 0, .bool false] := heap_alloc_new w _
  have hb0 : Below w.heap.size w (w.alloc (.cells #[.int .i64 0, .int .i64 0, .int .i64 0, .string ⟨#[]⟩, .bool false, .int .i64 0, .int .i64 0, .int .i64 0, .bool false] 40)) := (Below.refl _ _).alloc (Nat.le_refl _) _
  have hs0 : (w.alloc (.cells #[.int .i64 0, .int .i64 0, .int .i64 0, .string ⟨#[]⟩, .bool false, .int .i64 0, .int .i64 0, .int .i64 0, .bool false] 40)).heap.size = w.heap.size + 1 := by simp
  go_enter Try.func58, Try.ntmps58
  go_wp2_with (first | (go_at_call 47; go_in))
  have k1 : Bk (w.alloc (.cells #[.int .i64 (k : Nat), .int .i64 0, .int .i64 0, .string ⟨#[]⟩, .bool false, .int .i64 0, .int .i64 0, .int .i64 0, .bool false] 40)) w.heap.size 40 #[.int .i64 (k : Nat), .int .i64 0, .int .i64 0, .string ⟨#[]⟩, .bool false, .int .i64 0, .int .i64 0, .int .i64 0, .bool false] := heap_alloc_new w _
  refine bodyPost_ret (results_frame3 rfl _ _ w.heap.size #[.int .i64 (k : Nat), .int .i64 0, .int .i64 0, .string ⟨#[]⟩, .bool false, .int .i64 0, .int .i64 0, .int .i64 0, .bool false] rfl (k1.below ((Below.refl (w.alloc (.cells #[.int .i64 (k : Nat), .int .i64 0, .int .i64 0, .string ⟨#[]⟩, .bool false, .int .i64 0, .int .i64 0, .int .i64 0, .bool false] 40)).heap.size (w.alloc (.cells #[.int .i64 (k : Nat), .int .i64 0, .int .i64 0, .string ⟨#[]⟩, .bool false, .int .i64 0, .int .i64 0, .int .i64 0, .bool false] 40))).alloc (Nat.le_refl _) (.cells #[.int .i64 (k : Nat), .int .i64 0, .int .i64 0, .string ⟨#[]⟩, .bool false, .int .i64 0, .int .i64 0, .int .i64 0, .bool false] 40)) k1.lt) rfl) rfl ⟨((Below.refl _ _).alloc (Nat.le_refl _) _).alloc (by simp) _, by exact RfV.none ⟨(k : Nat), 0, 0, ⟨#[]⟩, false, 0, 0, 0, false⟩ _⟩
end Go.Proofs.Ytadoiehgobcjcaa
