/- Plain laws of the integer encodings, in the words of the walks. No conditions. -/
import Derived.Test.YthhdjajjckcikaaDoorB3
import Derived.Test.YthhdjajjckcikaaDoorB5
import Derived.Test.YthhdjajjckcikaaDoorB6
import Derived.Test.YthhdjajjckcikaaDoorN2
namespace Go.Proofs.YthhdjajjckcikaaDoor
open Go.ChangeShapes Go.WideShapes Go.ChangeAt Go.RowKit Go.Sort QM VM
set_option linter.unusedVariables false
set_option linter.unusedSimpArgs false
theorem nbl_app (a b : ByteArray) : bl (a ++ b) = bl a ++ bl b := by simp [bl]
theorem dv_ev {N : Nat} (h : N ≤ 562949953421311) (t : ByteArray) : dvV (evB N ++ t) = .tuple #[.int .i64 (N : Int), .int .i64 ((evB N).size : Nat)] ∧ 1 ≤ (evB N).size ∧ (evB N).size ≤ 8 := by
  have e : bl (evB N) = encV 7 N := by simp [bl, evB]
  have hs : (evB N).size = (encV 7 N).length := by rw [← bl_len, e]
  have hl := encV_len 7 N
  refine ⟨?_, by omega, by omega⟩
  unfold dvV
  rw [nbl_app, e, dv_encV h, hs]
theorem dv_form (s : ByteArray) : ∃ a b : Int, dvV s = .tuple #[.int .i64 a, .int .i64 b] := ⟨_, _, rfl⟩
theorem df_form (s : ByteArray) (k : Int) : ∃ (a : Int) (b : Bool), dfV s k = .tuple #[.int .i64 a, .bool b] := by
  unfold dfV; split
  · exact ⟨_, _, rfl⟩
  · exact ⟨_, _, rfl⟩
theorem fix_facts (n k : Int) (t : ByteArray) : (fixI n k = ⟨#[]⟩ ∧ ∃ (a : Int) (b : Bool), dfV (fixI n k ++ t) k = .tuple #[.int .i64 a, .bool b]) ∨ (1 ≤ (fixI n k).size ∧ (fixI n k).size ≤ 7 ∧ ((fixI n k).size : Int) = k ∧ dfV (fixI n k ++ t) k = .tuple #[.int .i64 n, .bool true]) := by
  rcases fix_cases n k with h | ⟨N, K, rfl, rfl, h1, h2⟩
  · exact .inl ⟨fixI_out h, df_form _ _⟩
  · rw [fixI_in h1 h2]
    unfold fixV
    by_cases hlt : N < 256 ^ K
    · rw [if_pos hlt]
      right
      have hs := beB_size N K
      refine ⟨by omega, by omega, by omega, ?_⟩
      rw [dfV_in h1 h2 (by rw [ByteArray.size_append]; omega)]
      have e : vl (beB N K ++ t) K = N := by
        unfold vl
        have e2 : bl (beB N K) = be N K := by simp [bl, beB]
        rw [nbl_app, e2, List.take_left' (be_len N K), val_be, Nat.zero_mul, Nat.zero_add, Nat.mod_eq_of_lt hlt]
      rw [e]
    · rw [if_neg hlt]
      exact .inl ⟨rfl, df_form _ _⟩
theorem hex_facts (s : ByteArray) : dhL (ehB s) = s ∧ dhB (ehB s) = true ∧ ((ehB s).size : Int) = 2 * (s.size : Int) := by
  have e : bl (ehB s) = encH (bl s) := by simp [bl, ehB]
  have hd : decH (bl (ehB s)) = some (bl s) := by rw [e, decH_encH]
  refine ⟨?_, ?_, ?_⟩
  · unfold dhL; rw [hd]; simp [bl]
  · unfold dhB; rw [hd]; rfl
  · rw [← bl_len (ehB s), e, encH_len, bl_len]; push_cast; rfl
theorem itB_list (w : Int) : (itB w).data.toList = Lib.itoa w := by simp [itB]
theorem par_facts (w : Int) : okP (itB w).data.toList = (decide (-1000000000 < w) && decide (w < 1000000000)) ∧ (okP (itB w).data.toList = true → paV (itB w).data.toList = w) := by
  rw [itB_list]
  have hs := NM.signed_itoa w
  refine ⟨?_, fun h => by unfold paV; rw [h, hs]; rfl⟩
  rw [Bool.eq_iff_iff, okP_iff, hs]
  unfold NM.parses
  simp only [Bool.and_eq_true, decide_eq_true_eq]
  constructor
  · rintro ⟨_, h1, h2⟩; exact ⟨by omega, by omega⟩
  · rintro ⟨h1, h2⟩; exact ⟨by trivial, by omega, by omega⟩
theorem itB_sz {n : Int} (h : -9223372036854775808 ≤ n ∧ n ≤ 9223372036854775807) : (itB n).size ≤ 20 := by
  have e : (itB n).size = (Lib.itoa n).length := by unfold itB; simp [ByteArray.size]
  rw [e]
  have hr : n.natAbs < 10 ^ 19 := by
    have : (10 : Nat) ^ 19 = 10000000000000000000 := by decide
    omega
  have hl : (Lib.decDigits n.natAbs).length ≤ 19 := by
    by_cases h0 : n.natAbs = 0
    · rw [h0, NM.decDigits_small (by decide)]; simp
    · have := rest_size 19 _ hr
      unfold NM.rest at this; rw [if_neg h0] at this; exact this
  rw [NM.len_itoa, ← Lib.decDigits_length]
  split <;> omega
end Go.Proofs.YthhdjajjckcikaaDoor
