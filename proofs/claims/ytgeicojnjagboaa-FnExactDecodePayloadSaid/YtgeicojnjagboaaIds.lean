/- What the two packages' functions on stream identities and sizes return: one contract for each function. No conditions. -/
import Derived.Test.YtgeicojnjagboaaRows
import Derived.WalkKit
import Derived.ProofKit
import Derived.OpenShut
namespace Go.Proofs.Ytgeicojnjagboaa
open Go.ChangeShapes Go.WideShapes Go.ChangeAt Go.RowKit

def qB (n : Int) : Bool := decide (0 ≤ n) && decide (n ≤ 4611686018427387903)
theorem qB_lo {n : Int} (h : n < 0) : qB n = false := by simp [qB]; omega
theorem qB_hi {n : Int} (h : 4611686018427387903 < n) : qB n = false := by simp [qB]; omega
theorem qB_in {n : Int} (h : 0 ≤ n) (h1 : n ≤ 4611686018427387903) : qB n = true := by simp [qB]; omega
theorem qB_true {n : Int} (h : qB n = true) : 0 ≤ n ∧ n ≤ 4611686018427387903 := by simpa [qB] using h
theorem cases3 (m n : Int) : n < 0 ∨ (0 ≤ n ∧ n ≤ m) ∨ (0 ≤ n ∧ m < n) := by omega
theorem ret_bool {a b : Bool} (h : a = b) : Ending.returned (.bool a) = .returned (.bool b) := by rw [h]

theorem l4Quic_any (n : Int) (w : World) : Calls Try.prog 81 #[.int .i64 n] w fun e w' => e = .returned (.bool (qB n)) ∧ w = w' := by
  rcases cases3 4611686018427387903 n with h | ⟨h, h1⟩ | ⟨h, h1⟩
  · rw [qB_lo h]
    go_enter Try.func81, Try.ntmps81
    go_wp2
    go_ret
    exact ⟨rfl, rfl⟩
  · rw [qB_in h h1]
    go_enter Try.func81, Try.ntmps81
    go_wp2
    go_ret
    exact ⟨ret_bool (by simp; try omega), rfl⟩
  · rw [qB_hi h1]
    go_enter Try.func81, Try.ntmps81
    go_wp2
    go_ret
    exact ⟨ret_bool (by simp; try omega), rfl⟩
theorem isQuic_any (n : Int) (w : World) : Calls Try.prog 84 #[.int .i64 n] w fun e w' => e = .returned (.bool (qB n)) ∧ w = w' := by
  rcases cases3 4611686018427387903 n with h | ⟨h, h1⟩ | ⟨h, h1⟩
  · rw [qB_lo h]
    go_enter Try.func84, Try.ntmps84
    go_wp2
    go_ret
    exact ⟨rfl, rfl⟩
  · rw [qB_in h h1]
    go_enter Try.func84, Try.ntmps84
    go_wp2
    go_ret
    exact ⟨ret_bool (by simp; try omega), rfl⟩
  · rw [qB_hi h1]
    go_enter Try.func84, Try.ntmps84
    go_wp2
    go_ret
    exact ⟨ret_bool (by simp; try omega), rfl⟩
theorem ret_int {a b : Int} (h : a = b) : Ending.returned (.int .i64 a) = .returned (.int .i64 b) := by rw [h]
theorem ret_str {a b : ByteArray} (h : a = b) : Ending.returned (.string a) = .returned (.string b) := by rw [h]
def srvB (n : Int) : Bool := qB n && (bits .and .i64 n 1 == 1)
def uniB (n : Int) : Bool := qB n && (bits .and .i64 n 2 == 2)
def ownB (s : Bool) (n : Int) : Bool := qB n && (srvB n == s)
def sendB (s : Bool) (n : Int) : Bool := qB n && (!uniB n || ownB s n)
def recvB (s : Bool) (n : Int) : Bool := qB n && (!uniB n || !ownB s n)
def idxOf (n : Int) : Int := if qB n then n / 4 else -1
theorem sStream (n : Int) (w : World) : Calls Try.prog 34 #[.int .i64 n] w fun e w' => e = .returned (.bool (qB n)) ∧ w = w' := by
  go_enter Try.func34, Try.ntmps34
  go_wp2_with (first | (go_at_call 81; refine (l4Quic_any _ _).mono ?_; rintro e w' ⟨rfl, rfl⟩))
  all_goals go_ret
  all_goals exact ⟨ret_bool (rfl), rfl⟩
theorem iStream (n : Int) (w : World) : Calls Try.prog 33 #[.int .i64 n] w fun e w' => e = .returned (.bool (qB n)) ∧ w = w' := by
  go_enter Try.func33, Try.ntmps33
  go_wp2_with (first | (go_at_call 84; refine (isQuic_any _ _).mono ?_; rintro e w' ⟨rfl, rfl⟩))
  all_goals go_ret
  all_goals exact ⟨ret_bool (rfl), rfl⟩
theorem sServer (n : Int) (w : World) : Calls Try.prog 83 #[.int .i64 n] w fun e w' => e = .returned (.bool (srvB n)) ∧ w = w' := by
  go_enter Try.func83, Try.ntmps83
  go_wp2_with (first | (go_at_call 81; refine (l4Quic_any _ _).mono ?_; rintro e w' ⟨rfl, rfl⟩))
  all_goals go_ret
  all_goals exact ⟨ret_bool (by simp_all [srvB]), rfl⟩
theorem iServer (n : Int) (w : World) : Calls Try.prog 22 #[.int .i64 n] w fun e w' => e = .returned (.bool (srvB n)) ∧ w = w' := by
  go_enter Try.func22, Try.ntmps22
  go_wp2_with (first | (go_at_call 33; refine (iStream _ _).mono ?_; rintro e w' ⟨rfl, rfl⟩))
  all_goals go_ret
  all_goals exact ⟨ret_bool (by simp_all [srvB]), rfl⟩
theorem sUni (n : Int) (w : World) : Calls Try.prog 82 #[.int .i64 n] w fun e w' => e = .returned (.bool (uniB n)) ∧ w = w' := by
  go_enter Try.func82, Try.ntmps82
  go_wp2_with (first | (go_at_call 81; refine (l4Quic_any _ _).mono ?_; rintro e w' ⟨rfl, rfl⟩))
  all_goals go_ret
  all_goals exact ⟨ret_bool (by simp_all [uniB]), rfl⟩
theorem iUni (n : Int) (w : World) : Calls Try.prog 23 #[.int .i64 n] w fun e w' => e = .returned (.bool (uniB n)) ∧ w = w' := by
  go_enter Try.func23, Try.ntmps23
  go_wp2_with (first | (go_at_call 33; refine (iStream _ _).mono ?_; rintro e w' ⟨rfl, rfl⟩))
  all_goals go_ret
  all_goals exact ⟨ret_bool (by simp_all [uniB]), rfl⟩
theorem sOwn (s : Bool) (n : Int) (w : World) : Calls Try.prog 30 #[.bool s, .int .i64 n] w fun e w' => e = .returned (.bool (ownB s n)) ∧ w = w' := by
  go_enter Try.func30, Try.ntmps30
  go_wp2_with (first | (go_at_call 81; refine (l4Quic_any _ _).mono ?_; rintro e w' ⟨rfl, rfl⟩) | (go_at_call 83; refine (sServer _ _).mono ?_; rintro e w' ⟨rfl, rfl⟩))
  all_goals go_ret
  all_goals exact ⟨ret_bool (by simp_all [ownB]), rfl⟩
theorem iOwn (s : Bool) (n : Int) (w : World) : Calls Try.prog 24 #[.bool s, .int .i64 n] w fun e w' => e = .returned (.bool (ownB s n)) ∧ w = w' := by
  go_enter Try.func24, Try.ntmps24
  go_wp2_with (first | (go_at_call 33; refine (iStream _ _).mono ?_; rintro e w' ⟨rfl, rfl⟩) | (go_at_call 22; refine (iServer _ _).mono ?_; rintro e w' ⟨rfl, rfl⟩))
  all_goals go_ret
  all_goals exact ⟨ret_bool (by simp_all [ownB]), rfl⟩
theorem sSend (s : Bool) (n : Int) (w : World) : Calls Try.prog 27 #[.bool s, .int .i64 n] w fun e w' => e = .returned (.bool (sendB s n)) ∧ w = w' := by
  go_enter Try.func27, Try.ntmps27
  go_wp2_with (first | (go_at_call 81; refine (l4Quic_any _ _).mono ?_; rintro e w' ⟨rfl, rfl⟩) | (go_at_call 82; refine (sUni _ _).mono ?_; rintro e w' ⟨rfl, rfl⟩) | (go_at_call 30; refine (sOwn _ _ _).mono ?_; rintro e w' ⟨rfl, rfl⟩))
  all_goals go_ret
  all_goals exact ⟨ret_bool (by simp_all [sendB]), rfl⟩
theorem iSend (s : Bool) (n : Int) (w : World) : Calls Try.prog 26 #[.bool s, .int .i64 n] w fun e w' => e = .returned (.bool (sendB s n)) ∧ w = w' := by
  go_enter Try.func26, Try.ntmps26
  go_wp2_with (first | (go_at_call 33; refine (iStream _ _).mono ?_; rintro e w' ⟨rfl, rfl⟩) | (go_at_call 23; refine (iUni _ _).mono ?_; rintro e w' ⟨rfl, rfl⟩) | (go_at_call 24; refine (iOwn _ _ _).mono ?_; rintro e w' ⟨rfl, rfl⟩))
  all_goals go_ret
  all_goals exact ⟨ret_bool (by simp_all [sendB]), rfl⟩
theorem sRecv (s : Bool) (n : Int) (w : World) : Calls Try.prog 29 #[.bool s, .int .i64 n] w fun e w' => e = .returned (.bool (recvB s n)) ∧ w = w' := by
  go_enter Try.func29, Try.ntmps29
  go_wp2_with (first | (go_at_call 81; refine (l4Quic_any _ _).mono ?_; rintro e w' ⟨rfl, rfl⟩) | (go_at_call 82; refine (sUni _ _).mono ?_; rintro e w' ⟨rfl, rfl⟩) | (go_at_call 30; refine (sOwn _ _ _).mono ?_; rintro e w' ⟨rfl, rfl⟩))
  all_goals go_ret
  all_goals exact ⟨ret_bool (by simp_all [recvB]), rfl⟩
theorem iRecv (s : Bool) (n : Int) (w : World) : Calls Try.prog 28 #[.bool s, .int .i64 n] w fun e w' => e = .returned (.bool (recvB s n)) ∧ w = w' := by
  go_enter Try.func28, Try.ntmps28
  go_wp2_with (first | (go_at_call 33; refine (iStream _ _).mono ?_; rintro e w' ⟨rfl, rfl⟩) | (go_at_call 23; refine (iUni _ _).mono ?_; rintro e w' ⟨rfl, rfl⟩) | (go_at_call 24; refine (iOwn _ _ _).mono ?_; rintro e w' ⟨rfl, rfl⟩))
  all_goals go_ret
  all_goals exact ⟨ret_bool (by simp_all [recvB]), rfl⟩
theorem idx_lo {n : Int} (h : qB n = false) : idxOf n = -1 := by simp [idxOf, h]
theorem idx_in {n : Int} (h : qB n = true) : idxOf n = n / 4 := by simp [idxOf, h]
theorem iIndex (n : Int) (w : World) : Calls Try.prog 21 #[.int .i64 n] w fun e w' => e = .returned (.int .i64 (idxOf n)) ∧ w = w' := by
  rcases cases3 4611686018427387903 n with h | ⟨h, h1⟩ | ⟨h, h1⟩
  · have hq := qB_lo h
    rw [idx_lo hq]
    go_enter Try.func21, Try.ntmps21
    go_wp2_with (first | (go_at_call 33; refine (iStream _ _).mono ?_; rintro e w' ⟨rfl, rfl⟩))
    go_ret
    exact ⟨rfl, rfl⟩
  · have hq := qB_in h h1
    rw [idx_in hq]
    go_enter Try.func21, Try.ntmps21
    go_wp2_with (first | (go_at_call 33; refine (iStream _ _).mono ?_; rintro e w' ⟨rfl, rfl⟩))
    go_ret
    exact ⟨rfl, rfl⟩
  · have hq := qB_hi h1
    rw [idx_lo hq]
    go_enter Try.func21, Try.ntmps21
    go_wp2_with (first | (go_at_call 33; refine (iStream _ _).mono ?_; rintro e w' ⟨rfl, rfl⟩))
    go_ret
    exact ⟨rfl, rfl⟩
def b2i (b : Bool) : Int := if b then 1 else 0
def mkId (n : Int) (s u : Bool) : Int := if 0 ≤ n ∧ n ≤ 1152921504606846975 then 4 * n + b2i s + 2 * b2i u else -1
theorem sMake (n : Int) (s u : Bool) (w : World) : Calls Try.prog 20 #[.int .i64 n, .bool s, .bool u] w fun e w' => e = .returned (.int .i64 (mkId n s u)) ∧ w = w' := by
  rcases cases3 1152921504606846975 n with h | ⟨h, h1⟩ | ⟨h, h1⟩
  · have hd : decide (0 ≤ n) = false := by simp; omega
    go_enter Try.func20, Try.ntmps20
    go_wp2
    go_ret
    exact ⟨ret_int (by unfold mkId; rw [if_neg (by omega)]), rfl⟩
  · have hd : decide (n ≤ 1152921504606846975) = true := by simp; omega
    cases s <;> cases u
    all_goals
      go_enter Try.func20, Try.ntmps20
      go_wp2
      go_ret
      exact ⟨ret_int (by unfold mkId b2i; rw [if_pos (by omega)]; simp; try omega), rfl⟩
  · have hd : decide (n ≤ 1152921504606846975) = false := by simp; omega
    go_enter Try.func20, Try.ntmps20
    go_wp2
    go_ret
    exact ⟨ret_int (by unfold mkId; rw [if_neg (by omega)]), rfl⟩
theorem iMake (n : Int) (s u : Bool) (w : World) : Calls Try.prog 19 #[.int .i64 n, .bool s, .bool u] w fun e w' => e = .returned (.int .i64 (mkId n s u)) ∧ w = w' := by
  rcases cases3 1152921504606846975 n with h | ⟨h, h1⟩ | ⟨h, h1⟩
  · have hd : decide (0 ≤ n) = false := by simp; omega
    go_enter Try.func19, Try.ntmps19
    go_wp2
    go_ret
    exact ⟨ret_int (by unfold mkId; rw [if_neg (by omega)]), rfl⟩
  · have hd : decide (n ≤ 1152921504606846975) = true := by simp; omega
    cases s <;> cases u
    all_goals
      go_enter Try.func19, Try.ntmps19
      go_wp2
      go_ret
      exact ⟨ret_int (by unfold mkId b2i; rw [if_pos (by omega)]; simp; try omega), rfl⟩
  · have hd : decide (n ≤ 1152921504606846975) = false := by simp; omega
    go_enter Try.func19, Try.ntmps19
    go_wp2
    go_ret
    exact ⟨ret_int (by unfold mkId; rw [if_neg (by omega)]), rfl⟩
def nameB (n : Int) : ByteArray := if qB n then (if srvB n then (if uniB n then ⟨#[115, 101, 114, 118, 101, 114, 32, 117, 110, 105]⟩ else ⟨#[115, 101, 114, 118, 101, 114, 32, 98, 105, 100, 105]⟩) else (if uniB n then ⟨#[99, 108, 105, 101, 110, 116, 32, 117, 110, 105]⟩ else ⟨#[99, 108, 105, 101, 110, 116, 32, 98, 105, 100, 105]⟩)) else ⟨#[]⟩
theorem sName (n : Int) (w : World) : Calls Try.prog 32 #[.int .i64 n] w fun e w' => e = .returned (.string (nameB n)) ∧ w = w' := by
  cases hq : qB n <;> cases hs : srvB n <;> cases hu : uniB n
  all_goals
    go_enter Try.func32, Try.ntmps32
    go_wp2_with (first | (go_at_call 81; refine (l4Quic_any _ _).mono ?_; rintro e w' ⟨rfl, rfl⟩) | (go_at_call 83; refine (sServer _ _).mono ?_; rintro e w' ⟨rfl, rfl⟩) | (go_at_call 82; refine (sUni _ _).mono ?_; rintro e w' ⟨rfl, rfl⟩))
    go_ret
    exact ⟨ret_str (by unfold nameB; rw [hq, hs, hu]; rfl), rfl⟩
theorem iName (n : Int) (w : World) : Calls Try.prog 31 #[.int .i64 n] w fun e w' => e = .returned (.string (nameB n)) ∧ w = w' := by
  cases hq : qB n <;> cases hs : srvB n <;> cases hu : uniB n
  all_goals
    go_enter Try.func31, Try.ntmps31
    go_wp2_with (first | (go_at_call 33; refine (iStream _ _).mono ?_; rintro e w' ⟨rfl, rfl⟩) | (go_at_call 22; refine (iServer _ _).mono ?_; rintro e w' ⟨rfl, rfl⟩) | (go_at_call 23; refine (iUni _ _).mono ?_; rintro e w' ⟨rfl, rfl⟩))
    go_ret
    exact ⟨ret_str (by unfold nameB; rw [hq, hs, hu]; rfl), rfl⟩
def kindB (k : Int) : ByteArray := if k = 4 then ⟨#[114, 101, 115, 101, 116]⟩ else if k = 5 then ⟨#[115, 116, 111, 112]⟩ else if k = 8 then ⟨#[115, 116, 114, 101, 97, 109]⟩ else if k = 16 then ⟨#[109, 97, 120, 100, 97, 116, 97]⟩ else if k = 17 then ⟨#[109, 97, 120, 115, 116, 114, 101, 97, 109, 100, 97, 116, 97]⟩ else if k = 18 then ⟨#[109, 97, 120, 115, 116, 114, 101, 97, 109, 115]⟩ else if k = 20 then ⟨#[100, 97, 116, 97, 98, 108, 111, 99, 107, 101, 100]⟩ else if k = 21 then ⟨#[115, 116, 114, 101, 97, 109, 100, 97, 116, 97, 98, 108, 111, 99, 107, 101, 100]⟩ else if k = 22 then ⟨#[115, 116, 114, 101, 97, 109, 115, 98, 108, 111, 99, 107, 101, 100]⟩ else ⟨#[]⟩
theorem sKind (k : Int) (w : World) : Calls Try.prog 61 #[.int .i64 k] w fun e w' => e = .returned (.string (kindB k)) ∧ w = w' := by
  go_enter Try.func61, Try.ntmps61
  go_wp2
  all_goals go_ret
  all_goals exact ⟨ret_str (by simp_all [kindB]), rfl⟩
theorem iKind (k : Int) (w : World) : Calls Try.prog 60 #[.int .i64 k] w fun e w' => e = .returned (.string (kindB k)) ∧ w = w' := by
  go_enter Try.func60, Try.ntmps60
  go_wp2
  all_goals go_ret
  all_goals exact ⟨ret_str (by simp_all [kindB]), rfl⟩
def sizeI (n : Int) : Int := if qB n then (if n < 64 then 1 else if n < 16384 then 2 else if n < 1073741824 then 4 else 8) else 0
theorem sSize (n : Int) (w : World) : Calls Try.prog 86 #[.int .i64 n] w fun e w' => e = .returned (.int .i64 (sizeI n)) ∧ w = w' := by
  rcases cases3 4611686018427387903 n with h | ⟨h, h1⟩ | ⟨h, h1⟩
  · have hs : sizeI n = 0 := by unfold sizeI; rw [qB_lo h]; rfl
    rw [hs]; clear hs
    go_enter Try.func86, Try.ntmps86
    go_wp2
    go_ret
    exact ⟨rfl, rfl⟩
  · have hs : sizeI n = if n < 64 then 1 else if n < 16384 then 2 else if n < 1073741824 then 4 else 8 := by unfold sizeI; rw [qB_in h h1]; rfl
    rw [hs]; clear hs
    have hd : (decide (n < 0) || decide (4611686018427387903 < n)) = false := by simp; omega
    go_enter Try.func86, Try.ntmps86
    go_wp2
    all_goals go_ret
    all_goals exact ⟨ret_int (by (repeat' split) <;> omega), rfl⟩
  · have hs : sizeI n = 0 := by unfold sizeI; rw [qB_hi h1]; rfl
    rw [hs]; clear hs
    have hd : decide (n < 0) = false := by simp; omega
    have hd1 : decide (4611686018427387903 < n) = true := by simp; omega
    go_enter Try.func86, Try.ntmps86
    go_wp2
    go_ret
    exact ⟨rfl, rfl⟩
theorem iSize (n : Int) (w : World) : Calls Try.prog 39 #[.int .i64 n] w fun e w' => e = .returned (.int .i64 (sizeI n)) ∧ w = w' := by
  cases hq : qB n
  · have hs : sizeI n = 0 := by unfold sizeI; rw [hq]; rfl
    rw [hs]; clear hs
    go_enter Try.func39, Try.ntmps39
    go_wp2_with (first | (go_at_call 84; refine (isQuic_any _ _).mono ?_; rintro e w' ⟨rfl, rfl⟩))
    go_ret
    exact ⟨rfl, rfl⟩
  · have hs : sizeI n = if n < 64 then 1 else if n < 16384 then 2 else if n < 1073741824 then 4 else 8 := by unfold sizeI; rw [hq]; rfl
    rw [hs]; clear hs
    go_enter Try.func39, Try.ntmps39
    go_wp2_with (first | (go_at_call 84; refine (isQuic_any _ _).mono ?_; rintro e w' ⟨rfl, rfl⟩))
    all_goals go_ret
    all_goals exact ⟨ret_int (by (repeat' split) <;> omega), rfl⟩
end Go.Proofs.Ytgeicojnjagboaa
