/- What the two packages' functions on stream identities and sizes return: one contract for each function. No conditions. -/
import Derived.Test.YtnndhkdigmkddaaRows
import Derived.WalkKit
import Derived.ProofKit
import Derived.OpenShut
namespace Go.Proofs.Ytnndhkdigmkddaa
open Go.ChangeShapes Go.WideShapes Go.ChangeAt Go.RowKit

def qB (n : Int) : Bool := decide (0 ≤ n) && decide (n ≤ 4611686018427387903)
theorem qB_lo {n : Int} (h : n < 0) : qB n = false := by simp [qB]; omega
theorem qB_hi {n : Int} (h : 4611686018427387903 < n) : qB n = false := by simp [qB]; omega
theorem qB_in {n : Int} (h : 0 ≤ n) (h1 : n ≤ 4611686018427387903) : qB n = true := by simp [qB]; omega
theorem qB_true {n : Int} (h : qB n = true) : 0 ≤ n ∧ n ≤ 4611686018427387903 := by simpa [qB] using h
theorem cases3 (m n : Int) : n < 0 ∨ (0 ≤ n ∧ n ≤ m) ∨ (0 ≤ n ∧ m < n) := by omega
theorem ret_bool {a b : Bool} (h : a = b) : Ending.returned (.bool a) = .returned (.bool b) := by rw [h]

theorem l4Quic_any (n : Int) (w : World) : Calls Try.prog 41 #[.int .i64 n] w fun e w' => e = .returned (.bool (qB n)) ∧ w = w' := by
  rcases cases3 4611686018427387903 n with h | ⟨h, h1⟩ | ⟨h, h1⟩
  · rw [qB_lo h]
    go_enter Try.func41, Try.ntmps41
    go_wp2
    go_ret
    exact ⟨rfl, rfl⟩
  · rw [qB_in h h1]
    go_enter Try.func41, Try.ntmps41
    go_wp2
    go_ret
    exact ⟨ret_bool (by simp; try omega), rfl⟩
  · rw [qB_hi h1]
    go_enter Try.func41, Try.ntmps41
    go_wp2
    go_ret
    exact ⟨ret_bool (by simp; try omega), rfl⟩
theorem isQuic_any (n : Int) (w : World) : Calls Try.prog 42 #[.int .i64 n] w fun e w' => e = .returned (.bool (qB n)) ∧ w = w' := by
  rcases cases3 4611686018427387903 n with h | ⟨h, h1⟩ | ⟨h, h1⟩
  · rw [qB_lo h]
    go_enter Try.func42, Try.ntmps42
    go_wp2
    go_ret
    exact ⟨rfl, rfl⟩
  · rw [qB_in h h1]
    go_enter Try.func42, Try.ntmps42
    go_wp2
    go_ret
    exact ⟨ret_bool (by simp; try omega), rfl⟩
  · rw [qB_hi h1]
    go_enter Try.func42, Try.ntmps42
    go_wp2
    go_ret
    exact ⟨ret_bool (by simp; try omega), rfl⟩
theorem ret_int {a b : Int} (h : a = b) : Ending.returned (.int .i64 a) = .returned (.int .i64 b) := by rw [h]
theorem ret_str {a b : ByteArray} (h : a = b) : Ending.returned (.string a) = .returned (.string b) := by rw [h]
def srvB (n : Int) : Bool := qB n && (bits .and .i64 n 1 == 1)
def uniB (n : Int) : Bool := qB n && (bits .and .i64 n 2 == 2)
def ownB (s : Bool) (n : Int) : Bool := qB n && (srvB n == s)
def sendB (s : Bool) (n : Int) : Bool := qB n && (!uniB n || ownB s n)
def recvB (s : Bool) (n : Int) : Bool := qB n && (!uniB n || !ownB s n)
def idxOf (n : Int) : Int := if qB n then n / 4 else -1
theorem idx_lo {n : Int} (h : qB n = false) : idxOf n = -1 := by simp [idxOf, h]
theorem idx_in {n : Int} (h : qB n = true) : idxOf n = n / 4 := by simp [idxOf, h]
def b2i (b : Bool) : Int := if b then 1 else 0
def mkId (n : Int) (s u : Bool) : Int := if 0 ≤ n ∧ n ≤ 1152921504606846975 then 4 * n + b2i s + 2 * b2i u else -1
def nameB (n : Int) : ByteArray := if qB n then (if srvB n then (if uniB n then ⟨#[115, 101, 114, 118, 101, 114, 32, 117, 110, 105]⟩ else ⟨#[115, 101, 114, 118, 101, 114, 32, 98, 105, 100, 105]⟩) else (if uniB n then ⟨#[99, 108, 105, 101, 110, 116, 32, 117, 110, 105]⟩ else ⟨#[99, 108, 105, 101, 110, 116, 32, 98, 105, 100, 105]⟩)) else ⟨#[]⟩
def kindB (k : Int) : ByteArray := if k = 4 then ⟨#[114, 101, 115, 101, 116]⟩ else if k = 5 then ⟨#[115, 116, 111, 112]⟩ else if k = 8 then ⟨#[115, 116, 114, 101, 97, 109]⟩ else if k = 16 then ⟨#[109, 97, 120, 100, 97, 116, 97]⟩ else if k = 17 then ⟨#[109, 97, 120, 115, 116, 114, 101, 97, 109, 100, 97, 116, 97]⟩ else if k = 18 then ⟨#[109, 97, 120, 115, 116, 114, 101, 97, 109, 115]⟩ else if k = 20 then ⟨#[100, 97, 116, 97, 98, 108, 111, 99, 107, 101, 100]⟩ else if k = 21 then ⟨#[115, 116, 114, 101, 97, 109, 100, 97, 116, 97, 98, 108, 111, 99, 107, 101, 100]⟩ else if k = 22 then ⟨#[115, 116, 114, 101, 97, 109, 115, 98, 108, 111, 99, 107, 101, 100]⟩ else ⟨#[]⟩
def sizeI (n : Int) : Int := if qB n then (if n < 64 then 1 else if n < 16384 then 2 else if n < 1073741824 then 4 else 8) else 0
end Go.Proofs.Ytnndhkdigmkddaa
