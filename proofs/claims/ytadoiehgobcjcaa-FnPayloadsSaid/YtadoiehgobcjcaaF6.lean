/- EncodeFrame and FrameSize of whatever frame. No conditions. -/
import Derived.Test.YtadoiehgobcjcaaF5S
import Derived.Test.YtadoiehgobcjcaaF5I
import Derived.Test.YtadoiehgobcjcaaF5E
namespace Go.Proofs.Ytadoiehgobcjcaa
open Go.ChangeShapes Go.WideShapes Go.ChangeAt Go.RowKit Go.Sort QM
set_option linter.unusedVariables false
set_option linter.unusedSimpArgs false
/-- The bytes of a frame: none where it is no frame. -/
def encFB (a : Int) (b c : Int) (d : ByteArray) (e : Bool) (g l m : Int) (u : Bool) : ByteArray := if isFB a b c d e g l m u then (if a = 4 then encL [4, b, g, m] else if a = 5 then encL [5, b, g] else if a = 8 then (if c = 0 then encL [if e then 11 else 10, b, (d.size : Int)] else encL [if e then 15 else 14, b, c, (d.size : Int)]) ++ d else if a = 16 then encL [16, l] else if a = 17 then encL [17, b, l] else if a = 18 then encL [if u then 19 else 18, l] else if a = 20 then encL [20, l] else if a = 21 then encL [21, b, l] else if a = 22 then encL [if u then 23 else 22, l] else ⟨#[]⟩) else ⟨#[]⟩
theorem app_assoc3 (x y z : ByteArray) : (x ++ y) ++ z = x ++ (y ++ z) := by apply ByteArray.ext; simp
theorem encFB_4 (b : Int) (c : Int) (d : ByteArray) (e : Bool) (g : Int) (l : Int) (m : Int) (u : Bool) (hf : isFB 4 b c d e g l m u = true) : encFB 4 b c d e g l m u = encL [4, b, g, m] := by
  unfold encFB
  rw [hf]; rfl
theorem iform_4 (b : Int) (c : Int) (d : ByteArray) (e : Bool) (g : Int) (l : Int) (m : Int) (u : Bool) (hf : isFB 4 b c d e g l m u = true) : one1 4 ++ encL [b, g, m] = encL [4, b, g, m] := by
  have hx : isFB 4 b c d e g l m u = true := hf
  rw [isFB_4] at hx
  simp only [Bool.and_eq_true] at hx
  obtain ⟨_, h1, h2, h3⟩ := hx
  have e0 := encI_small 4 (by decide)
  have q0 : qB ((4 : Nat) : Int) = true := qB_in (by decide) (by decide)
  have e1 : encL [4, b, g, m] = encI ((4 : Nat) : Int) ++ encL [b, g, m] := encL_cons (x := ((4 : Nat) : Int)) q0 (by simp [h1, h2, h3])
  rw [e1, e0]
theorem encFB_5 (b : Int) (c : Int) (d : ByteArray) (e : Bool) (g : Int) (l : Int) (m : Int) (u : Bool) (hf : isFB 5 b c d e g l m u = true) : encFB 5 b c d e g l m u = encL [5, b, g] := by
  unfold encFB
  rw [hf]; rfl
theorem iform_5 (b : Int) (c : Int) (d : ByteArray) (e : Bool) (g : Int) (l : Int) (m : Int) (u : Bool) (hf : isFB 5 b c d e g l m u = true) : one1 5 ++ encL [b, g] = encL [5, b, g] := by
  have hx : isFB 5 b c d e g l m u = true := hf
  rw [isFB_5] at hx
  simp only [Bool.and_eq_true] at hx
  obtain ⟨_, h1, h2⟩ := hx
  have e0 := encI_small 5 (by decide)
  have q0 : qB ((5 : Nat) : Int) = true := qB_in (by decide) (by decide)
  have e1 : encL [5, b, g] = encI ((5 : Nat) : Int) ++ encL [b, g] := encL_cons (x := ((5 : Nat) : Int)) q0 (by simp [h1, h2])
  rw [e1, e0]
theorem encFB_8e0c1 (b : Int) (d : ByteArray) (g : Int) (l : Int) (m : Int) (u : Bool) (hf : isFB 8 b 0 d false g l m u = true) : encFB 8 b 0 d false g l m u = encL [10, b, (d.size : Int)] ++ d := by
  unfold encFB
  rw [hf]; rfl
theorem iform_8e0c1 (b : Int) (d : ByteArray) (g : Int) (l : Int) (m : Int) (u : Bool) (hf : isFB 8 b 0 d false g l m u = true) : ((one1 10 ++ encI b) ++ encI (d.size : Int)) ++ d = encL [10, b, (d.size : Int)] ++ d := by
  have hx : isFB 8 b 0 d false g l m u = true := hf
  rw [isFB_8] at hx
  simp only [Bool.and_eq_true] at hx
  obtain ⟨_, h1, h2, h3, _⟩ := hx
  have h3' : qB (d.size : Int) = true := by simp at h3; exact qB_in (by omega) (by omega)
  have e0 := encI_small 10 (by decide)
  have q0 : qB ((10 : Nat) : Int) = true := qB_in (by decide) (by decide)
  have e1 : encL [10, b, (d.size : Int)] = encI ((10 : Nat) : Int) ++ encL [b, (d.size : Int)] := encL_cons (x := ((10 : Nat) : Int)) q0 (by simp [h1, h3'])
  rw [e1, e0, encL_cons h1 (by simp [h3']), encL_one h3']
  apply ByteArray.ext
  simp
theorem encFB_8e0c0 (b : Int) (c : Int) (d : ByteArray) (g : Int) (l : Int) (m : Int) (u : Bool) (hf : isFB 8 b c d false g l m u = true) (hc : (c == 0) = false) : encFB 8 b c d false g l m u = encL [14, b, c, (d.size : Int)] ++ d := by
  have hc' : c ≠ 0 := by simpa using hc
  have e : encFB 8 b c d false g l m u = if isFB 8 b c d false g l m u then (if c = 0 then encL [10, b, (d.size : Int)] else encL [14, b, c, (d.size : Int)]) ++ d else ⟨#[]⟩ := rfl
  rw [e, hf, if_pos rfl, if_neg hc']
theorem iform_8e0c0 (b : Int) (c : Int) (d : ByteArray) (g : Int) (l : Int) (m : Int) (u : Bool) (hf : isFB 8 b c d false g l m u = true) : ((one1 14 ++ encI b) ++ encI c ++ encI (d.size : Int)) ++ d = encL [14, b, c, (d.size : Int)] ++ d := by
  have hx : isFB 8 b c d false g l m u = true := hf
  rw [isFB_8] at hx
  simp only [Bool.and_eq_true] at hx
  obtain ⟨_, h1, h2, h3, _⟩ := hx
  have h3' : qB (d.size : Int) = true := by simp at h3; exact qB_in (by omega) (by omega)
  have e0 := encI_small 14 (by decide)
  have q0 : qB ((14 : Nat) : Int) = true := qB_in (by decide) (by decide)
  have e1 : encL [14, b, c, (d.size : Int)] = encI ((14 : Nat) : Int) ++ encL [b, c, (d.size : Int)] := encL_cons (x := ((14 : Nat) : Int)) q0 (by simp [h1, h2, h3'])
  rw [e1, e0, encL_cons h1 (by simp [h2, h3']), encL_cons h2 (by simp [h3']), encL_one h3']
  apply ByteArray.ext
  simp
theorem encFB_8e1c1 (b : Int) (d : ByteArray) (g : Int) (l : Int) (m : Int) (u : Bool) (hf : isFB 8 b 0 d true g l m u = true) : encFB 8 b 0 d true g l m u = encL [11, b, (d.size : Int)] ++ d := by
  unfold encFB
  rw [hf]; rfl
theorem iform_8e1c1 (b : Int) (d : ByteArray) (g : Int) (l : Int) (m : Int) (u : Bool) (hf : isFB 8 b 0 d true g l m u = true) : ((one1 11 ++ encI b) ++ encI (d.size : Int)) ++ d = encL [11, b, (d.size : Int)] ++ d := by
  have hx : isFB 8 b 0 d true g l m u = true := hf
  rw [isFB_8] at hx
  simp only [Bool.and_eq_true] at hx
  obtain ⟨_, h1, h2, h3, _⟩ := hx
  have h3' : qB (d.size : Int) = true := by simp at h3; exact qB_in (by omega) (by omega)
  have e0 := encI_small 11 (by decide)
  have q0 : qB ((11 : Nat) : Int) = true := qB_in (by decide) (by decide)
  have e1 : encL [11, b, (d.size : Int)] = encI ((11 : Nat) : Int) ++ encL [b, (d.size : Int)] := encL_cons (x := ((11 : Nat) : Int)) q0 (by simp [h1, h3'])
  rw [e1, e0, encL_cons h1 (by simp [h3']), encL_one h3']
  apply ByteArray.ext
  simp
theorem encFB_8e1c0 (b : Int) (c : Int) (d : ByteArray) (g : Int) (l : Int) (m : Int) (u : Bool) (hf : isFB 8 b c d true g l m u = true) (hc : (c == 0) = false) : encFB 8 b c d true g l m u = encL [15, b, c, (d.size : Int)] ++ d := by
  have hc' : c ≠ 0 := by simpa using hc
  have e : encFB 8 b c d true g l m u = if isFB 8 b c d true g l m u then (if c = 0 then encL [11, b, (d.size : Int)] else encL [15, b, c, (d.size : Int)]) ++ d else ⟨#[]⟩ := rfl
  rw [e, hf, if_pos rfl, if_neg hc']
theorem iform_8e1c0 (b : Int) (c : Int) (d : ByteArray) (g : Int) (l : Int) (m : Int) (u : Bool) (hf : isFB 8 b c d true g l m u = true) : ((one1 15 ++ encI b) ++ encI c ++ encI (d.size : Int)) ++ d = encL [15, b, c, (d.size : Int)] ++ d := by
  have hx : isFB 8 b c d true g l m u = true := hf
  rw [isFB_8] at hx
  simp only [Bool.and_eq_true] at hx
  obtain ⟨_, h1, h2, h3, _⟩ := hx
  have h3' : qB (d.size : Int) = true := by simp at h3; exact qB_in (by omega) (by omega)
  have e0 := encI_small 15 (by decide)
  have q0 : qB ((15 : Nat) : Int) = true := qB_in (by decide) (by decide)
  have e1 : encL [15, b, c, (d.size : Int)] = encI ((15 : Nat) : Int) ++ encL [b, c, (d.size : Int)] := encL_cons (x := ((15 : Nat) : Int)) q0 (by simp [h1, h2, h3'])
  rw [e1, e0, encL_cons h1 (by simp [h2, h3']), encL_cons h2 (by simp [h3']), encL_one h3']
  apply ByteArray.ext
  simp
theorem encFB_16 (b : Int) (c : Int) (d : ByteArray) (e : Bool) (g : Int) (l : Int) (m : Int) (u : Bool) (hf : isFB 16 b c d e g l m u = true) : encFB 16 b c d e g l m u = encL [16, l] := by
  unfold encFB
  rw [hf]; rfl
theorem iform_16 (b : Int) (c : Int) (d : ByteArray) (e : Bool) (g : Int) (l : Int) (m : Int) (u : Bool) (hf : isFB 16 b c d e g l m u = true) : one1 16 ++ encI l = encL [16, l] := by
  have hx : isFB 16 b c d e g l m u = true := hf
  rw [isFB_16] at hx
  simp only [Bool.and_eq_true] at hx
  obtain ⟨_, h1⟩ := hx
  have e0 := encI_small 16 (by decide)
  have q0 : qB ((16 : Nat) : Int) = true := qB_in (by decide) (by decide)
  have e1 : encL [16, l] = encI ((16 : Nat) : Int) ++ encL [l] := encL_cons (x := ((16 : Nat) : Int)) q0 (by simp [h1])
  rw [e1, e0, encL_one h1]
theorem encFB_17 (b : Int) (c : Int) (d : ByteArray) (e : Bool) (g : Int) (l : Int) (m : Int) (u : Bool) (hf : isFB 17 b c d e g l m u = true) : encFB 17 b c d e g l m u = encL [17, b, l] := by
  unfold encFB
  rw [hf]; rfl
theorem iform_17 (b : Int) (c : Int) (d : ByteArray) (e : Bool) (g : Int) (l : Int) (m : Int) (u : Bool) (hf : isFB 17 b c d e g l m u = true) : one1 17 ++ encL [b, l] = encL [17, b, l] := by
  have hx : isFB 17 b c d e g l m u = true := hf
  rw [isFB_17] at hx
  simp only [Bool.and_eq_true] at hx
  obtain ⟨_, h1, h2⟩ := hx
  have e0 := encI_small 17 (by decide)
  have q0 : qB ((17 : Nat) : Int) = true := qB_in (by decide) (by decide)
  have e1 : encL [17, b, l] = encI ((17 : Nat) : Int) ++ encL [b, l] := encL_cons (x := ((17 : Nat) : Int)) q0 (by simp [h1, h2])
  rw [e1, e0]
theorem encFB_18u0 (b : Int) (c : Int) (d : ByteArray) (e : Bool) (g : Int) (l : Int) (m : Int) (hf : isFB 18 b c d e g l m false = true) : encFB 18 b c d e g l m false = encL [18, l] := by
  unfold encFB
  rw [hf]; rfl
theorem iform_18u0 (b : Int) (c : Int) (d : ByteArray) (e : Bool) (g : Int) (l : Int) (m : Int) (hf : isFB 18 b c d e g l m false = true) : one1 18 ++ encI l = encL [18, l] := by
  have hx : isFB 18 b c d e g l m false = true := hf
  rw [isFB_18] at hx
  simp only [Bool.and_eq_true] at hx
  obtain ⟨_, h1, _⟩ := hx
  have e0 := encI_small 18 (by decide)
  have q0 : qB ((18 : Nat) : Int) = true := qB_in (by decide) (by decide)
  have e1 : encL [18, l] = encI ((18 : Nat) : Int) ++ encL [l] := encL_cons (x := ((18 : Nat) : Int)) q0 (by simp [h1])
  rw [e1, e0, encL_one h1]
theorem encFB_18u1 (b : Int) (c : Int) (d : ByteArray) (e : Bool) (g : Int) (l : Int) (m : Int) (hf : isFB 18 b c d e g l m true = true) : encFB 18 b c d e g l m true = encL [19, l] := by
  unfold encFB
  rw [hf]; rfl
theorem iform_18u1 (b : Int) (c : Int) (d : ByteArray) (e : Bool) (g : Int) (l : Int) (m : Int) (hf : isFB 18 b c d e g l m true = true) : one1 19 ++ encI l = encL [19, l] := by
  have hx : isFB 18 b c d e g l m true = true := hf
  rw [isFB_18] at hx
  simp only [Bool.and_eq_true] at hx
  obtain ⟨_, h1, _⟩ := hx
  have e0 := encI_small 19 (by decide)
  have q0 : qB ((19 : Nat) : Int) = true := qB_in (by decide) (by decide)
  have e1 : encL [19, l] = encI ((19 : Nat) : Int) ++ encL [l] := encL_cons (x := ((19 : Nat) : Int)) q0 (by simp [h1])
  rw [e1, e0, encL_one h1]
theorem encFB_20 (b : Int) (c : Int) (d : ByteArray) (e : Bool) (g : Int) (l : Int) (m : Int) (u : Bool) (hf : isFB 20 b c d e g l m u = true) : encFB 20 b c d e g l m u = encL [20, l] := by
  unfold encFB
  rw [hf]; rfl
theorem iform_20 (b : Int) (c : Int) (d : ByteArray) (e : Bool) (g : Int) (l : Int) (m : Int) (u : Bool) (hf : isFB 20 b c d e g l m u = true) : one1 20 ++ encI l = encL [20, l] := by
  have hx : isFB 20 b c d e g l m u = true := hf
  rw [isFB_20] at hx
  simp only [Bool.and_eq_true] at hx
  obtain ⟨_, h1⟩ := hx
  have e0 := encI_small 20 (by decide)
  have q0 : qB ((20 : Nat) : Int) = true := qB_in (by decide) (by decide)
  have e1 : encL [20, l] = encI ((20 : Nat) : Int) ++ encL [l] := encL_cons (x := ((20 : Nat) : Int)) q0 (by simp [h1])
  rw [e1, e0, encL_one h1]
theorem encFB_21 (b : Int) (c : Int) (d : ByteArray) (e : Bool) (g : Int) (l : Int) (m : Int) (u : Bool) (hf : isFB 21 b c d e g l m u = true) : encFB 21 b c d e g l m u = encL [21, b, l] := by
  unfold encFB
  rw [hf]; rfl
theorem iform_21 (b : Int) (c : Int) (d : ByteArray) (e : Bool) (g : Int) (l : Int) (m : Int) (u : Bool) (hf : isFB 21 b c d e g l m u = true) : one1 21 ++ encL [b, l] = encL [21, b, l] := by
  have hx : isFB 21 b c d e g l m u = true := hf
  rw [isFB_21] at hx
  simp only [Bool.and_eq_true] at hx
  obtain ⟨_, h1, h2⟩ := hx
  have e0 := encI_small 21 (by decide)
  have q0 : qB ((21 : Nat) : Int) = true := qB_in (by decide) (by decide)
  have e1 : encL [21, b, l] = encI ((21 : Nat) : Int) ++ encL [b, l] := encL_cons (x := ((21 : Nat) : Int)) q0 (by simp [h1, h2])
  rw [e1, e0]
theorem encFB_22u0 (b : Int) (c : Int) (d : ByteArray) (e : Bool) (g : Int) (l : Int) (m : Int) (hf : isFB 22 b c d e g l m false = true) : encFB 22 b c d e g l m false = encL [22, l] := by
  unfold encFB
  rw [hf]; rfl
theorem iform_22u0 (b : Int) (c : Int) (d : ByteArray) (e : Bool) (g : Int) (l : Int) (m : Int) (hf : isFB 22 b c d e g l m false = true) : one1 22 ++ encI l = encL [22, l] := by
  have hx : isFB 22 b c d e g l m false = true := hf
  rw [isFB_22] at hx
  simp only [Bool.and_eq_true] at hx
  obtain ⟨_, h1, _⟩ := hx
  have e0 := encI_small 22 (by decide)
  have q0 : qB ((22 : Nat) : Int) = true := qB_in (by decide) (by decide)
  have e1 : encL [22, l] = encI ((22 : Nat) : Int) ++ encL [l] := encL_cons (x := ((22 : Nat) : Int)) q0 (by simp [h1])
  rw [e1, e0, encL_one h1]
theorem encFB_22u1 (b : Int) (c : Int) (d : ByteArray) (e : Bool) (g : Int) (l : Int) (m : Int) (hf : isFB 22 b c d e g l m true = true) : encFB 22 b c d e g l m true = encL [23, l] := by
  unfold encFB
  rw [hf]; rfl
theorem iform_22u1 (b : Int) (c : Int) (d : ByteArray) (e : Bool) (g : Int) (l : Int) (m : Int) (hf : isFB 22 b c d e g l m true = true) : one1 23 ++ encI l = encL [23, l] := by
  have hx : isFB 22 b c d e g l m true = true := hf
  rw [isFB_22] at hx
  simp only [Bool.and_eq_true] at hx
  obtain ⟨_, h1, _⟩ := hx
  have e0 := encI_small 23 (by decide)
  have q0 : qB ((23 : Nat) : Int) = true := qB_in (by decide) (by decide)
  have e1 : encL [23, l] = encI ((23 : Nat) : Int) ++ encL [l] := encL_cons (x := ((23 : Nat) : Int)) q0 (by simp [h1])
  rw [e1, e0, encL_one h1]
set_option maxHeartbeats 1000000 in
theorem sEncF0 (a : Int) (b c : Int) (d : ByteArray) (e : Bool) (g l m : Int) (u : Bool) (hs : d.size ≤ 1048576) (hf : isFB a b c d e g l m u = false) (w : World) :
    Calls Try.prog 27 #[.agg #[.int .i64 a, .int .i64 b, .int .i64 c, .string d, .bool e, .int .i64 g, .int .i64 l, .int .i64 m, .bool u]] w fun x w' => x = .returned (.string ⟨#[]⟩) ∧ Below w.heap.size w w' := by
  have hb0 : Below w.heap.size w (w.alloc (.cells #[.int .i64 a, .int .i64 b, .int .i64 c, .string d, .bool e, .int .i64 g, .int .i64 l, .int .i64 m, .bool u] 40)) := (Below.refl _ _).alloc (Nat.le_refl _) _
  go_enter Try.func27, Try.ntmps27
  go_wp2_with fail
  refine (sIs a b c d e g l m u hs _).mono ?_
  rintro x w1 ⟨rfl, hb1⟩
  rw [hf]
  replace hb1 := below_next hb0 hb0.size hb1
  go_wp2
  go_ret
  exact ⟨rfl, hb1⟩
theorem sEncF (a : Int) (b c : Int) (d : ByteArray) (e : Bool) (g l m : Int) (u : Bool) (hs : d.size ≤ 1048576) (w : World) :
    Calls Try.prog 27 #[.agg #[.int .i64 a, .int .i64 b, .int .i64 c, .string d, .bool e, .int .i64 g, .int .i64 l, .int .i64 m, .bool u]] w fun x w' => x = .returned (.string (encFB a b c d e g l m u)) ∧ Below w.heap.size w w' := by
  cases hf : isFB a b c d e g l m u
  · have e0 : encFB a b c d e g l m u = ⟨#[]⟩ := by unfold encFB; rw [hf]; rfl
    rw [e0]; exact sEncF0 a b c d e g l m u hs hf w
  · rcases kind_cases a with rfl | rfl | rfl | rfl | rfl | rfl | rfl | rfl | rfl | h
    · rw [encFB_4 b c d e g l m u hf]; exact sEncF_4 b c d e g l m u hs hf w
    · rw [encFB_5 b c d e g l m u hf]; exact sEncF_5 b c d e g l m u hs hf w
    · cases hc : (c == 0)
      · cases e
        · rw [encFB_8e0c0 b c d g l m u hf hc]; exact sEncF_8e0c0 b c d g l m u hs hf hc w
        · rw [encFB_8e1c0 b c d g l m u hf hc]; exact sEncF_8e1c0 b c d g l m u hs hf hc w
      · obtain rfl : c = 0 := by simpa using hc
        cases e
        · rw [encFB_8e0c1 b d g l m u hf]; exact sEncF_8e0c1 b d g l m u hs hf w
        · rw [encFB_8e1c1 b d g l m u hf]; exact sEncF_8e1c1 b d g l m u hs hf w
    · rw [encFB_16 b c d e g l m u hf]; exact sEncF_16 b c d e g l m u hs hf w
    · rw [encFB_17 b c d e g l m u hf]; exact sEncF_17 b c d e g l m u hs hf w
    · cases u
      · rw [encFB_18u0 b c d e g l m hf]; exact sEncF_18u0 b c d e g l m hs hf w
      · rw [encFB_18u1 b c d e g l m hf]; exact sEncF_18u1 b c d e g l m hs hf w
    · rw [encFB_20 b c d e g l m u hf]; exact sEncF_20 b c d e g l m u hs hf w
    · rw [encFB_21 b c d e g l m u hf]; exact sEncF_21 b c d e g l m u hs hf w
    · cases u
      · rw [encFB_22u0 b c d e g l m hf]; exact sEncF_22u0 b c d e g l m hs hf w
      · rw [encFB_22u1 b c d e g l m hf]; exact sEncF_22u1 b c d e g l m hs hf w
    · rw [isFB_no h] at hf; cases hf
set_option maxHeartbeats 1000000 in
theorem iEncF0 (a : Int) (b c : Int) (d : ByteArray) (e : Bool) (g l m : Int) (u : Bool) (hs : d.size ≤ 1048576) (hf : isFB a b c d e g l m u = false) (w : World) :
    Calls Try.prog 25 #[.agg #[.int .i64 a, .int .i64 b, .int .i64 c, .string d, .bool e, .int .i64 g, .int .i64 l, .int .i64 m, .bool u]] w fun x w' => x = .returned (.string ⟨#[]⟩) ∧ Below w.heap.size w w' := by
  have hb0 : Below w.heap.size w (w.alloc (.cells #[.int .i64 a, .int .i64 b, .int .i64 c, .string d, .bool e, .int .i64 g, .int .i64 l, .int .i64 m, .bool u] 40)) := (Below.refl _ _).alloc (Nat.le_refl _) _
  go_enter Try.func25, Try.ntmps25
  go_wp2_with fail
  refine (iIs a b c d e g l m u hs _).mono ?_
  rintro x w1 ⟨rfl, hb1⟩
  rw [hf]
  replace hb1 := below_next hb0 hb0.size hb1
  go_wp2
  go_ret
  exact ⟨rfl, hb1⟩
theorem iEncF (a : Int) (b c : Int) (d : ByteArray) (e : Bool) (g l m : Int) (u : Bool) (hs : d.size ≤ 1048576) (w : World) :
    Calls Try.prog 25 #[.agg #[.int .i64 a, .int .i64 b, .int .i64 c, .string d, .bool e, .int .i64 g, .int .i64 l, .int .i64 m, .bool u]] w fun x w' => x = .returned (.string (encFB a b c d e g l m u)) ∧ Below w.heap.size w w' := by
  cases hf : isFB a b c d e g l m u
  · have e0 : encFB a b c d e g l m u = ⟨#[]⟩ := by unfold encFB; rw [hf]; rfl
    rw [e0]; exact iEncF0 a b c d e g l m u hs hf w
  · rcases kind_cases a with rfl | rfl | rfl | rfl | rfl | rfl | rfl | rfl | rfl | h
    · rw [encFB_4 b c d e g l m u hf, ← iform_4 b c d e g l m u hf]; exact iEncF_4 b c d e g l m u hs hf w
    · rw [encFB_5 b c d e g l m u hf, ← iform_5 b c d e g l m u hf]; exact iEncF_5 b c d e g l m u hs hf w
    · cases hc : (c == 0)
      · cases e
        · rw [encFB_8e0c0 b c d g l m u hf hc, ← iform_8e0c0 b c d g l m u hf]; exact iEncF_8e0c0 b c d g l m u hs hf hc w
        · rw [encFB_8e1c0 b c d g l m u hf hc, ← iform_8e1c0 b c d g l m u hf]; exact iEncF_8e1c0 b c d g l m u hs hf hc w
      · obtain rfl : c = 0 := by simpa using hc
        cases e
        · rw [encFB_8e0c1 b d g l m u hf, ← iform_8e0c1 b d g l m u hf]; exact iEncF_8e0c1 b d g l m u hs hf w
        · rw [encFB_8e1c1 b d g l m u hf, ← iform_8e1c1 b d g l m u hf]; exact iEncF_8e1c1 b d g l m u hs hf w
    · rw [encFB_16 b c d e g l m u hf, ← iform_16 b c d e g l m u hf]; exact iEncF_16 b c d e g l m u hs hf w
    · rw [encFB_17 b c d e g l m u hf, ← iform_17 b c d e g l m u hf]; exact iEncF_17 b c d e g l m u hs hf w
    · cases u
      · rw [encFB_18u0 b c d e g l m hf, ← iform_18u0 b c d e g l m hf]; exact iEncF_18u0 b c d e g l m hs hf w
      · rw [encFB_18u1 b c d e g l m hf, ← iform_18u1 b c d e g l m hf]; exact iEncF_18u1 b c d e g l m hs hf w
    · rw [encFB_20 b c d e g l m u hf, ← iform_20 b c d e g l m u hf]; exact iEncF_20 b c d e g l m u hs hf w
    · rw [encFB_21 b c d e g l m u hf, ← iform_21 b c d e g l m u hf]; exact iEncF_21 b c d e g l m u hs hf w
    · cases u
      · rw [encFB_22u0 b c d e g l m hf, ← iform_22u0 b c d e g l m hf]; exact iEncF_22u0 b c d e g l m hs hf w
      · rw [encFB_22u1 b c d e g l m hf, ← iform_22u1 b c d e g l m hf]; exact iEncF_22u1 b c d e g l m hs hf w
    · rw [isFB_no h] at hf; cases hf
theorem iFS (a : Int) (b c : Int) (d : ByteArray) (e : Bool) (g l m : Int) (u : Bool) (hs : d.size ≤ 1048576) (w : World) :
    Calls Try.prog 30 #[.agg #[.int .i64 a, .int .i64 b, .int .i64 c, .string d, .bool e, .int .i64 g, .int .i64 l, .int .i64 m, .bool u]] w fun x w' => x = .returned (.int .i64 ((encFB a b c d e g l m u).size : Int)) ∧ Below w.heap.size w w' := by
  have hb0 : Below w.heap.size w (w.alloc (.cells #[.int .i64 a, .int .i64 b, .int .i64 c, .string d, .bool e, .int .i64 g, .int .i64 l, .int .i64 m, .bool u] 40)) := (Below.refl _ _).alloc (Nat.le_refl _) _
  go_enter Try.func30, Try.ntmps30
  go_wp2_with fail
  refine (iEncF a b c d e g l m u hs _).mono ?_
  rintro x w1 ⟨rfl, hb1⟩
  replace hb1 := below_next hb0 hb0.size hb1
  go_wp2
  go_ret
  exact ⟨rfl, hb1⟩
end Go.Proofs.Ytadoiehgobcjcaa
