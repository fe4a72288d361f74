/- The fields that a frame's kind uses: one contract for each kind. No conditions. -/
import Derived.Test.YtadoiehgobcjcaaF1
import Derived.Deep.RegionHeld3
namespace Go.Proofs.Ytadoiehgobcjcaa
open Go.ChangeShapes Go.WideShapes Go.ChangeAt Go.RowKit Go.Sort QM
set_option linter.unusedVariables false
set_option linter.unusedSimpArgs false
theorem sUsed_4 (b c : Int) (d : ByteArray) (e : Bool) (g l m : Int) (u : Bool) (w : World) :
    Calls Try.prog 60 #[.agg #[.int .i64 4, .int .i64 b, .int .i64 c, .string d, .bool e, .int .i64 g, .int .i64 l, .int .i64 m, .bool u]] w fun x w' => x = .returned (.agg #[.int .i64 4, .int .i64 b, .int .i64 0, .string ⟨#[]⟩, .bool false, .int .i64 g, .int .i64 0, .int .i64 m, .bool false]) ∧ Below w.heap.size w w' := by
  have ha : abB 4 = true := rfl
  go_enter Try.func60, Try.ntmps60
  go_wp2_with (first | (go_at_call 37; refine (sAbout _ _ _ _ _ _ _ _ _ _).mono ?_; rintro x w' ⟨rfl, rfl⟩))
  refine bodyPost_ret (v := .agg #[.int .i64 4, .int .i64 b, .int .i64 0, .string ⟨#[]⟩, .bool false, .int .i64 g, .int .i64 0, .int .i64 m, .bool false]) (by simp [results, Try.results60, go_sem]) rfl ⟨rfl, ?_⟩
  go_grown
theorem iUsed_4 (b c : Int) (d : ByteArray) (e : Bool) (g l m : Int) (u : Bool) (w : World) :
    Calls Try.prog 59 #[.agg #[.int .i64 4, .int .i64 b, .int .i64 c, .string d, .bool e, .int .i64 g, .int .i64 l, .int .i64 m, .bool u]] w fun x w' => x = .returned (.agg #[.int .i64 4, .int .i64 b, .int .i64 0, .string ⟨#[]⟩, .bool false, .int .i64 g, .int .i64 0, .int .i64 m, .bool false]) ∧ Below w.heap.size w w' := by
  have ha : abB 4 = true := rfl
  go_enter Try.func59, Try.ntmps59
  go_wp2_with (first | (go_at_call 36; refine (iAbout _ _ _ _ _ _ _ _ _ _).mono ?_; rintro x w' ⟨rfl, rfl⟩))
  go_region_held3 (fun w' => w'.cell? ⟨w.heap.size, 5, none⟩ = some (.int .i64 g) ∧ w'.cell? ⟨w.heap.size, 7, none⟩ = some (.int .i64 m)) (first | go_keep) (first | (fail))
  go_wp2
  refine bodyPost_ret (v := .agg #[.int .i64 4, .int .i64 b, .int .i64 0, .string ⟨#[]⟩, .bool false, .int .i64 g, .int .i64 0, .int .i64 m, .bool false]) (by simp [results, Try.results59, go_sem]) rfl ⟨rfl, ?_⟩
  go_grown
theorem sUsed_5 (b c : Int) (d : ByteArray) (e : Bool) (g l m : Int) (u : Bool) (w : World) :
    Calls Try.prog 60 #[.agg #[.int .i64 5, .int .i64 b, .int .i64 c, .string d, .bool e, .int .i64 g, .int .i64 l, .int .i64 m, .bool u]] w fun x w' => x = .returned (.agg #[.int .i64 5, .int .i64 b, .int .i64 0, .string ⟨#[]⟩, .bool false, .int .i64 g, .int .i64 0, .int .i64 0, .bool false]) ∧ Below w.heap.size w w' := by
  have ha : abB 5 = true := rfl
  go_enter Try.func60, Try.ntmps60
  go_wp2_with (first | (go_at_call 37; refine (sAbout _ _ _ _ _ _ _ _ _ _).mono ?_; rintro x w' ⟨rfl, rfl⟩))
  refine bodyPost_ret (v := .agg #[.int .i64 5, .int .i64 b, .int .i64 0, .string ⟨#[]⟩, .bool false, .int .i64 g, .int .i64 0, .int .i64 0, .bool false]) (by simp [results, Try.results60, go_sem]) rfl ⟨rfl, ?_⟩
  go_grown
theorem iUsed_5 (b c : Int) (d : ByteArray) (e : Bool) (g l m : Int) (u : Bool) (w : World) :
    Calls Try.prog 59 #[.agg #[.int .i64 5, .int .i64 b, .int .i64 c, .string d, .bool e, .int .i64 g, .int .i64 l, .int .i64 m, .bool u]] w fun x w' => x = .returned (.agg #[.int .i64 5, .int .i64 b, .int .i64 0, .string ⟨#[]⟩, .bool false, .int .i64 g, .int .i64 0, .int .i64 0, .bool false]) ∧ Below w.heap.size w w' := by
  have ha : abB 5 = true := rfl
  go_enter Try.func59, Try.ntmps59
  go_wp2_with (first | (go_at_call 36; refine (iAbout _ _ _ _ _ _ _ _ _ _).mono ?_; rintro x w' ⟨rfl, rfl⟩))
  refine bodyPost_ret (v := .agg #[.int .i64 5, .int .i64 b, .int .i64 0, .string ⟨#[]⟩, .bool false, .int .i64 g, .int .i64 0, .int .i64 0, .bool false]) (by simp [results, Try.results59, go_sem]) rfl ⟨rfl, ?_⟩
  go_grown
theorem sUsed_8 (b c : Int) (d : ByteArray) (e : Bool) (g l m : Int) (u : Bool) (w : World) :
    Calls Try.prog 60 #[.agg #[.int .i64 8, .int .i64 b, .int .i64 c, .string d, .bool e, .int .i64 g, .int .i64 l, .int .i64 m, .bool u]] w fun x w' => x = .returned (.agg #[.int .i64 8, .int .i64 b, .int .i64 c, .string d, .bool e, .int .i64 0, .int .i64 0, .int .i64 0, .bool false]) ∧ Below w.heap.size w w' := by
  have ha : abB 8 = true := rfl
  go_enter Try.func60, Try.ntmps60
  go_wp2_with (first | (go_at_call 37; refine (sAbout _ _ _ _ _ _ _ _ _ _).mono ?_; rintro x w' ⟨rfl, rfl⟩))
  refine bodyPost_ret (v := .agg #[.int .i64 8, .int .i64 b, .int .i64 c, .string d, .bool e, .int .i64 0, .int .i64 0, .int .i64 0, .bool false]) (by simp [results, Try.results60, go_sem]) rfl ⟨rfl, ?_⟩
  go_grown
theorem iUsed_8 (b c : Int) (d : ByteArray) (e : Bool) (g l m : Int) (u : Bool) (w : World) :
    Calls Try.prog 59 #[.agg #[.int .i64 8, .int .i64 b, .int .i64 c, .string d, .bool e, .int .i64 g, .int .i64 l, .int .i64 m, .bool u]] w fun x w' => x = .returned (.agg #[.int .i64 8, .int .i64 b, .int .i64 c, .string d, .bool e, .int .i64 0, .int .i64 0, .int .i64 0, .bool false]) ∧ Below w.heap.size w w' := by
  have ha : abB 8 = true := rfl
  go_enter Try.func59, Try.ntmps59
  go_wp2_with (first | (go_at_call 36; refine (iAbout _ _ _ _ _ _ _ _ _ _).mono ?_; rintro x w' ⟨rfl, rfl⟩))
  go_region_held3 (fun w' => w'.cell? ⟨w.heap.size, 2, none⟩ = some (.int .i64 c) ∧ w'.cell? ⟨w.heap.size, 3, none⟩ = some (.string d) ∧ w'.cell? ⟨w.heap.size, 4, none⟩ = some (.bool e)) (first | go_keep) (first | (fail))
  go_wp2
  refine bodyPost_ret (v := .agg #[.int .i64 8, .int .i64 b, .int .i64 c, .string d, .bool e, .int .i64 0, .int .i64 0, .int .i64 0, .bool false]) (by simp [results, Try.results59, go_sem]) rfl ⟨rfl, ?_⟩
  go_grown
theorem sUsed_16 (b c : Int) (d : ByteArray) (e : Bool) (g l m : Int) (u : Bool) (w : World) :
    Calls Try.prog 60 #[.agg #[.int .i64 16, .int .i64 b, .int .i64 c, .string d, .bool e, .int .i64 g, .int .i64 l, .int .i64 m, .bool u]] w fun x w' => x = .returned (.agg #[.int .i64 16, .int .i64 0, .int .i64 0, .string ⟨#[]⟩, .bool false, .int .i64 0, .int .i64 l, .int .i64 0, .bool false]) ∧ Below w.heap.size w w' := by
  have ha : abB 16 = false := rfl
  go_enter Try.func60, Try.ntmps60
  go_wp2_with (first | (go_at_call 37; refine (sAbout _ _ _ _ _ _ _ _ _ _).mono ?_; rintro x w' ⟨rfl, rfl⟩))
  refine bodyPost_ret (v := .agg #[.int .i64 16, .int .i64 0, .int .i64 0, .string ⟨#[]⟩, .bool false, .int .i64 0, .int .i64 l, .int .i64 0, .bool false]) (by simp [results, Try.results60, go_sem]) rfl ⟨rfl, ?_⟩
  go_grown
theorem iUsed_16 (b c : Int) (d : ByteArray) (e : Bool) (g l m : Int) (u : Bool) (w : World) :
    Calls Try.prog 59 #[.agg #[.int .i64 16, .int .i64 b, .int .i64 c, .string d, .bool e, .int .i64 g, .int .i64 l, .int .i64 m, .bool u]] w fun x w' => x = .returned (.agg #[.int .i64 16, .int .i64 0, .int .i64 0, .string ⟨#[]⟩, .bool false, .int .i64 0, .int .i64 l, .int .i64 0, .bool false]) ∧ Below w.heap.size w w' := by
  have ha : abB 16 = false := rfl
  go_enter Try.func59, Try.ntmps59
  go_wp2_with (first | (go_at_call 36; refine (iAbout _ _ _ _ _ _ _ _ _ _).mono ?_; rintro x w' ⟨rfl, rfl⟩))
  refine bodyPost_ret (v := .agg #[.int .i64 16, .int .i64 0, .int .i64 0, .string ⟨#[]⟩, .bool false, .int .i64 0, .int .i64 l, .int .i64 0, .bool false]) (by simp [results, Try.results59, go_sem]) rfl ⟨rfl, ?_⟩
  go_grown
theorem sUsed_17 (b c : Int) (d : ByteArray) (e : Bool) (g l m : Int) (u : Bool) (w : World) :
    Calls Try.prog 60 #[.agg #[.int .i64 17, .int .i64 b, .int .i64 c, .string d, .bool e, .int .i64 g, .int .i64 l, .int .i64 m, .bool u]] w fun x w' => x = .returned (.agg #[.int .i64 17, .int .i64 b, .int .i64 0, .string ⟨#[]⟩, .bool false, .int .i64 0, .int .i64 l, .int .i64 0, .bool false]) ∧ Below w.heap.size w w' := by
  have ha : abB 17 = true := rfl
  go_enter Try.func60, Try.ntmps60
  go_wp2_with (first | (go_at_call 37; refine (sAbout _ _ _ _ _ _ _ _ _ _).mono ?_; rintro x w' ⟨rfl, rfl⟩))
  refine bodyPost_ret (v := .agg #[.int .i64 17, .int .i64 b, .int .i64 0, .string ⟨#[]⟩, .bool false, .int .i64 0, .int .i64 l, .int .i64 0, .bool false]) (by simp [results, Try.results60, go_sem]) rfl ⟨rfl, ?_⟩
  go_grown
theorem iUsed_17 (b c : Int) (d : ByteArray) (e : Bool) (g l m : Int) (u : Bool) (w : World) :
    Calls Try.prog 59 #[.agg #[.int .i64 17, .int .i64 b, .int .i64 c, .string d, .bool e, .int .i64 g, .int .i64 l, .int .i64 m, .bool u]] w fun x w' => x = .returned (.agg #[.int .i64 17, .int .i64 b, .int .i64 0, .string ⟨#[]⟩, .bool false, .int .i64 0, .int .i64 l, .int .i64 0, .bool false]) ∧ Below w.heap.size w w' := by
  have ha : abB 17 = true := rfl
  go_enter Try.func59, Try.ntmps59
  go_wp2_with (first | (go_at_call 36; refine (iAbout _ _ _ _ _ _ _ _ _ _).mono ?_; rintro x w' ⟨rfl, rfl⟩))
  refine bodyPost_ret (v := .agg #[.int .i64 17, .int .i64 b, .int .i64 0, .string ⟨#[]⟩, .bool false, .int .i64 0, .int .i64 l, .int .i64 0, .bool false]) (by simp [results, Try.results59, go_sem]) rfl ⟨rfl, ?_⟩
  go_grown
theorem sUsed_18 (b c : Int) (d : ByteArray) (e : Bool) (g l m : Int) (u : Bool) (w : World) :
    Calls Try.prog 60 #[.agg #[.int .i64 18, .int .i64 b, .int .i64 c, .string d, .bool e, .int .i64 g, .int .i64 l, .int .i64 m, .bool u]] w fun x w' => x = .returned (.agg #[.int .i64 18, .int .i64 0, .int .i64 0, .string ⟨#[]⟩, .bool false, .int .i64 0, .int .i64 l, .int .i64 0, .bool u]) ∧ Below w.heap.size w w' := by
  have ha : abB 18 = false := rfl
  go_enter Try.func60, Try.ntmps60
  go_wp2_with (first | (go_at_call 37; refine (sAbout _ _ _ _ _ _ _ _ _ _).mono ?_; rintro x w' ⟨rfl, rfl⟩))
  refine bodyPost_ret (v := .agg #[.int .i64 18, .int .i64 0, .int .i64 0, .string ⟨#[]⟩, .bool false, .int .i64 0, .int .i64 l, .int .i64 0, .bool u]) (by simp [results, Try.results60, go_sem]) rfl ⟨rfl, ?_⟩
  go_grown
theorem iUsed_18 (b c : Int) (d : ByteArray) (e : Bool) (g l m : Int) (u : Bool) (w : World) :
    Calls Try.prog 59 #[.agg #[.int .i64 18, .int .i64 b, .int .i64 c, .string d, .bool e, .int .i64 g, .int .i64 l, .int .i64 m, .bool u]] w fun x w' => x = .returned (.agg #[.int .i64 18, .int .i64 0, .int .i64 0, .string ⟨#[]⟩, .bool false, .int .i64 0, .int .i64 l, .int .i64 0, .bool u]) ∧ Below w.heap.size w w' := by
  have ha : abB 18 = false := rfl
  go_enter Try.func59, Try.ntmps59
  go_wp2_with (first | (go_at_call 36; refine (iAbout _ _ _ _ _ _ _ _ _ _).mono ?_; rintro x w' ⟨rfl, rfl⟩))
  go_region_held3 (fun w' => w'.cell? ⟨w.heap.size, 6, none⟩ = some (.int .i64 l) ∧ w'.cell? ⟨w.heap.size, 8, none⟩ = some (.bool u)) (first | go_keep) (first | (fail))
  go_wp2
  refine bodyPost_ret (v := .agg #[.int .i64 18, .int .i64 0, .int .i64 0, .string ⟨#[]⟩, .bool false, .int .i64 0, .int .i64 l, .int .i64 0, .bool u]) (by simp [results, Try.results59, go_sem]) rfl ⟨rfl, ?_⟩
  go_grown
theorem sUsed_20 (b c : Int) (d : ByteArray) (e : Bool) (g l m : Int) (u : Bool) (w : World) :
    Calls Try.prog 60 #[.agg #[.int .i64 20, .int .i64 b, .int .i64 c, .string d, .bool e, .int .i64 g, .int .i64 l, .int .i64 m, .bool u]] w fun x w' => x = .returned (.agg #[.int .i64 20, .int .i64 0, .int .i64 0, .string ⟨#[]⟩, .bool false, .int .i64 0, .int .i64 l, .int .i64 0, .bool false]) ∧ Below w.heap.size w w' := by
  have ha : abB 20 = false := rfl
  go_enter Try.func60, Try.ntmps60
  go_wp2_with (first | (go_at_call 37; refine (sAbout _ _ _ _ _ _ _ _ _ _).mono ?_; rintro x w' ⟨rfl, rfl⟩))
  refine bodyPost_ret (v := .agg #[.int .i64 20, .int .i64 0, .int .i64 0, .string ⟨#[]⟩, .bool false, .int .i64 0, .int .i64 l, .int .i64 0, .bool false]) (by simp [results, Try.results60, go_sem]) rfl ⟨rfl, ?_⟩
  go_grown
theorem iUsed_20 (b c : Int) (d : ByteArray) (e : Bool) (g l m : Int) (u : Bool) (w : World) :
    Calls Try.prog 59 #[.agg #[.int .i64 20, .int .i64 b, .int .i64 c, .string d, .bool e, .int .i64 g, .int .i64 l, .int .i64 m, .bool u]] w fun x w' => x = .returned (.agg #[.int .i64 20, .int .i64 0, .int .i64 0, .string ⟨#[]⟩, .bool false, .int .i64 0, .int .i64 l, .int .i64 0, .bool false]) ∧ Below w.heap.size w w' := by
  have ha : abB 20 = false := rfl
  go_enter Try.func59, Try.ntmps59
  go_wp2_with (first | (go_at_call 36; refine (iAbout _ _ _ _ _ _ _ _ _ _).mono ?_; rintro x w' ⟨rfl, rfl⟩))
  refine bodyPost_ret (v := .agg #[.int .i64 20, .int .i64 0, .int .i64 0, .string ⟨#[]⟩, .bool false, .int .i64 0, .int .i64 l, .int .i64 0, .bool false]) (by simp [results, Try.results59, go_sem]) rfl ⟨rfl, ?_⟩
  go_grown
theorem sUsed_21 (b c : Int) (d : ByteArray) (e : Bool) (g l m : Int) (u : Bool) (w : World) :
    Calls Try.prog 60 #[.agg #[.int .i64 21, .int .i64 b, .int .i64 c, .string d, .bool e, .int .i64 g, .int .i64 l, .int .i64 m, .bool u]] w fun x w' => x = .returned (.agg #[.int .i64 21, .int .i64 b, .int .i64 0, .string ⟨#[]⟩, .bool false, .int .i64 0, .int .i64 l, .int .i64 0, .bool false]) ∧ Below w.heap.size w w' := by
  have ha : abB 21 = true := rfl
  go_enter Try.func60, Try.ntmps60
  go_wp2_with (first | (go_at_call 37; refine (sAbout _ _ _ _ _ _ _ _ _ _).mono ?_; rintro x w' ⟨rfl, rfl⟩))
  refine bodyPost_ret (v := .agg #[.int .i64 21, .int .i64 b, .int .i64 0, .string ⟨#[]⟩, .bool false, .int .i64 0, .int .i64 l, .int .i64 0, .bool false]) (by simp [results, Try.results60, go_sem]) rfl ⟨rfl, ?_⟩
  go_grown
theorem iUsed_21 (b c : Int) (d : ByteArray) (e : Bool) (g l m : Int) (u : Bool) (w : World) :
    Calls Try.prog 59 #[.agg #[.int .i64 21, .int .i64 b, .int .i64 c, .string d, .bool e, .int .i64 g, .int .i64 l, .int .i64 m, .bool u]] w fun x w' => x = .returned (.agg #[.int .i64 21, .int .i64 b, .int .i64 0, .string ⟨#[]⟩, .bool false, .int .i64 0, .int .i64 l, .int .i64 0, .bool false]) ∧ Below w.heap.size w w' := by
  have ha : abB 21 = true := rfl
  go_enter Try.func59, Try.ntmps59
  go_wp2_with (first | (go_at_call 36; refine (iAbout _ _ _ _ _ _ _ _ _ _).mono ?_; rintro x w' ⟨rfl, rfl⟩))
  refine bodyPost_ret (v := .agg #[.int .i64 21, .int .i64 b, .int .i64 0, .string ⟨#[]⟩, .bool false, .int .i64 0, .int .i64 l, .int .i64 0, .bool false]) (by simp [results, Try.results59, go_sem]) rfl ⟨rfl, ?_⟩
  go_grown
theorem sUsed_22 (b c : Int) (d : ByteArray) (e : Bool) (g l m : Int) (u : Bool) (w : World) :
    Calls Try.prog 60 #[.agg #[.int .i64 22, .int .i64 b, .int .i64 c, .string d, .bool e, .int .i64 g, .int .i64 l, .int .i64 m, .bool u]] w fun x w' => x = .returned (.agg #[.int .i64 22, .int .i64 0, .int .i64 0, .string ⟨#[]⟩, .bool false, .int .i64 0, .int .i64 l, .int .i64 0, .bool u]) ∧ Below w.heap.size w w' := by
  have ha : abB 22 = false := rfl
  go_enter Try.func60, Try.ntmps60
  go_wp2_with (first | (go_at_call 37; refine (sAbout _ _ _ _ _ _ _ _ _ _).mono ?_; rintro x w' ⟨rfl, rfl⟩))
  refine bodyPost_ret (v := .agg #[.int .i64 22, .int .i64 0, .int .i64 0, .string ⟨#[]⟩, .bool false, .int .i64 0, .int .i64 l, .int .i64 0, .bool u]) (by simp [results, Try.results60, go_sem]) rfl ⟨rfl, ?_⟩
  go_grown
theorem iUsed_22 (b c : Int) (d : ByteArray) (e : Bool) (g l m : Int) (u : Bool) (w : World) :
    Calls Try.prog 59 #[.agg #[.int .i64 22, .int .i64 b, .int .i64 c, .string d, .bool e, .int .i64 g, .int .i64 l, .int .i64 m, .bool u]] w fun x w' => x = .returned (.agg #[.int .i64 22, .int .i64 0, .int .i64 0, .string ⟨#[]⟩, .bool false, .int .i64 0, .int .i64 l, .int .i64 0, .bool u]) ∧ Below w.heap.size w w' := by
  have ha : abB 22 = false := rfl
  go_enter Try.func59, Try.ntmps59
  go_wp2_with (first | (go_at_call 36; refine (iAbout _ _ _ _ _ _ _ _ _ _).mono ?_; rintro x w' ⟨rfl, rfl⟩))
  go_region_held3 (fun w' => w'.cell? ⟨w.heap.size, 6, none⟩ = some (.int .i64 l) ∧ w'.cell? ⟨w.heap.size, 8, none⟩ = some (.bool u)) (first | go_keep) (first | (fail))
  go_wp2
  refine bodyPost_ret (v := .agg #[.int .i64 22, .int .i64 0, .int .i64 0, .string ⟨#[]⟩, .bool false, .int .i64 0, .int .i64 l, .int .i64 0, .bool u]) (by simp [results, Try.results59, go_sem]) rfl ⟨rfl, ?_⟩
  go_grown
end Go.Proofs.Ytadoiehgobcjcaa
