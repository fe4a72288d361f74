/- What FnIntegerEncodings draws from its code. No conditions. -/
import Derived.Test.YthhdjajjckcikaaDoorND2
namespace Go.Proofs.YthhdjajjckcikaaDoor
open Go.ChangeShapes Go.WideShapes Go.ChangeAt Go.RowKit Go.Sort
set_option linter.unusedVariables false
set_option linter.unusedSimpArgs false
/-- Whatever is drawn from a code: a value with the property P; memory grows. -/
def Drawn (w : World) (P : Value → Prop) (e : Ending) (w' : World) : Prop := ∃ v, e = .returned v ∧ P v ∧ Below w.heap.size w w'
theorem below_cur {w0 w w' : World} {g : Nat} (h : Below w0.heap.size w0 w) (hg : w.grownBy w' (some g)) (hgl : w0.heap.size ≤ g) : Below w0.heap.size w0 w' :=
  h.grown hg h.size (fun k hk => by injection hk; omega)
theorem drawEncodeVarint {A : Option Addr} {c n : Nat} {w : World} {l : List Int} (hr : Rd w w.heap.size A (cby l)) (hm : n ≤ 1048576) (HL : Hid (l.length = n)) :
    Calls Tryd.prog 5 #[.slice A n c] w (Drawn w fun v => ∃ x : Int, v = .int .i64 x ∧ In64 x) := by
  go_enter Tryd.func5, Tryd.ntmps5
  go_wp2_with fail
  refine (l1New_any hr hm HL).mono ?_
  rintro e w1 ⟨g, rfl, hc1, hb1, hg⟩
  go_wp2_with fail
  refine (l1Num_any hc1).mono ?_
  rintro e w2 ⟨⟨x, hx, rfl⟩, hc2, hg2⟩
  replace hb1 := below_cur hb1 hg2 hg
  go_wp2
  go_ret
  exact ⟨_, rfl, ⟨x, rfl, hx⟩, hb1⟩
theorem drawEncodeHex {A : Option Addr} {c n : Nat} {w : World} {l : List Int} (hr : Rd w w.heap.size A (cby l)) (hm : n ≤ 1048576) (HL : Hid (l.length = n)) :
    Calls Tryd.prog 6 #[.slice A n c] w (Drawn w fun v => ∃ s : ByteArray, v = .string s ∧ s.size ≤ 40) := by
  go_enter Tryd.func6, Tryd.ntmps6
  go_wp2_with fail
  refine (l1New_any hr hm HL).mono ?_
  rintro e w1 ⟨g, rfl, hc1, hb1, hg⟩
  go_wp2_with fail
  refine (l1Text_any 40 (by decide) hc1).mono ?_
  rintro e w2 ⟨⟨s, hs, rfl⟩, hc2, hg2⟩
  replace hb1 := below_cur hb1 hg2 hg
  go_wp2
  go_ret
  exact ⟨_, rfl, ⟨s, rfl, hs⟩, hb1⟩
theorem drawEncodeFixed {A : Option Addr} {c n : Nat} {w : World} {l : List Int} (hr : Rd w w.heap.size A (cby l)) (hm : n ≤ 1048576) (HL : Hid (l.length = n)) :
    Calls Tryd.prog 9 #[.slice A n c] w (Drawn w fun v => ∃ x y : Int, v = .tuple #[.int .i64 x, .int .i64 y] ∧ In64 x ∧ -1 ≤ y ∧ y ≤ 8) := by
  go_enter Tryd.func9, Tryd.ntmps9
  go_wp2_with fail
  refine (l1New_any hr hm HL).mono ?_
  rintro e w1 ⟨g, rfl, hc1, hb1, hg⟩
  go_wp2_with fail
  refine (l1Num_any hc1).mono ?_
  rintro e w2 ⟨⟨x, hx, rfl⟩, hc2, hg2⟩
  replace hb1 := below_cur hb1 hg2 hg
  have HX := Lib.hid hx
  clear hx hc1 hg2
  go_wp2_with fail
  refine (l1Below_any 10 (by decide) (by decide) hc2).mono ?_
  rintro e w3 ⟨⟨y, ⟨hy0, hy1⟩, rfl⟩, hc3, hg3⟩
  replace hb1 := below_cur hb1 hg3 hg
  go_wp2
  go_ret2
  exact ⟨_, rfl, ⟨x, _, rfl, HX.out, by omega, by omega⟩, hb1⟩
end Go.Proofs.YthhdjajjckcikaaDoor
