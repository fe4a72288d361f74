/- The walk of the law on ParseInt. -/
import Derived.Test.YtpjlmbpohklmcaaDoorN3
namespace Go.Proofs.YtpjlmbpohklmcaaDoor
open Go.ChangeShapes Go.WideShapes Go.ChangeAt Go.RowKit Go.Sort
set_option linter.unusedVariables false
set_option linter.unusedSimpArgs false
set_option maxRecDepth 20000 in
theorem walk_FnExactParseInt (s : ByteArray) (hw : s.size ≤ maxLen) (w : World) (ht : Tab w) (he : Errs w) : Calls Tryd.prog 4 #[.string s] w fun e w' => e = .returned (.bool true) ∧ Below w.heap.size w w' := by
  by_cases hl : 1048576 < s.size
  · have hd : decide ((1048576 : Int) < (s.size : Int)) = true := by simp; omega
    go_enter Tryd.func4, Tryd.ntmps4
    go_wp2
    go_ret
    exact ⟨rfl, Below.refl _ _⟩
  · have hd : decide ((1048576 : Int) < (s.size : Int)) = false := by simp; omega
    have hlt := ht.lt
    obtain ⟨v, hv⟩ : ∃ v, paV s.data.toList = v := ⟨_, rfl⟩
    obtain ⟨b, hb⟩ : ∃ b, okP s.data.toList = b := ⟨_, rfl⟩
    have h1 := sPar s (by omega) w
    have h2 := fun (W : World) (t : Tab W) (e : Errs W) => iPar s (by omega) W t e
    rw [hv, hb] at h1
    simp only [hv, hb] at h2
    clear hv hb
    go_enter Tryd.func4, Tryd.ntmps4
    go_wp2_with fail
    refine h1.mono ?_
    rintro e w1 ⟨rfl, hb1⟩
    clear h1
    go_wp2_with fail
    refine (h2 w1 (ht.below hb1 hlt) (he.below hb1 (by unfold Tab at ht; omega))).mono ?_
    rintro e w2 ⟨rfl, hb2⟩
    have h02 := below_next hb1 hb1.size hb2
    cases b
    · go_wp2
      go_ret
      exact ⟨rfl, h02⟩
    · go_wp2
      go_ret
      exact ⟨rfl, h02⟩
end Go.Proofs.YtpjlmbpohklmcaaDoor
