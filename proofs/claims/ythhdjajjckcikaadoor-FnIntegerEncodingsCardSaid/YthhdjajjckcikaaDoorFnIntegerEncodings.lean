/- The law FnIntegerEncodings of the given program: for every input it returns true and leaves what it was handed as it was; the library's listed variables as the program's text lays them (the card ties them). No conditions beside the statement's own. -/
import Derived.Test.YthhdjajjckcikaaDoorNI
import Derived.Test.YthhdjajjckcikaaDoorCodeOpenN
import Derived.Test.YthhdjajjckcikaaDoorCards
import Derived.Test.YthhdjajjckcikaaDoorTie
import Derived.ShutString
import Derived.ChangeOld
import Derived.ChangeSame
import Derived.ChangeVars
import Derived.Below
import Derived.JoinedOf
import Derived.LaidLaws
import Derived.LaidHandle
import Derived.MakeChecks
import Derived.Lay
import Derived.SevenTiedAt
import Derived.Lib.LaidTab
import Derived.Stop.LaidErr
import Derived.Stop.Joined
namespace Go.Proofs.YthhdjajjckcikaaDoor.fnIntegerEncodings
open Go.ChangeShapes Go.WideShapes Go.ChangeAt Go.RowKit
set_option linter.unusedVariables false
theorem own : ownKnob Tryd.prog.godebug = none := by kernel_rfl
theorem laidOut : laidOutB Tryd.prog = true := by kernel_rfl
noncomputable def laidWorld (os : Os) : World := World.laidAll Tryd.prog os Rows.fnIntegerEncodingsRow.laid
theorem plainLaid (w : World) : laidMetH Tryd.prog Rows.fnIntegerEncodingsRow.laid w = laidMet Tryd.prog Rows.fnIntegerEncodingsRow.laid w := MakeChecks.laidMetH_plain _ _ _ (by kernel_rfl)
theorem laidWorld_met (os : Os) (args : Array Value) : laidMetH Tryd.prog Rows.fnIntegerEncodingsRow.laid ((laidWorld os).forCall (fun _ _ => 0) ⟨#[], args, []⟩).memory := by
  rw [plainLaid]
  exact laidMet_laidAll args (by kernel_rfl) (by kernel_rfl)
theorem tab_of {W : World} (h : laidMetH Tryd.prog Rows.fnIntegerEncodingsRow.laid W) : Tab W := by
  rw [plainLaid] at h
  exact Lib.tabIs_of_head (k := .u64) (zs := Lib.pow10Tab) (show Tryd.prog.globalNamed "internal/strconv.uint64pow10" = some 2 by kernel_rfl) (show (Tryd.prog.globals[(2 : Nat)]?).map (·.type) = some 74 by kernel_rfl) Tryd.underlying74 Tryd.underlying62 (by kernel_rfl) (by kernel_rfl) (laidMet.tail (laidMet.tail h))
theorem star : "*" ++ "errors.errorString" = "*errors.errorString" := by decide
theorem rowErr (u : TypeId) (h : Tryd.prog.typeName? 3 u = some "*errors.errorString") : u = 82 :=
  typeName_ptr_named (nm := "errors.errorString") (by rw [star]; kernel_rfl) (by kernel_rfl) (by decide) u (by rw [star]; exact h)
theorem cellsErr : Tryd.prog.cellsOf 84 = 1 := by kernel_rfl
theorem cellsStr : Tryd.prog.cellsOf 9 = 1 := by kernel_rfl
theorem errs_of {W : World} (h : laidMetH Tryd.prog Rows.fnIntegerEncodingsRow.laid W) : Errs W := by
  rw [plainLaid] at h
  obtain ⟨a0, s0, h0, -, -, -⟩ := laid_sentinel ((laidMet.tail (laidMet.tail (laidMet.tail (laidMet.tail h))))) (show Tryd.prog.globalNamed "strconv.ErrSyntax" = some 0 by kernel_rfl) (show (Tryd.prog.globals[(0 : Nat)]?).map (·.type) = some 46 by kernel_rfl) Tryd.underlying46 rowErr Tryd.underlying82 Tryd.underlying84 rfl rfl Tryd.underlying9 cellsErr cellsStr
  obtain ⟨a1, s1, h1, -, -, -⟩ := laid_sentinel ((laidMet.tail (laidMet.tail (laidMet.tail h)))) (show Tryd.prog.globalNamed "strconv.ErrRange" = some 1 by kernel_rfl) (show (Tryd.prog.globals[(1 : Nat)]?).map (·.type) = some 46 by kernel_rfl) Tryd.underlying46 rowErr Tryd.underlying82 Tryd.underlying84 rfl rfl Tryd.underlying9 cellsErr cellsStr
  exact ⟨⟨_, _, h0⟩, ⟨_, _, h1⟩⟩
set_option maxRecDepth 100000 in
theorem lifted (os : Os) (started : os.Started) (H : Type) (enc : TypeId × Value → H) :
    ReturnsInHanded {} Tryd.checked os 3 .any (fun w args => (Rows.fnIntegerEncodingsSpec.pre enc Tryd.prog Tryd.f3 Rows.fnIntegerEncodingsRow.domain false w args ∧ laidMetH Tryd.prog Rows.fnIntegerEncodingsRow.laid w) ∧ sizedMet enc Tryd.prog Tryd.f3 (OpenSpec.ofChange Rows.fnIntegerEncodingsSpec) false w args)
      (Rows.fnIntegerEncodingsSpec.post enc Tryd.prog Tryd.f3 false true false false) := by
  refine returnsInHanded_of_change_and (C := Tryd.checked) (X := fun w _ => laidMetH Tryd.prog Rows.fnIntegerEncodingsRow.laid w) (fun _ _ _ hh h => h.of_heap hh) own started (by kernel_rfl) Tryd.func3
    (ChangeSpec.witness_at (enc := enc) (C := Tryd.checked) (os := os) (X := fun w _ => laidMetH Tryd.prog Rows.fnIntegerEncodingsRow.laid w) false (laidWorld os) #[.slice none 0 0] 8 (World.laidAll_os _ _ _) (by kernel_rfl) (by kernel_rfl) (by kernel_rfl) (by kernel_rfl) (by kernel_rfl) (laidWorld_met os _)) ?_
  intro W base args ds gs before hval0 hW hcnd _ hL _
  have hval : ∀ (j : Nat) t v, Tryd.f3.params[j]? = some t → args[j]? = some v → Value.okWide Tryd.prog W .any base t v := hval0
  have hW' := hW
  obtain ⟨p, q, hA0, hV, rfl, hfz, hnd⟩ := hW
  have hA : DataW.TrodAll enc Tryd.prog W 0 (fun _ => true) true Tryd.f3.params.toList args.toList ds p := hA0
  rw [Tryd.params3] at hA hval
  obtain ⟨v0, vs0, d0, ds0, p0, q0, hargs, rfl, rfl, h0, r0⟩ := trodAll_cons hA
  obtain ⟨rfl, rfl, rfl⟩ := trodAll_nil r0
  obtain rfl : args = #[v0] := by cases args; simp_all
  obtain ⟨rfl, rfl⟩ := trodVars_none hV
  have k0 := h0
  have lt0 : ∀ x ∈ p0, x.block < W.heap.size := by obtain ⟨m, hm⟩ := k0; exact DataW.trod_lt m _ _ _ hm
  obtain ⟨A0, c0, n0, l0, rfl, hr0, hm0, HL0⟩ := open_code (hval 0 22 v0 rfl rfl) h0
  have ht := tab_of hL
  have he := errs_of hL
  clear hA0 hval0
  refine (walk_FnIntegerEncodings W ht he hr0 hm0 HL0).mono fun e W' ⟨he, bel⟩ => ?_
  subst he
  exact ⟨_, rfl, _, _, _, [], _, [], hW', trodAll_mk1 (shut_bool Tryd.underlying4 _), (trodAll_cons_mk (Below.trod laidOut (by kernel_rfl) (of_decide_eq_true (by kernel_rfl)) k0 bel lt0) trodAll_mk0), rfl, bel.frame _, fun h => by cases h⟩
theorem over : Rows.fnIntegerEncodingsRow.holds Tryd.pinned (OpenSpec.ofChange Rows.fnIntegerEncodingsSpec) :=
  OpenClaim.holds_of_wide 3 Tryd.f3 rfl rfl rfl rfl rfl rfl rfl ⟨rfl, rfl, rfl, rfl, rfl⟩ rfl rfl rfl rfl rfl (by kernel_rfl) Tryd.func3 (by kernel_rfl)
    (of_decide_eq_true (by kernel_rfl)) (by unfold Func.isWrapper; first | (rw [if_pos (by decide +kernel)]; kernel_rfl) | (rw [if_neg (by decide +kernel)]; exact ⟨rfl, rfl⟩))
    (fun os started H enc _ => lifted os started H enc)
theorem said : Rows.FnIntegerEncodingsSaid := over
/-- THE STATEMENT: the tied card. -/
theorem proved : Rows.FnIntegerEncodingsCardSaid :=
  Claim7.holds_tied_plain_at .later [] [.data, .data, .data, .sentinel, .sentinel] true (true, "df01386a6805696b9448454b786efbf7e55bca9ffb8852865ea5120a4e328a7d") true
    said (fun _ h => by cases h) (by kernel_rfl) (fun _ h => by cases h) fnIntegerEncodings_row_tie rfl ⟨rfl, rfl⟩ (by kernel_rfl) rfl
    (fun f fn hf hfn => by
      obtain rfl : f = 3 := Option.some.inj ((show Tryd.prog.funcNamed "loop.example/g01633/laws.FnIntegerEncodings" = some 3 by kernel_rfl).symm.trans hf) |>.symm
      obtain rfl : fn = Tryd.f3 := (Option.some.inj (Tryd.func3.symm.trans hfn)).symm
      exact ⟨by kernel_rfl, fun j t ht => by
        rw [Tryd.params3] at ht
        have h3 : t = 22 := by
          rcases j with _ | j
          · simpa using ht.symm
          · simp at ht
        subst h3
        exact (show Tryd.prog.wantsStandIn 22 = false by kernel_rfl)⟩)
    (by kernel_rfl)
#print axioms proved
end Go.Proofs.YthhdjajjckcikaaDoor.fnIntegerEncodings

