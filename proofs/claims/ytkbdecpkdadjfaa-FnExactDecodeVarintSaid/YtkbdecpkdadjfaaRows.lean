/-
  No cell of these rows narrows 'for every input' (looked for: loops, veiled, ifaces, maps, wideKeys, modest, calm, conditions, laid).
  DERIVED. THE GIVEN ROWS OF THIS SEAT. 6 by the template 'for every input the law returns true; each argument reads behind the call as it read before'; 0 by the template 'total and deterministic' (their statements: YtkbdecpkdadjfaaTotals.lean).
  GIVEN WITH THE SEED: the statements are not yours to turn. If you find one false, say at which input.
  Laid BY PROGRAM, IN A SANDBOX (cutbox-rows.mjs): the forced cells as the released guide's own fill.sh prints them over the translation a6def30f20be9128… (all of the seat's roots in one cut). By AI agents, Wed Nov 11 2026. No macro, syntax, notation, axiom, sorry.
-/
import Derived.Test.YtkbdecpkdadjfaaChecked
import GoSem.Claim
import GoSem.ClaimJoined
import GoSem.ClaimMapViews
import Derived.JoinedTies
import Derived.KernelRfl
namespace Go.Proofs.Ytkbdecpkdadjfaa
/- THE CELL 'sum', in the pinned program and in every row, IS THE sha256 OF THE DUMP (.gsa) THAT YtkbdecpkdadjfaaProg.lean LOADS. Nothing in Lean hashes anything: it is a label: what it is worth is what the hold of that sum in a sandbox is worth. -/
noncomputable def Try.pinned : Pinned := { name := "ytkbdecpkdadjfaa", sum := "a6def30f20be91281682e7bca33c45b4e67cf55377968c96b724101dadf3cfbf", checked := Try.checked }
namespace Rows
def none {H : Type} : Left H := { results := [], args := [] }

/-- 'laws.FnExactEncodeHex': WHATEVER THE INPUT: true; the input reads as it did. -/
def fnExactEncodeHexSpec : ChangeSpec := { name := "fnExactEncodeHex", fn := fun _ => fun
  | [d] => { results := [.lit (.bool true)], args := [d] }
  | _ => none }
def fnExactEncodeHexRow : OpenClaim := { program := "ytkbdecpkdadjfaa", sum := "a6def30f20be91281682e7bca33c45b4e67cf55377968c96b724101dadf3cfbf", func := "loop.example/g01633/laws.FnExactEncodeHex", spec := "fnExactEncodeHex", apart := false }
def FnExactEncodeHexSaid : Prop := fnExactEncodeHexRow.holds Try.pinned (OpenSpec.ofChange fnExactEncodeHexSpec)

/-- ITS FALSE NEIGHBOUR: 'it returns false'. Refute it at one input. -/
def fnExactEncodeHexWrong : ChangeSpec := { name := "fnExactEncodeHex", fn := fun _ => fun
  | [d] => { results := [.lit (.bool false)], args := [d] }
  | _ => none }
def FnExactEncodeHexWrongFalsely : Prop := fnExactEncodeHexRow.holds Try.pinned (OpenSpec.ofChange fnExactEncodeHexWrong)

/-- 'laws.FnExactDecodeHex': WHATEVER THE INPUT: true; the input reads as it did. -/
def fnExactDecodeHexSpec : ChangeSpec := { name := "fnExactDecodeHex", fn := fun _ => fun
  | [d] => { results := [.lit (.bool true)], args := [d] }
  | _ => none }
def fnExactDecodeHexRow : OpenClaim := { program := "ytkbdecpkdadjfaa", sum := "a6def30f20be91281682e7bca33c45b4e67cf55377968c96b724101dadf3cfbf", func := "loop.example/g01633/laws.FnExactDecodeHex", spec := "fnExactDecodeHex", apart := false }
def FnExactDecodeHexSaid : Prop := fnExactDecodeHexRow.holds Try.pinned (OpenSpec.ofChange fnExactDecodeHexSpec)

/-- ITS FALSE NEIGHBOUR: 'it returns false'. Refute it at one input. -/
def fnExactDecodeHexWrong : ChangeSpec := { name := "fnExactDecodeHex", fn := fun _ => fun
  | [d] => { results := [.lit (.bool false)], args := [d] }
  | _ => none }
def FnExactDecodeHexWrongFalsely : Prop := fnExactDecodeHexRow.holds Try.pinned (OpenSpec.ofChange fnExactDecodeHexWrong)

/-- 'laws.FnExactDecodeFixed': WHATEVER THE INPUT: true; the input reads as it did. -/
def fnExactDecodeFixedSpec : ChangeSpec := { name := "fnExactDecodeFixed", fn := fun _ => fun
  | [d1, d2] => { results := [.lit (.bool true)], args := [d1, d2] }
  | _ => none }
def fnExactDecodeFixedRow : OpenClaim := { program := "ytkbdecpkdadjfaa", sum := "a6def30f20be91281682e7bca33c45b4e67cf55377968c96b724101dadf3cfbf", func := "loop.example/g01633/laws.FnExactDecodeFixed", spec := "fnExactDecodeFixed", apart := false }
def FnExactDecodeFixedSaid : Prop := fnExactDecodeFixedRow.holds Try.pinned (OpenSpec.ofChange fnExactDecodeFixedSpec)

/-- ITS FALSE NEIGHBOUR: 'it returns false'. Refute it at one input. -/
def fnExactDecodeFixedWrong : ChangeSpec := { name := "fnExactDecodeFixed", fn := fun _ => fun
  | [d1, d2] => { results := [.lit (.bool false)], args := [d1, d2] }
  | _ => none }
def FnExactDecodeFixedWrongFalsely : Prop := fnExactDecodeFixedRow.holds Try.pinned (OpenSpec.ofChange fnExactDecodeFixedWrong)

/-- 'laws.FnExactEncodeFixed': WHATEVER THE INPUT: true; the input reads as it did. -/
def fnExactEncodeFixedSpec : ChangeSpec := { name := "fnExactEncodeFixed", fn := fun _ => fun
  | [d1, d2] => { results := [.lit (.bool true)], args := [d1, d2] }
  | _ => none }
def fnExactEncodeFixedRow : OpenClaim := { program := "ytkbdecpkdadjfaa", sum := "a6def30f20be91281682e7bca33c45b4e67cf55377968c96b724101dadf3cfbf", func := "loop.example/g01633/laws.FnExactEncodeFixed", spec := "fnExactEncodeFixed", apart := false }
def FnExactEncodeFixedSaid : Prop := fnExactEncodeFixedRow.holds Try.pinned (OpenSpec.ofChange fnExactEncodeFixedSpec)

/-- ITS FALSE NEIGHBOUR: 'it returns false'. Refute it at one input. -/
def fnExactEncodeFixedWrong : ChangeSpec := { name := "fnExactEncodeFixed", fn := fun _ => fun
  | [d1, d2] => { results := [.lit (.bool false)], args := [d1, d2] }
  | _ => none }
def FnExactEncodeFixedWrongFalsely : Prop := fnExactEncodeFixedRow.holds Try.pinned (OpenSpec.ofChange fnExactEncodeFixedWrong)

/-- 'laws.FnExactEncodeVarint': WHATEVER THE INPUT: true; the input reads as it did. -/
def fnExactEncodeVarintSpec : ChangeSpec := { name := "fnExactEncodeVarint", fn := fun _ => fun
  | [d] => { results := [.lit (.bool true)], args := [d] }
  | _ => none }
def fnExactEncodeVarintRow : OpenClaim := { program := "ytkbdecpkdadjfaa", sum := "a6def30f20be91281682e7bca33c45b4e67cf55377968c96b724101dadf3cfbf", func := "loop.example/g01633/laws.FnExactEncodeVarint", spec := "fnExactEncodeVarint", apart := false }
def FnExactEncodeVarintSaid : Prop := fnExactEncodeVarintRow.holds Try.pinned (OpenSpec.ofChange fnExactEncodeVarintSpec)

/-- ITS FALSE NEIGHBOUR: 'it returns false'. Refute it at one input. -/
def fnExactEncodeVarintWrong : ChangeSpec := { name := "fnExactEncodeVarint", fn := fun _ => fun
  | [d] => { results := [.lit (.bool false)], args := [d] }
  | _ => none }
def FnExactEncodeVarintWrongFalsely : Prop := fnExactEncodeVarintRow.holds Try.pinned (OpenSpec.ofChange fnExactEncodeVarintWrong)

/-- 'laws.FnExactDecodeVarint': WHATEVER THE INPUT: true; the input reads as it did. -/
def fnExactDecodeVarintSpec : ChangeSpec := { name := "fnExactDecodeVarint", fn := fun _ => fun
  | [d] => { results := [.lit (.bool true)], args := [d] }
  | _ => none }
def fnExactDecodeVarintRow : OpenClaim := { program := "ytkbdecpkdadjfaa", sum := "a6def30f20be91281682e7bca33c45b4e67cf55377968c96b724101dadf3cfbf", func := "loop.example/g01633/laws.FnExactDecodeVarint", spec := "fnExactDecodeVarint", apart := false }
def FnExactDecodeVarintSaid : Prop := fnExactDecodeVarintRow.holds Try.pinned (OpenSpec.ofChange fnExactDecodeVarintSpec)

/-- ITS FALSE NEIGHBOUR: 'it returns false'. Refute it at one input. -/
def fnExactDecodeVarintWrong : ChangeSpec := { name := "fnExactDecodeVarint", fn := fun _ => fun
  | [d] => { results := [.lit (.bool false)], args := [d] }
  | _ => none }
def FnExactDecodeVarintWrongFalsely : Prop := fnExactDecodeVarintRow.holds Try.pinned (OpenSpec.ofChange fnExactDecodeVarintWrong)

/- THE SECOND FORM. 'bulk': how many values and letters a reading holds, each counted each time it is reached (what is shared counts as often as it is met; a slice's spare places count too). A statement '..UptoSaid' is the law's where the arguments, and the package variables that the reading takes, are together of bulk at most 1048576: NARROWER than '..Said'. Prove '..Said' where nothing that the law and all that it calls make is longer than what came in: it says more and counts as full. Else prove '..UptoSaid'. A law counts once. -/
mutual
def uptoBulk {H : Type} : DataW H → Nat
  | .lit (.string bytes) => bytes.length + 1
  | .lit _ => 1
  | .nil => 1
  | .ptr d => uptoBulk d + 1
  | .slice elems spare => uptoBulkAll elems + uptoBulkAll spare + 1
  | .agg parts => uptoBulkAll parts + 1
  | .iface _ d => uptoBulk d + 1
  | .map entries => uptoBulkEntries entries + 1
  | .held _ => 1
def uptoBulkAll {H : Type} : List (DataW H) → Nat
  | [] => 0
  | d :: r => uptoBulk d + uptoBulkAll r
def uptoBulkEntries {H : Type} : List (Lit × DataW H) → Nat
  | [] => 0
  | x :: r => uptoBulkEntry x + uptoBulkEntries r
def uptoBulkEntry {H : Type} : Lit × DataW H → Nat
  | (.string bytes, d) => bytes.length + uptoBulk d + 1
  | (_, d) => uptoBulk d + 1
 end
def uptoSmall : (H : Type) → List (DataW H) → Bool := fun _ ds => decide (uptoBulkAll ds ≤ 1048576)
def OpenSpec.upto (s : _root_.Go.ChangeSpec) : _root_.Go.OpenSpec := { _root_.Go.OpenSpec.ofChange s with cond := some uptoSmall }

/-- 'laws.FnExactEncodeHex', WHERE WHAT IT READS IS OF BULK AT MOST 1048576: true; the input reads as it did. -/
def fnExactEncodeHexUptoRow : OpenClaim := { program := "ytkbdecpkdadjfaa", sum := "a6def30f20be91281682e7bca33c45b4e67cf55377968c96b724101dadf3cfbf", func := "loop.example/g01633/laws.FnExactEncodeHex", spec := "fnExactEncodeHex", apart := false, narrowed := true }
def FnExactEncodeHexUptoSaid : Prop := fnExactEncodeHexUptoRow.holds Try.pinned (OpenSpec.upto fnExactEncodeHexSpec)

/-- 'laws.FnExactDecodeHex', WHERE WHAT IT READS IS OF BULK AT MOST 1048576: true; the input reads as it did. -/
def fnExactDecodeHexUptoRow : OpenClaim := { program := "ytkbdecpkdadjfaa", sum := "a6def30f20be91281682e7bca33c45b4e67cf55377968c96b724101dadf3cfbf", func := "loop.example/g01633/laws.FnExactDecodeHex", spec := "fnExactDecodeHex", apart := false, narrowed := true }
def FnExactDecodeHexUptoSaid : Prop := fnExactDecodeHexUptoRow.holds Try.pinned (OpenSpec.upto fnExactDecodeHexSpec)

/-- 'laws.FnExactDecodeFixed', WHERE WHAT IT READS IS OF BULK AT MOST 1048576: true; the input reads as it did. -/
def fnExactDecodeFixedUptoRow : OpenClaim := { program := "ytkbdecpkdadjfaa", sum := "a6def30f20be91281682e7bca33c45b4e67cf55377968c96b724101dadf3cfbf", func := "loop.example/g01633/laws.FnExactDecodeFixed", spec := "fnExactDecodeFixed", apart := false, narrowed := true }
def FnExactDecodeFixedUptoSaid : Prop := fnExactDecodeFixedUptoRow.holds Try.pinned (OpenSpec.upto fnExactDecodeFixedSpec)

/-- 'laws.FnExactEncodeFixed', WHERE WHAT IT READS IS OF BULK AT MOST 1048576: true; the input reads as it did. -/
def fnExactEncodeFixedUptoRow : OpenClaim := { program := "ytkbdecpkdadjfaa", sum := "a6def30f20be91281682e7bca33c45b4e67cf55377968c96b724101dadf3cfbf", func := "loop.example/g01633/laws.FnExactEncodeFixed", spec := "fnExactEncodeFixed", apart := false, narrowed := true }
def FnExactEncodeFixedUptoSaid : Prop := fnExactEncodeFixedUptoRow.holds Try.pinned (OpenSpec.upto fnExactEncodeFixedSpec)

/-- 'laws.FnExactEncodeVarint', WHERE WHAT IT READS IS OF BULK AT MOST 1048576: true; the input reads as it did. -/
def fnExactEncodeVarintUptoRow : OpenClaim := { program := "ytkbdecpkdadjfaa", sum := "a6def30f20be91281682e7bca33c45b4e67cf55377968c96b724101dadf3cfbf", func := "loop.example/g01633/laws.FnExactEncodeVarint", spec := "fnExactEncodeVarint", apart := false, narrowed := true }
def FnExactEncodeVarintUptoSaid : Prop := fnExactEncodeVarintUptoRow.holds Try.pinned (OpenSpec.upto fnExactEncodeVarintSpec)

/-- 'laws.FnExactDecodeVarint', WHERE WHAT IT READS IS OF BULK AT MOST 1048576: true; the input reads as it did. -/
def fnExactDecodeVarintUptoRow : OpenClaim := { program := "ytkbdecpkdadjfaa", sum := "a6def30f20be91281682e7bca33c45b4e67cf55377968c96b724101dadf3cfbf", func := "loop.example/g01633/laws.FnExactDecodeVarint", spec := "fnExactDecodeVarint", apart := false, narrowed := true }
def FnExactDecodeVarintUptoSaid : Prop := fnExactDecodeVarintUptoRow.holds Try.pinned (OpenSpec.upto fnExactDecodeVarintSpec)

end Rows
end Go.Proofs.Ytkbdecpkdadjfaa
