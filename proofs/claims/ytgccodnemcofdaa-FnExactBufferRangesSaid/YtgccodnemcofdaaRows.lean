/-
  No cell of these rows narrows 'for every input' (looked for: loops, veiled, ifaces, maps, wideKeys, modest, calm, conditions, laid).
  DERIVED. THE GIVEN ROWS OF THIS SEAT. 9 by the template 'for every input the law returns true; each argument reads behind the call as it read before'; 0 by the template 'total and deterministic' (their statements: YtgccodnemcofdaaTotals.lean).
  GIVEN WITH THE SEED: the statements are not yours to turn. If you find one false, say at which input.
  Laid BY PROGRAM, IN A SANDBOX (cutbox-rows.mjs): the forced cells as the released guide's own fill.sh prints them over the translation 0b6ccd63b988ca3c… (all of the seat's roots in one cut). By AI agents, Wed Nov 11 2026. No macro, syntax, notation, axiom, sorry.
-/
import Derived.Test.YtgccodnemcofdaaChecked
import GoSem.Claim
import GoSem.ClaimJoined
import GoSem.ClaimMapViews
import Derived.JoinedTies
import Derived.KernelRfl
namespace Go.Proofs.Ytgccodnemcofdaa
/- THE CELL 'sum', in the pinned program and in every row, IS THE sha256 OF THE DUMP (.gsa) THAT YtgccodnemcofdaaProg.lean LOADS. Nothing in Lean hashes anything: it is a label: what it is worth is what the hold of that sum in a sandbox is worth. -/
noncomputable def Try.pinned : Pinned := { name := "ytgccodnemcofdaa", sum := "0b6ccd63b988ca3cad771cf68a675870b78d0664fc8ebf25d9e40c67ebddc5fb", checked := Try.checked }
namespace Rows
def none {H : Type} : Left H := { results := [], args := [] }

/-- 'laws.FnExactByteAt': WHATEVER THE INPUT: true; the input reads as it did. -/
def fnExactByteAtSpec : ChangeSpec := { name := "fnExactByteAt", fn := fun _ => fun
  | [d1, d2] => { results := [.lit (.bool true)], args := [d1, d2] }
  | _ => none }
def fnExactByteAtRow : OpenClaim := { program := "ytgccodnemcofdaa", sum := "0b6ccd63b988ca3cad771cf68a675870b78d0664fc8ebf25d9e40c67ebddc5fb", func := "loop.example/g01633/laws.FnExactByteAt", spec := "fnExactByteAt", apart := false }
def FnExactByteAtSaid : Prop := fnExactByteAtRow.holds Try.pinned (OpenSpec.ofChange fnExactByteAtSpec)

/-- ITS FALSE NEIGHBOUR: 'it returns false'. Refute it at one input. -/
def fnExactByteAtWrong : ChangeSpec := { name := "fnExactByteAt", fn := fun _ => fun
  | [d1, d2] => { results := [.lit (.bool false)], args := [d1, d2] }
  | _ => none }
def FnExactByteAtWrongFalsely : Prop := fnExactByteAtRow.holds Try.pinned (OpenSpec.ofChange fnExactByteAtWrong)

/-- 'laws.FnExactEqualBuffers': WHATEVER THE INPUT: true; the input reads as it did. -/
def fnExactEqualBuffersSpec : ChangeSpec := { name := "fnExactEqualBuffers", fn := fun _ => fun
  | [d1, d2] => { results := [.lit (.bool true)], args := [d1, d2] }
  | _ => none }
def fnExactEqualBuffersRow : OpenClaim := { program := "ytgccodnemcofdaa", sum := "0b6ccd63b988ca3cad771cf68a675870b78d0664fc8ebf25d9e40c67ebddc5fb", func := "loop.example/g01633/laws.FnExactEqualBuffers", spec := "fnExactEqualBuffers", apart := false }
def FnExactEqualBuffersSaid : Prop := fnExactEqualBuffersRow.holds Try.pinned (OpenSpec.ofChange fnExactEqualBuffersSpec)

/-- ITS FALSE NEIGHBOUR: 'it returns false'. Refute it at one input. -/
def fnExactEqualBuffersWrong : ChangeSpec := { name := "fnExactEqualBuffers", fn := fun _ => fun
  | [d1, d2] => { results := [.lit (.bool false)], args := [d1, d2] }
  | _ => none }
def FnExactEqualBuffersWrongFalsely : Prop := fnExactEqualBuffersRow.holds Try.pinned (OpenSpec.ofChange fnExactEqualBuffersWrong)

/-- 'laws.FnExactIsBuffer': WHATEVER THE INPUT: true; the input reads as it did. -/
def fnExactIsBufferSpec : ChangeSpec := { name := "fnExactIsBuffer", fn := fun _ => fun
  | [d] => { results := [.lit (.bool true)], args := [d] }
  | _ => none }
def fnExactIsBufferRow : OpenClaim := { program := "ytgccodnemcofdaa", sum := "0b6ccd63b988ca3cad771cf68a675870b78d0664fc8ebf25d9e40c67ebddc5fb", func := "loop.example/g01633/laws.FnExactIsBuffer", spec := "fnExactIsBuffer", apart := false }
def FnExactIsBufferSaid : Prop := fnExactIsBufferRow.holds Try.pinned (OpenSpec.ofChange fnExactIsBufferSpec)

/-- ITS FALSE NEIGHBOUR: 'it returns false'. Refute it at one input. -/
def fnExactIsBufferWrong : ChangeSpec := { name := "fnExactIsBuffer", fn := fun _ => fun
  | [d] => { results := [.lit (.bool false)], args := [d] }
  | _ => none }
def FnExactIsBufferWrongFalsely : Prop := fnExactIsBufferRow.holds Try.pinned (OpenSpec.ofChange fnExactIsBufferWrong)

/-- 'laws.FnExactReadyBytes': WHATEVER THE INPUT: true; the input reads as it did. -/
def fnExactReadyBytesSpec : ChangeSpec := { name := "fnExactReadyBytes", fn := fun _ => fun
  | [d] => { results := [.lit (.bool true)], args := [d] }
  | _ => none }
def fnExactReadyBytesRow : OpenClaim := { program := "ytgccodnemcofdaa", sum := "0b6ccd63b988ca3cad771cf68a675870b78d0664fc8ebf25d9e40c67ebddc5fb", func := "loop.example/g01633/laws.FnExactReadyBytes", spec := "fnExactReadyBytes", apart := false }
def FnExactReadyBytesSaid : Prop := fnExactReadyBytesRow.holds Try.pinned (OpenSpec.ofChange fnExactReadyBytesSpec)

/-- ITS FALSE NEIGHBOUR: 'it returns false'. Refute it at one input. -/
def fnExactReadyBytesWrong : ChangeSpec := { name := "fnExactReadyBytes", fn := fun _ => fun
  | [d] => { results := [.lit (.bool false)], args := [d] }
  | _ => none }
def FnExactReadyBytesWrongFalsely : Prop := fnExactReadyBytesRow.holds Try.pinned (OpenSpec.ofChange fnExactReadyBytesWrong)

/-- 'laws.FnExactEndOf': WHATEVER THE INPUT: true; the input reads as it did. -/
def fnExactEndOfSpec : ChangeSpec := { name := "fnExactEndOf", fn := fun _ => fun
  | [d] => { results := [.lit (.bool true)], args := [d] }
  | _ => none }
def fnExactEndOfRow : OpenClaim := { program := "ytgccodnemcofdaa", sum := "0b6ccd63b988ca3cad771cf68a675870b78d0664fc8ebf25d9e40c67ebddc5fb", func := "loop.example/g01633/laws.FnExactEndOf", spec := "fnExactEndOf", apart := false }
def FnExactEndOfSaid : Prop := fnExactEndOfRow.holds Try.pinned (OpenSpec.ofChange fnExactEndOfSpec)

/-- ITS FALSE NEIGHBOUR: 'it returns false'. Refute it at one input. -/
def fnExactEndOfWrong : ChangeSpec := { name := "fnExactEndOf", fn := fun _ => fun
  | [d] => { results := [.lit (.bool false)], args := [d] }
  | _ => none }
def FnExactEndOfWrongFalsely : Prop := fnExactEndOfRow.holds Try.pinned (OpenSpec.ofChange fnExactEndOfWrong)

/-- 'laws.FnExactBufferRanges': WHATEVER THE INPUT: true; the input reads as it did. -/
def fnExactBufferRangesSpec : ChangeSpec := { name := "fnExactBufferRanges", fn := fun _ => fun
  | [d] => { results := [.lit (.bool true)], args := [d] }
  | _ => none }
def fnExactBufferRangesRow : OpenClaim := { program := "ytgccodnemcofdaa", sum := "0b6ccd63b988ca3cad771cf68a675870b78d0664fc8ebf25d9e40c67ebddc5fb", func := "loop.example/g01633/laws.FnExactBufferRanges", spec := "fnExactBufferRanges", apart := false }
def FnExactBufferRangesSaid : Prop := fnExactBufferRangesRow.holds Try.pinned (OpenSpec.ofChange fnExactBufferRangesSpec)

/-- ITS FALSE NEIGHBOUR: 'it returns false'. Refute it at one input. -/
def fnExactBufferRangesWrong : ChangeSpec := { name := "fnExactBufferRanges", fn := fun _ => fun
  | [d] => { results := [.lit (.bool false)], args := [d] }
  | _ => none }
def FnExactBufferRangesWrongFalsely : Prop := fnExactBufferRangesRow.holds Try.pinned (OpenSpec.ofChange fnExactBufferRangesWrong)

/-- 'laws.FnExactTakeBytes': WHATEVER THE INPUT: true; the input reads as it did. -/
def fnExactTakeBytesSpec : ChangeSpec := { name := "fnExactTakeBytes", fn := fun _ => fun
  | [d1, d2] => { results := [.lit (.bool true)], args := [d1, d2] }
  | _ => none }
def fnExactTakeBytesRow : OpenClaim := { program := "ytgccodnemcofdaa", sum := "0b6ccd63b988ca3cad771cf68a675870b78d0664fc8ebf25d9e40c67ebddc5fb", func := "loop.example/g01633/laws.FnExactTakeBytes", spec := "fnExactTakeBytes", apart := false }
def FnExactTakeBytesSaid : Prop := fnExactTakeBytesRow.holds Try.pinned (OpenSpec.ofChange fnExactTakeBytesSpec)

/-- ITS FALSE NEIGHBOUR: 'it returns false'. Refute it at one input. -/
def fnExactTakeBytesWrong : ChangeSpec := { name := "fnExactTakeBytes", fn := fun _ => fun
  | [d1, d2] => { results := [.lit (.bool false)], args := [d1, d2] }
  | _ => none }
def FnExactTakeBytesWrongFalsely : Prop := fnExactTakeBytesRow.holds Try.pinned (OpenSpec.ofChange fnExactTakeBytesWrong)

/-- 'laws.FnExactInsertData': WHATEVER THE INPUT: true; the input reads as it did. -/
def fnExactInsertDataSpec : ChangeSpec := { name := "fnExactInsertData", fn := fun _ => fun
  | [d1, d2, d3] => { results := [.lit (.bool true)], args := [d1, d2, d3] }
  | _ => none }
def fnExactInsertDataRow : OpenClaim := { program := "ytgccodnemcofdaa", sum := "0b6ccd63b988ca3cad771cf68a675870b78d0664fc8ebf25d9e40c67ebddc5fb", func := "loop.example/g01633/laws.FnExactInsertData", spec := "fnExactInsertData", unfollowed := true, recurses := true, apart := false }
def FnExactInsertDataSaid : Prop := fnExactInsertDataRow.holds Try.pinned (OpenSpec.ofChange fnExactInsertDataSpec)

/-- ITS FALSE NEIGHBOUR: 'it returns false'. Refute it at one input. -/
def fnExactInsertDataWrong : ChangeSpec := { name := "fnExactInsertData", fn := fun _ => fun
  | [d1, d2, d3] => { results := [.lit (.bool false)], args := [d1, d2, d3] }
  | _ => none }
def FnExactInsertDataWrongFalsely : Prop := fnExactInsertDataRow.holds Try.pinned (OpenSpec.ofChange fnExactInsertDataWrong)

/-- 'laws.FnTakes': WHATEVER THE INPUT: true; the input reads as it did. -/
def fnTakesSpec : ChangeSpec := { name := "fnTakes", fn := fun _ => fun
  | [d] => { results := [.lit (.bool true)], args := [d] }
  | _ => none }
def fnTakesRow : OpenClaim := { program := "ytgccodnemcofdaa", sum := "0b6ccd63b988ca3cad771cf68a675870b78d0664fc8ebf25d9e40c67ebddc5fb", func := "loop.example/g01633/laws.FnTakes", spec := "fnTakes", apart := false }
def FnTakesSaid : Prop := fnTakesRow.holds Try.pinned (OpenSpec.ofChange fnTakesSpec)

/-- ITS FALSE NEIGHBOUR: 'it returns false'. Refute it at one input. -/
def fnTakesWrong : ChangeSpec := { name := "fnTakes", fn := fun _ => fun
  | [d] => { results := [.lit (.bool false)], args := [d] }
  | _ => none }
def FnTakesWrongFalsely : Prop := fnTakesRow.holds Try.pinned (OpenSpec.ofChange fnTakesWrong)

/- THE SECOND FORM. 'bulk': how many values and letters a reading holds, each counted each time it is reached (what is shared counts as often as it is met; a slice's spare places count too). A statement '..UptoSaid' is the law's where the arguments, and the package variables that the reading takes, are together of bulk at most 1048576: NARROWER than '..Said'. Prove '..Said' where nothing that the law and all that it calls make is longer than what came in: it says more and counts as full. Else prove '..UptoSaid'. A law counts once. -/
mutual
def uptoBulk {H : Type} : DataW H → Nat
  | .lit (.string bytes) => bytes.length + 1
  | .lit _ => 1
  | .nil => 1
  | .ptr d => uptoBulk d + 1
  | .slice elems spare => uptoBulkAll elems + uptoBulkAll spare + 1
  | .agg parts => uptoBulkAll parts + 1
  | .iface _ d => uptoBulk d + 1
  | .map entries => uptoBulkEntries entries + 1
  | .held _ => 1
def uptoBulkAll {H : Type} : List (DataW H) → Nat
  | [] => 0
  | d :: r => uptoBulk d + uptoBulkAll r
def uptoBulkEntries {H : Type} : List (Lit × DataW H) → Nat
  | [] => 0
  | x :: r => uptoBulkEntry x + uptoBulkEntries r
def uptoBulkEntry {H : Type} : Lit × DataW H → Nat
  | (.string bytes, d) => bytes.length + uptoBulk d + 1
  | (_, d) => uptoBulk d + 1
 end
def uptoSmall : (H : Type) → List (DataW H) → Bool := fun _ ds => decide (uptoBulkAll ds ≤ 1048576)
def OpenSpec.upto (s : _root_.Go.ChangeSpec) : _root_.Go.OpenSpec := { _root_.Go.OpenSpec.ofChange s with cond := some uptoSmall }

/-- 'laws.FnExactByteAt', WHERE WHAT IT READS IS OF BULK AT MOST 1048576: true; the input reads as it did. -/
def fnExactByteAtUptoRow : OpenClaim := { program := "ytgccodnemcofdaa", sum := "0b6ccd63b988ca3cad771cf68a675870b78d0664fc8ebf25d9e40c67ebddc5fb", func := "loop.example/g01633/laws.FnExactByteAt", spec := "fnExactByteAt", apart := false, narrowed := true }
def FnExactByteAtUptoSaid : Prop := fnExactByteAtUptoRow.holds Try.pinned (OpenSpec.upto fnExactByteAtSpec)

/-- 'laws.FnExactEqualBuffers', WHERE WHAT IT READS IS OF BULK AT MOST 1048576: true; the input reads as it did. -/
def fnExactEqualBuffersUptoRow : OpenClaim := { program := "ytgccodnemcofdaa", sum := "0b6ccd63b988ca3cad771cf68a675870b78d0664fc8ebf25d9e40c67ebddc5fb", func := "loop.example/g01633/laws.FnExactEqualBuffers", spec := "fnExactEqualBuffers", apart := false, narrowed := true }
def FnExactEqualBuffersUptoSaid : Prop := fnExactEqualBuffersUptoRow.holds Try.pinned (OpenSpec.upto fnExactEqualBuffersSpec)

/-- 'laws.FnExactIsBuffer', WHERE WHAT IT READS IS OF BULK AT MOST 1048576: true; the input reads as it did. -/
def fnExactIsBufferUptoRow : OpenClaim := { program := "ytgccodnemcofdaa", sum := "0b6ccd63b988ca3cad771cf68a675870b78d0664fc8ebf25d9e40c67ebddc5fb", func := "loop.example/g01633/laws.FnExactIsBuffer", spec := "fnExactIsBuffer", apart := false, narrowed := true }
def FnExactIsBufferUptoSaid : Prop := fnExactIsBufferUptoRow.holds Try.pinned (OpenSpec.upto fnExactIsBufferSpec)

/-- 'laws.FnExactReadyBytes', WHERE WHAT IT READS IS OF BULK AT MOST 1048576: true; the input reads as it did. -/
def fnExactReadyBytesUptoRow : OpenClaim := { program := "ytgccodnemcofdaa", sum := "0b6ccd63b988ca3cad771cf68a675870b78d0664fc8ebf25d9e40c67ebddc5fb", func := "loop.example/g01633/laws.FnExactReadyBytes", spec := "fnExactReadyBytes", apart := false, narrowed := true }
def FnExactReadyBytesUptoSaid : Prop := fnExactReadyBytesUptoRow.holds Try.pinned (OpenSpec.upto fnExactReadyBytesSpec)

/-- 'laws.FnExactEndOf', WHERE WHAT IT READS IS OF BULK AT MOST 1048576: true; the input reads as it did. -/
def fnExactEndOfUptoRow : OpenClaim := { program := "ytgccodnemcofdaa", sum := "0b6ccd63b988ca3cad771cf68a675870b78d0664fc8ebf25d9e40c67ebddc5fb", func := "loop.example/g01633/laws.FnExactEndOf", spec := "fnExactEndOf", apart := false, narrowed := true }
def FnExactEndOfUptoSaid : Prop := fnExactEndOfUptoRow.holds Try.pinned (OpenSpec.upto fnExactEndOfSpec)

/-- 'laws.FnExactBufferRanges', WHERE WHAT IT READS IS OF BULK AT MOST 1048576: true; the input reads as it did. -/
def fnExactBufferRangesUptoRow : OpenClaim := { program := "ytgccodnemcofdaa", sum := "0b6ccd63b988ca3cad771cf68a675870b78d0664fc8ebf25d9e40c67ebddc5fb", func := "loop.example/g01633/laws.FnExactBufferRanges", spec := "fnExactBufferRanges", apart := false, narrowed := true }
def FnExactBufferRangesUptoSaid : Prop := fnExactBufferRangesUptoRow.holds Try.pinned (OpenSpec.upto fnExactBufferRangesSpec)

/-- 'laws.FnExactTakeBytes', WHERE WHAT IT READS IS OF BULK AT MOST 1048576: true; the input reads as it did. -/
def fnExactTakeBytesUptoRow : OpenClaim := { program := "ytgccodnemcofdaa", sum := "0b6ccd63b988ca3cad771cf68a675870b78d0664fc8ebf25d9e40c67ebddc5fb", func := "loop.example/g01633/laws.FnExactTakeBytes", spec := "fnExactTakeBytes", apart := false, narrowed := true }
def FnExactTakeBytesUptoSaid : Prop := fnExactTakeBytesUptoRow.holds Try.pinned (OpenSpec.upto fnExactTakeBytesSpec)

/-- 'laws.FnExactInsertData', WHERE WHAT IT READS IS OF BULK AT MOST 1048576: true; the input reads as it did. -/
def fnExactInsertDataUptoRow : OpenClaim := { program := "ytgccodnemcofdaa", sum := "0b6ccd63b988ca3cad771cf68a675870b78d0664fc8ebf25d9e40c67ebddc5fb", func := "loop.example/g01633/laws.FnExactInsertData", spec := "fnExactInsertData", unfollowed := true, recurses := true, apart := false, narrowed := true }
def FnExactInsertDataUptoSaid : Prop := fnExactInsertDataUptoRow.holds Try.pinned (OpenSpec.upto fnExactInsertDataSpec)

/-- 'laws.FnTakes', WHERE WHAT IT READS IS OF BULK AT MOST 1048576: true; the input reads as it did. -/
def fnTakesUptoRow : OpenClaim := { program := "ytgccodnemcofdaa", sum := "0b6ccd63b988ca3cad771cf68a675870b78d0664fc8ebf25d9e40c67ebddc5fb", func := "loop.example/g01633/laws.FnTakes", spec := "fnTakes", apart := false, narrowed := true }
def FnTakesUptoSaid : Prop := fnTakesUptoRow.holds Try.pinned (OpenSpec.upto fnTakesSpec)

end Rows
end Go.Proofs.Ytgccodnemcofdaa
