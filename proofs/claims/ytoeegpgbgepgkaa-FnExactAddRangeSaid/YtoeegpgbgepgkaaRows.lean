/-
  No cell of these rows narrows 'for every input' (looked for: loops, veiled, ifaces, maps, wideKeys, modest, calm, conditions, laid).
  DERIVED. THE GIVEN ROWS OF THIS SEAT. 10 by the template 'for every input the law returns true; each argument reads behind the call as it read before'; 0 by the template 'total and deterministic' (their statements: YtoeegpgbgepgkaaTotals.lean).
  GIVEN WITH THE SEED: the statements are not yours to turn. If you find one false, say at which input.
  Laid BY PROGRAM, IN A SANDBOX (cutbox-rows.mjs): the forced cells as the released guide's own fill.sh prints them over the translation 494fb02f1d5c6dda… (all of the seat's roots in one cut). By AI agents, Wed Nov 11 2026. No macro, syntax, notation, axiom, sorry.
-/
import Derived.Test.YtoeegpgbgepgkaaChecked
import GoSem.Claim
import GoSem.ClaimJoined
import GoSem.ClaimMapViews
import Derived.JoinedTies
import Derived.KernelRfl
namespace Go.Proofs.Ytoeegpgbgepgkaa
/- THE CELL 'sum', in the pinned program and in every row, IS THE sha256 OF THE DUMP (.gsa) THAT YtoeegpgbgepgkaaProg.lean LOADS. Nothing in Lean hashes anything: it is a label: what it is worth is what the hold of that sum in a sandbox is worth. -/
noncomputable def Try.pinned : Pinned := { name := "ytoeegpgbgepgkaa", sum := "494fb02f1d5c6ddab1ba8568b36420261961863126bcbd164d50356e6b81149f", checked := Try.checked }
namespace Rows
def none {H : Type} : Left H := { results := [], args := [] }

/-- 'laws.FnExactIsRanges': WHATEVER THE INPUT: true; the input reads as it did. -/
def fnExactIsRangesSpec : ChangeSpec := { name := "fnExactIsRanges", fn := fun _ => fun
  | [d] => { results := [.lit (.bool true)], args := [d] }
  | _ => none }
def fnExactIsRangesRow : OpenClaim := { program := "ytoeegpgbgepgkaa", sum := "494fb02f1d5c6ddab1ba8568b36420261961863126bcbd164d50356e6b81149f", func := "loop.example/g01633/laws.FnExactIsRanges", spec := "fnExactIsRanges", apart := false }
def FnExactIsRangesSaid : Prop := fnExactIsRangesRow.holds Try.pinned (OpenSpec.ofChange fnExactIsRangesSpec)

/-- ITS FALSE NEIGHBOUR: 'it returns false'. Refute it at one input. -/
def fnExactIsRangesWrong : ChangeSpec := { name := "fnExactIsRanges", fn := fun _ => fun
  | [d] => { results := [.lit (.bool false)], args := [d] }
  | _ => none }
def FnExactIsRangesWrongFalsely : Prop := fnExactIsRangesRow.holds Try.pinned (OpenSpec.ofChange fnExactIsRangesWrong)

/-- 'laws.FnExactHasNumber': WHATEVER THE INPUT: true; the input reads as it did. -/
def fnExactHasNumberSpec : ChangeSpec := { name := "fnExactHasNumber", fn := fun _ => fun
  | [d1, d2] => { results := [.lit (.bool true)], args := [d1, d2] }
  | _ => none }
def fnExactHasNumberRow : OpenClaim := { program := "ytoeegpgbgepgkaa", sum := "494fb02f1d5c6ddab1ba8568b36420261961863126bcbd164d50356e6b81149f", func := "loop.example/g01633/laws.FnExactHasNumber", spec := "fnExactHasNumber", unfollowed := true, recurses := true, apart := false }
def FnExactHasNumberSaid : Prop := fnExactHasNumberRow.holds Try.pinned (OpenSpec.ofChange fnExactHasNumberSpec)

/-- ITS FALSE NEIGHBOUR: 'it returns false'. Refute it at one input. -/
def fnExactHasNumberWrong : ChangeSpec := { name := "fnExactHasNumber", fn := fun _ => fun
  | [d1, d2] => { results := [.lit (.bool false)], args := [d1, d2] }
  | _ => none }
def FnExactHasNumberWrongFalsely : Prop := fnExactHasNumberRow.holds Try.pinned (OpenSpec.ofChange fnExactHasNumberWrong)

/-- 'laws.FnExactEqualRanges': WHATEVER THE INPUT: true; the input reads as it did. -/
def fnExactEqualRangesSpec : ChangeSpec := { name := "fnExactEqualRanges", fn := fun _ => fun
  | [d1, d2] => { results := [.lit (.bool true)], args := [d1, d2] }
  | _ => none }
def fnExactEqualRangesRow : OpenClaim := { program := "ytoeegpgbgepgkaa", sum := "494fb02f1d5c6ddab1ba8568b36420261961863126bcbd164d50356e6b81149f", func := "loop.example/g01633/laws.FnExactEqualRanges", spec := "fnExactEqualRanges", apart := false }
def FnExactEqualRangesSaid : Prop := fnExactEqualRangesRow.holds Try.pinned (OpenSpec.ofChange fnExactEqualRangesSpec)

/-- ITS FALSE NEIGHBOUR: 'it returns false'. Refute it at one input. -/
def fnExactEqualRangesWrong : ChangeSpec := { name := "fnExactEqualRanges", fn := fun _ => fun
  | [d1, d2] => { results := [.lit (.bool false)], args := [d1, d2] }
  | _ => none }
def FnExactEqualRangesWrongFalsely : Prop := fnExactEqualRangesRow.holds Try.pinned (OpenSpec.ofChange fnExactEqualRangesWrong)

/-- 'laws.FnExactCountNumbers': WHATEVER THE INPUT: true; the input reads as it did. -/
def fnExactCountNumbersSpec : ChangeSpec := { name := "fnExactCountNumbers", fn := fun _ => fun
  | [d] => { results := [.lit (.bool true)], args := [d] }
  | _ => none }
def fnExactCountNumbersRow : OpenClaim := { program := "ytoeegpgbgepgkaa", sum := "494fb02f1d5c6ddab1ba8568b36420261961863126bcbd164d50356e6b81149f", func := "loop.example/g01633/laws.FnExactCountNumbers", spec := "fnExactCountNumbers", apart := false }
def FnExactCountNumbersSaid : Prop := fnExactCountNumbersRow.holds Try.pinned (OpenSpec.ofChange fnExactCountNumbersSpec)

/-- ITS FALSE NEIGHBOUR: 'it returns false'. Refute it at one input. -/
def fnExactCountNumbersWrong : ChangeSpec := { name := "fnExactCountNumbers", fn := fun _ => fun
  | [d] => { results := [.lit (.bool false)], args := [d] }
  | _ => none }
def FnExactCountNumbersWrongFalsely : Prop := fnExactCountNumbersRow.holds Try.pinned (OpenSpec.ofChange fnExactCountNumbersWrong)

/-- 'laws.FnExactFirstGap': WHATEVER THE INPUT: true; the input reads as it did. -/
def fnExactFirstGapSpec : ChangeSpec := { name := "fnExactFirstGap", fn := fun _ => fun
  | [d1, d2] => { results := [.lit (.bool true)], args := [d1, d2] }
  | _ => none }
def fnExactFirstGapRow : OpenClaim := { program := "ytoeegpgbgepgkaa", sum := "494fb02f1d5c6ddab1ba8568b36420261961863126bcbd164d50356e6b81149f", func := "loop.example/g01633/laws.FnExactFirstGap", spec := "fnExactFirstGap", apart := false }
def FnExactFirstGapSaid : Prop := fnExactFirstGapRow.holds Try.pinned (OpenSpec.ofChange fnExactFirstGapSpec)

/-- ITS FALSE NEIGHBOUR: 'it returns false'. Refute it at one input. -/
def fnExactFirstGapWrong : ChangeSpec := { name := "fnExactFirstGap", fn := fun _ => fun
  | [d1, d2] => { results := [.lit (.bool false)], args := [d1, d2] }
  | _ => none }
def FnExactFirstGapWrongFalsely : Prop := fnExactFirstGapRow.holds Try.pinned (OpenSpec.ofChange fnExactFirstGapWrong)

/-- 'laws.FnExactCommonRanges': WHATEVER THE INPUT: true; the input reads as it did. -/
def fnExactCommonRangesSpec : ChangeSpec := { name := "fnExactCommonRanges", fn := fun _ => fun
  | [d1, d2] => { results := [.lit (.bool true)], args := [d1, d2] }
  | _ => none }
def fnExactCommonRangesRow : OpenClaim := { program := "ytoeegpgbgepgkaa", sum := "494fb02f1d5c6ddab1ba8568b36420261961863126bcbd164d50356e6b81149f", func := "loop.example/g01633/laws.FnExactCommonRanges", spec := "fnExactCommonRanges", apart := false }
def FnExactCommonRangesSaid : Prop := fnExactCommonRangesRow.holds Try.pinned (OpenSpec.ofChange fnExactCommonRangesSpec)

/-- ITS FALSE NEIGHBOUR: 'it returns false'. Refute it at one input. -/
def fnExactCommonRangesWrong : ChangeSpec := { name := "fnExactCommonRanges", fn := fun _ => fun
  | [d1, d2] => { results := [.lit (.bool false)], args := [d1, d2] }
  | _ => none }
def FnExactCommonRangesWrongFalsely : Prop := fnExactCommonRangesRow.holds Try.pinned (OpenSpec.ofChange fnExactCommonRangesWrong)

/-- 'laws.FnExactRemoveRange': WHATEVER THE INPUT: true; the input reads as it did. -/
def fnExactRemoveRangeSpec : ChangeSpec := { name := "fnExactRemoveRange", fn := fun _ => fun
  | [d1, d2] => { results := [.lit (.bool true)], args := [d1, d2] }
  | _ => none }
def fnExactRemoveRangeRow : OpenClaim := { program := "ytoeegpgbgepgkaa", sum := "494fb02f1d5c6ddab1ba8568b36420261961863126bcbd164d50356e6b81149f", func := "loop.example/g01633/laws.FnExactRemoveRange", spec := "fnExactRemoveRange", apart := false }
def FnExactRemoveRangeSaid : Prop := fnExactRemoveRangeRow.holds Try.pinned (OpenSpec.ofChange fnExactRemoveRangeSpec)

/-- ITS FALSE NEIGHBOUR: 'it returns false'. Refute it at one input. -/
def fnExactRemoveRangeWrong : ChangeSpec := { name := "fnExactRemoveRange", fn := fun _ => fun
  | [d1, d2] => { results := [.lit (.bool false)], args := [d1, d2] }
  | _ => none }
def FnExactRemoveRangeWrongFalsely : Prop := fnExactRemoveRangeRow.holds Try.pinned (OpenSpec.ofChange fnExactRemoveRangeWrong)

/-- 'laws.FnExactPopRange': WHATEVER THE INPUT: true; the input reads as it did. -/
def fnExactPopRangeSpec : ChangeSpec := { name := "fnExactPopRange", fn := fun _ => fun
  | [d1, d2] => { results := [.lit (.bool true)], args := [d1, d2] }
  | _ => none }
def fnExactPopRangeRow : OpenClaim := { program := "ytoeegpgbgepgkaa", sum := "494fb02f1d5c6ddab1ba8568b36420261961863126bcbd164d50356e6b81149f", func := "loop.example/g01633/laws.FnExactPopRange", spec := "fnExactPopRange", apart := false }
def FnExactPopRangeSaid : Prop := fnExactPopRangeRow.holds Try.pinned (OpenSpec.ofChange fnExactPopRangeSpec)

/-- ITS FALSE NEIGHBOUR: 'it returns false'. Refute it at one input. -/
def fnExactPopRangeWrong : ChangeSpec := { name := "fnExactPopRange", fn := fun _ => fun
  | [d1, d2] => { results := [.lit (.bool false)], args := [d1, d2] }
  | _ => none }
def FnExactPopRangeWrongFalsely : Prop := fnExactPopRangeRow.holds Try.pinned (OpenSpec.ofChange fnExactPopRangeWrong)

/-- 'laws.FnExactAddRange': WHATEVER THE INPUT: true; the input reads as it did. -/
def fnExactAddRangeSpec : ChangeSpec := { name := "fnExactAddRange", fn := fun _ => fun
  | [d1, d2] => { results := [.lit (.bool true)], args := [d1, d2] }
  | _ => none }
def fnExactAddRangeRow : OpenClaim := { program := "ytoeegpgbgepgkaa", sum := "494fb02f1d5c6ddab1ba8568b36420261961863126bcbd164d50356e6b81149f", func := "loop.example/g01633/laws.FnExactAddRange", spec := "fnExactAddRange", apart := false }
def FnExactAddRangeSaid : Prop := fnExactAddRangeRow.holds Try.pinned (OpenSpec.ofChange fnExactAddRangeSpec)

/-- ITS FALSE NEIGHBOUR: 'it returns false'. Refute it at one input. -/
def fnExactAddRangeWrong : ChangeSpec := { name := "fnExactAddRange", fn := fun _ => fun
  | [d1, d2] => { results := [.lit (.bool false)], args := [d1, d2] }
  | _ => none }
def FnExactAddRangeWrongFalsely : Prop := fnExactAddRangeRow.holds Try.pinned (OpenSpec.ofChange fnExactAddRangeWrong)

/-- 'laws.FnPops': WHATEVER THE INPUT: true; the input reads as it did. -/
def fnPopsSpec : ChangeSpec := { name := "fnPops", fn := fun _ => fun
  | [d] => { results := [.lit (.bool true)], args := [d] }
  | _ => none }
def fnPopsRow : OpenClaim := { program := "ytoeegpgbgepgkaa", sum := "494fb02f1d5c6ddab1ba8568b36420261961863126bcbd164d50356e6b81149f", func := "loop.example/g01633/laws.FnPops", spec := "fnPops", apart := false }
def FnPopsSaid : Prop := fnPopsRow.holds Try.pinned (OpenSpec.ofChange fnPopsSpec)

/-- ITS FALSE NEIGHBOUR: 'it returns false'. Refute it at one input. -/
def fnPopsWrong : ChangeSpec := { name := "fnPops", fn := fun _ => fun
  | [d] => { results := [.lit (.bool false)], args := [d] }
  | _ => none }
def FnPopsWrongFalsely : Prop := fnPopsRow.holds Try.pinned (OpenSpec.ofChange fnPopsWrong)

/- THE SECOND FORM. 'bulk': how many values and letters a reading holds, each counted each time it is reached (what is shared counts as often as it is met; a slice's spare places count too). A statement '..UptoSaid' is the law's where the arguments, and the package variables that the reading takes, are together of bulk at most 1048576: NARROWER than '..Said'. Prove '..Said' where nothing that the law and all that it calls make is longer than what came in: it says more and counts as full. Else prove '..UptoSaid'. A law counts once. -/
mutual
def uptoBulk {H : Type} : DataW H → Nat
  | .lit (.string bytes) => bytes.length + 1
  | .lit _ => 1
  | .nil => 1
  | .ptr d => uptoBulk d + 1
  | .slice elems spare => uptoBulkAll elems + uptoBulkAll spare + 1
  | .agg parts => uptoBulkAll parts + 1
  | .iface _ d => uptoBulk d + 1
  | .map entries => uptoBulkEntries entries + 1
  | .held _ => 1
def uptoBulkAll {H : Type} : List (DataW H) → Nat
  | [] => 0
  | d :: r => uptoBulk d + uptoBulkAll r
def uptoBulkEntries {H : Type} : List (Lit × DataW H) → Nat
  | [] => 0
  | x :: r => uptoBulkEntry x + uptoBulkEntries r
def uptoBulkEntry {H : Type} : Lit × DataW H → Nat
  | (.string bytes, d) => bytes.length + uptoBulk d + 1
  | (_, d) => uptoBulk d + 1
 end
def uptoSmall : (H : Type) → List (DataW H) → Bool := fun _ ds => decide (uptoBulkAll ds ≤ 1048576)
def OpenSpec.upto (s : _root_.Go.ChangeSpec) : _root_.Go.OpenSpec := { _root_.Go.OpenSpec.ofChange s with cond := some uptoSmall }

/-- 'laws.FnExactIsRanges', WHERE WHAT IT READS IS OF BULK AT MOST 1048576: true; the input reads as it did. -/
def fnExactIsRangesUptoRow : OpenClaim := { program := "ytoeegpgbgepgkaa", sum := "494fb02f1d5c6ddab1ba8568b36420261961863126bcbd164d50356e6b81149f", func := "loop.example/g01633/laws.FnExactIsRanges", spec := "fnExactIsRanges", apart := false, narrowed := true }
def FnExactIsRangesUptoSaid : Prop := fnExactIsRangesUptoRow.holds Try.pinned (OpenSpec.upto fnExactIsRangesSpec)

/-- 'laws.FnExactHasNumber', WHERE WHAT IT READS IS OF BULK AT MOST 1048576: true; the input reads as it did. -/
def fnExactHasNumberUptoRow : OpenClaim := { program := "ytoeegpgbgepgkaa", sum := "494fb02f1d5c6ddab1ba8568b36420261961863126bcbd164d50356e6b81149f", func := "loop.example/g01633/laws.FnExactHasNumber", spec := "fnExactHasNumber", unfollowed := true, recurses := true, apart := false, narrowed := true }
def FnExactHasNumberUptoSaid : Prop := fnExactHasNumberUptoRow.holds Try.pinned (OpenSpec.upto fnExactHasNumberSpec)

/-- 'laws.FnExactEqualRanges', WHERE WHAT IT READS IS OF BULK AT MOST 1048576: true; the input reads as it did. -/
def fnExactEqualRangesUptoRow : OpenClaim := { program := "ytoeegpgbgepgkaa", sum := "494fb02f1d5c6ddab1ba8568b36420261961863126bcbd164d50356e6b81149f", func := "loop.example/g01633/laws.FnExactEqualRanges", spec := "fnExactEqualRanges", apart := false, narrowed := true }
def FnExactEqualRangesUptoSaid : Prop := fnExactEqualRangesUptoRow.holds Try.pinned (OpenSpec.upto fnExactEqualRangesSpec)

/-- 'laws.FnExactCountNumbers', WHERE WHAT IT READS IS OF BULK AT MOST 1048576: true; the input reads as it did. -/
def fnExactCountNumbersUptoRow : OpenClaim := { program := "ytoeegpgbgepgkaa", sum := "494fb02f1d5c6ddab1ba8568b36420261961863126bcbd164d50356e6b81149f", func := "loop.example/g01633/laws.FnExactCountNumbers", spec := "fnExactCountNumbers", apart := false, narrowed := true }
def FnExactCountNumbersUptoSaid : Prop := fnExactCountNumbersUptoRow.holds Try.pinned (OpenSpec.upto fnExactCountNumbersSpec)

/-- 'laws.FnExactFirstGap', WHERE WHAT IT READS IS OF BULK AT MOST 1048576: true; the input reads as it did. -/
def fnExactFirstGapUptoRow : OpenClaim := { program := "ytoeegpgbgepgkaa", sum := "494fb02f1d5c6ddab1ba8568b36420261961863126bcbd164d50356e6b81149f", func := "loop.example/g01633/laws.FnExactFirstGap", spec := "fnExactFirstGap", apart := false, narrowed := true }
def FnExactFirstGapUptoSaid : Prop := fnExactFirstGapUptoRow.holds Try.pinned (OpenSpec.upto fnExactFirstGapSpec)

/-- 'laws.FnExactCommonRanges', WHERE WHAT IT READS IS OF BULK AT MOST 1048576: true; the input reads as it did. -/
def fnExactCommonRangesUptoRow : OpenClaim := { program := "ytoeegpgbgepgkaa", sum := "494fb02f1d5c6ddab1ba8568b36420261961863126bcbd164d50356e6b81149f", func := "loop.example/g01633/laws.FnExactCommonRanges", spec := "fnExactCommonRanges", apart := false, narrowed := true }
def FnExactCommonRangesUptoSaid : Prop := fnExactCommonRangesUptoRow.holds Try.pinned (OpenSpec.upto fnExactCommonRangesSpec)

/-- 'laws.FnExactRemoveRange', WHERE WHAT IT READS IS OF BULK AT MOST 1048576: true; the input reads as it did. -/
def fnExactRemoveRangeUptoRow : OpenClaim := { program := "ytoeegpgbgepgkaa", sum := "494fb02f1d5c6ddab1ba8568b36420261961863126bcbd164d50356e6b81149f", func := "loop.example/g01633/laws.FnExactRemoveRange", spec := "fnExactRemoveRange", apart := false, narrowed := true }
def FnExactRemoveRangeUptoSaid : Prop := fnExactRemoveRangeUptoRow.holds Try.pinned (OpenSpec.upto fnExactRemoveRangeSpec)

/-- 'laws.FnExactPopRange', WHERE WHAT IT READS IS OF BULK AT MOST 1048576: true; the input reads as it did. -/
def fnExactPopRangeUptoRow : OpenClaim := { program := "ytoeegpgbgepgkaa", sum := "494fb02f1d5c6ddab1ba8568b36420261961863126bcbd164d50356e6b81149f", func := "loop.example/g01633/laws.FnExactPopRange", spec := "fnExactPopRange", apart := false, narrowed := true }
def FnExactPopRangeUptoSaid : Prop := fnExactPopRangeUptoRow.holds Try.pinned (OpenSpec.upto fnExactPopRangeSpec)

/-- 'laws.FnExactAddRange', WHERE WHAT IT READS IS OF BULK AT MOST 1048576: true; the input reads as it did. -/
def fnExactAddRangeUptoRow : OpenClaim := { program := "ytoeegpgbgepgkaa", sum := "494fb02f1d5c6ddab1ba8568b36420261961863126bcbd164d50356e6b81149f", func := "loop.example/g01633/laws.FnExactAddRange", spec := "fnExactAddRange", apart := false, narrowed := true }
def FnExactAddRangeUptoSaid : Prop := fnExactAddRangeUptoRow.holds Try.pinned (OpenSpec.upto fnExactAddRangeSpec)

/-- 'laws.FnPops', WHERE WHAT IT READS IS OF BULK AT MOST 1048576: true; the input reads as it did. -/
def fnPopsUptoRow : OpenClaim := { program := "ytoeegpgbgepgkaa", sum := "494fb02f1d5c6ddab1ba8568b36420261961863126bcbd164d50356e6b81149f", func := "loop.example/g01633/laws.FnPops", spec := "fnPops", apart := false, narrowed := true }
def FnPopsUptoSaid : Prop := fnPopsUptoRow.holds Try.pinned (OpenSpec.upto fnPopsSpec)

end Rows
end Go.Proofs.Ytoeegpgbgepgkaa
