/-
  No cell of these rows narrows 'for every input' (looked for: loops, veiled, ifaces, maps, wideKeys, modest, calm, conditions, laid).
  DERIVED. THE GIVEN ROWS OF THIS SEAT. 12 by the template 'for every input the law returns true; each argument reads behind the call as it read before'; 0 by the template 'total and deterministic' (their statements: YthobnpifndnopaaTotals.lean).
  GIVEN WITH THE SEED: the statements are not yours to turn. If you find one false, say at which input.
  Laid BY PROGRAM, IN A SANDBOX (cutbox-rows.mjs): the forced cells as the released guide's own fill.sh prints them over the translation 99a2be2a8ad9df87… (all of the seat's roots in one cut). By AI agents, Wed Nov 11 2026. No macro, syntax, notation, axiom, sorry.
-/
import Derived.Test.YthobnpifndnopaaChecked
import GoSem.Claim
import GoSem.ClaimJoined
import GoSem.ClaimMapViews
import Derived.JoinedTies
import Derived.KernelRfl
namespace Go.Proofs.Ythobnpifndnopaa
/- THE CELL 'sum', in the pinned program and in every row, IS THE sha256 OF THE DUMP (.gsa) THAT YthobnpifndnopaaProg.lean LOADS. Nothing in Lean hashes anything: it is a label: what it is worth is what the hold of that sum in a sandbox is worth. -/
noncomputable def Try.pinned : Pinned := { name := "ythobnpifndnopaa", sum := "99a2be2a8ad9df879bb3413b07ef9af51877e930e82a7ed6e299159e81b35213", checked := Try.checked }
namespace Rows
def none {H : Type} : Left H := { results := [], args := [] }

/-- 'laws.FnExactDecodeQuic': WHATEVER THE INPUT: true; the input reads as it did. -/
def fnExactDecodeQuicSpec : ChangeSpec := { name := "fnExactDecodeQuic", fn := fun _ => fun
  | [d1, d2] => { results := [.lit (.bool true)], args := [d1, d2] }
  | _ => none }
def fnExactDecodeQuicRow : OpenClaim := { program := "ythobnpifndnopaa", sum := "99a2be2a8ad9df879bb3413b07ef9af51877e930e82a7ed6e299159e81b35213", func := "loop.example/g01633/laws.FnExactDecodeQuic", spec := "fnExactDecodeQuic", apart := false }
def FnExactDecodeQuicSaid : Prop := fnExactDecodeQuicRow.holds Try.pinned (OpenSpec.ofChange fnExactDecodeQuicSpec)

/-- ITS FALSE NEIGHBOUR: 'it returns false'. Refute it at one input. -/
def fnExactDecodeQuicWrong : ChangeSpec := { name := "fnExactDecodeQuic", fn := fun _ => fun
  | [d1, d2] => { results := [.lit (.bool false)], args := [d1, d2] }
  | _ => none }
def FnExactDecodeQuicWrongFalsely : Prop := fnExactDecodeQuicRow.holds Try.pinned (OpenSpec.ofChange fnExactDecodeQuicWrong)

/-- 'laws.FnExactIsShortest': WHATEVER THE INPUT: true; the input reads as it did. -/
def fnExactIsShortestSpec : ChangeSpec := { name := "fnExactIsShortest", fn := fun _ => fun
  | [d1, d2] => { results := [.lit (.bool true)], args := [d1, d2] }
  | _ => none }
def fnExactIsShortestRow : OpenClaim := { program := "ythobnpifndnopaa", sum := "99a2be2a8ad9df879bb3413b07ef9af51877e930e82a7ed6e299159e81b35213", func := "loop.example/g01633/laws.FnExactIsShortest", spec := "fnExactIsShortest", apart := false }
def FnExactIsShortestSaid : Prop := fnExactIsShortestRow.holds Try.pinned (OpenSpec.ofChange fnExactIsShortestSpec)

/-- ITS FALSE NEIGHBOUR: 'it returns false'. Refute it at one input. -/
def fnExactIsShortestWrong : ChangeSpec := { name := "fnExactIsShortest", fn := fun _ => fun
  | [d1, d2] => { results := [.lit (.bool false)], args := [d1, d2] }
  | _ => none }
def FnExactIsShortestWrongFalsely : Prop := fnExactIsShortestRow.holds Try.pinned (OpenSpec.ofChange fnExactIsShortestWrong)

/-- 'laws.FnExactEncodeQuic': WHATEVER THE INPUT: true; the input reads as it did. -/
def fnExactEncodeQuicSpec : ChangeSpec := { name := "fnExactEncodeQuic", fn := fun _ => fun
  | [d] => { results := [.lit (.bool true)], args := [d] }
  | _ => none }
def fnExactEncodeQuicRow : OpenClaim := { program := "ythobnpifndnopaa", sum := "99a2be2a8ad9df879bb3413b07ef9af51877e930e82a7ed6e299159e81b35213", func := "loop.example/g01633/laws.FnExactEncodeQuic", spec := "fnExactEncodeQuic", apart := false }
def FnExactEncodeQuicSaid : Prop := fnExactEncodeQuicRow.holds Try.pinned (OpenSpec.ofChange fnExactEncodeQuicSpec)

/-- ITS FALSE NEIGHBOUR: 'it returns false'. Refute it at one input. -/
def fnExactEncodeQuicWrong : ChangeSpec := { name := "fnExactEncodeQuic", fn := fun _ => fun
  | [d] => { results := [.lit (.bool false)], args := [d] }
  | _ => none }
def FnExactEncodeQuicWrongFalsely : Prop := fnExactEncodeQuicRow.holds Try.pinned (OpenSpec.ofChange fnExactEncodeQuicWrong)

/-- 'laws.FnExactEncodeQuics': WHATEVER THE INPUT: true; the input reads as it did. -/
def fnExactEncodeQuicsSpec : ChangeSpec := { name := "fnExactEncodeQuics", fn := fun _ => fun
  | [d] => { results := [.lit (.bool true)], args := [d] }
  | _ => none }
def fnExactEncodeQuicsRow : OpenClaim := { program := "ythobnpifndnopaa", sum := "99a2be2a8ad9df879bb3413b07ef9af51877e930e82a7ed6e299159e81b35213", func := "loop.example/g01633/laws.FnExactEncodeQuics", spec := "fnExactEncodeQuics", apart := false }
def FnExactEncodeQuicsSaid : Prop := fnExactEncodeQuicsRow.holds Try.pinned (OpenSpec.ofChange fnExactEncodeQuicsSpec)

/-- ITS FALSE NEIGHBOUR: 'it returns false'. Refute it at one input. -/
def fnExactEncodeQuicsWrong : ChangeSpec := { name := "fnExactEncodeQuics", fn := fun _ => fun
  | [d] => { results := [.lit (.bool false)], args := [d] }
  | _ => none }
def FnExactEncodeQuicsWrongFalsely : Prop := fnExactEncodeQuicsRow.holds Try.pinned (OpenSpec.ofChange fnExactEncodeQuicsWrong)

/-- 'laws.FnExactDecodeQuics': WHATEVER THE INPUT: true; the input reads as it did. -/
def fnExactDecodeQuicsSpec : ChangeSpec := { name := "fnExactDecodeQuics", fn := fun _ => fun
  | [d] => { results := [.lit (.bool true)], args := [d] }
  | _ => none }
def fnExactDecodeQuicsRow : OpenClaim := { program := "ythobnpifndnopaa", sum := "99a2be2a8ad9df879bb3413b07ef9af51877e930e82a7ed6e299159e81b35213", func := "loop.example/g01633/laws.FnExactDecodeQuics", spec := "fnExactDecodeQuics", apart := false }
def FnExactDecodeQuicsSaid : Prop := fnExactDecodeQuicsRow.holds Try.pinned (OpenSpec.ofChange fnExactDecodeQuicsSpec)

/-- ITS FALSE NEIGHBOUR: 'it returns false'. Refute it at one input. -/
def fnExactDecodeQuicsWrong : ChangeSpec := { name := "fnExactDecodeQuics", fn := fun _ => fun
  | [d] => { results := [.lit (.bool false)], args := [d] }
  | _ => none }
def FnExactDecodeQuicsWrongFalsely : Prop := fnExactDecodeQuicsRow.holds Try.pinned (OpenSpec.ofChange fnExactDecodeQuicsWrong)

/-- 'laws.FnExactIsAboutStream': WHATEVER THE INPUT: true; the input reads as it did. -/
def fnExactIsAboutStreamSpec : ChangeSpec := { name := "fnExactIsAboutStream", fn := fun _ => fun
  | [d] => { results := [.lit (.bool true)], args := [d] }
  | _ => none }
def fnExactIsAboutStreamRow : OpenClaim := { program := "ythobnpifndnopaa", sum := "99a2be2a8ad9df879bb3413b07ef9af51877e930e82a7ed6e299159e81b35213", func := "loop.example/g01633/laws.FnExactIsAboutStream", spec := "fnExactIsAboutStream", apart := false }
def FnExactIsAboutStreamSaid : Prop := fnExactIsAboutStreamRow.holds Try.pinned (OpenSpec.ofChange fnExactIsAboutStreamSpec)

/-- ITS FALSE NEIGHBOUR: 'it returns false'. Refute it at one input. -/
def fnExactIsAboutStreamWrong : ChangeSpec := { name := "fnExactIsAboutStream", fn := fun _ => fun
  | [d] => { results := [.lit (.bool false)], args := [d] }
  | _ => none }
def FnExactIsAboutStreamWrongFalsely : Prop := fnExactIsAboutStreamRow.holds Try.pinned (OpenSpec.ofChange fnExactIsAboutStreamWrong)

/-- 'laws.FnExactIsFrame': WHATEVER THE INPUT: true; the input reads as it did. -/
def fnExactIsFrameSpec : ChangeSpec := { name := "fnExactIsFrame", fn := fun _ => fun
  | [d] => { results := [.lit (.bool true)], args := [d] }
  | _ => none }
def fnExactIsFrameRow : OpenClaim := { program := "ythobnpifndnopaa", sum := "99a2be2a8ad9df879bb3413b07ef9af51877e930e82a7ed6e299159e81b35213", func := "loop.example/g01633/laws.FnExactIsFrame", spec := "fnExactIsFrame", apart := false }
def FnExactIsFrameSaid : Prop := fnExactIsFrameRow.holds Try.pinned (OpenSpec.ofChange fnExactIsFrameSpec)

/-- ITS FALSE NEIGHBOUR: 'it returns false'. Refute it at one input. -/
def fnExactIsFrameWrong : ChangeSpec := { name := "fnExactIsFrame", fn := fun _ => fun
  | [d] => { results := [.lit (.bool false)], args := [d] }
  | _ => none }
def FnExactIsFrameWrongFalsely : Prop := fnExactIsFrameRow.holds Try.pinned (OpenSpec.ofChange fnExactIsFrameWrong)

/-- 'laws.FnExactEncodeFrame': WHATEVER THE INPUT: true; the input reads as it did. -/
def fnExactEncodeFrameSpec : ChangeSpec := { name := "fnExactEncodeFrame", fn := fun _ => fun
  | [d] => { results := [.lit (.bool true)], args := [d] }
  | _ => none }
def fnExactEncodeFrameRow : OpenClaim := { program := "ythobnpifndnopaa", sum := "99a2be2a8ad9df879bb3413b07ef9af51877e930e82a7ed6e299159e81b35213", func := "loop.example/g01633/laws.FnExactEncodeFrame", spec := "fnExactEncodeFrame", unfollowed := true, recurses := true, apart := false }
def FnExactEncodeFrameSaid : Prop := fnExactEncodeFrameRow.holds Try.pinned (OpenSpec.ofChange fnExactEncodeFrameSpec)

/-- ITS FALSE NEIGHBOUR: 'it returns false'. Refute it at one input. -/
def fnExactEncodeFrameWrong : ChangeSpec := { name := "fnExactEncodeFrame", fn := fun _ => fun
  | [d] => { results := [.lit (.bool false)], args := [d] }
  | _ => none }
def FnExactEncodeFrameWrongFalsely : Prop := fnExactEncodeFrameRow.holds Try.pinned (OpenSpec.ofChange fnExactEncodeFrameWrong)

/-- 'laws.FnExactFrameSize': WHATEVER THE INPUT: true; the input reads as it did. -/
def fnExactFrameSizeSpec : ChangeSpec := { name := "fnExactFrameSize", fn := fun _ => fun
  | [d] => { results := [.lit (.bool true)], args := [d] }
  | _ => none }
def fnExactFrameSizeRow : OpenClaim := { program := "ythobnpifndnopaa", sum := "99a2be2a8ad9df879bb3413b07ef9af51877e930e82a7ed6e299159e81b35213", func := "loop.example/g01633/laws.FnExactFrameSize", spec := "fnExactFrameSize", unfollowed := true, recurses := true, apart := false }
def FnExactFrameSizeSaid : Prop := fnExactFrameSizeRow.holds Try.pinned (OpenSpec.ofChange fnExactFrameSizeSpec)

/-- ITS FALSE NEIGHBOUR: 'it returns false'. Refute it at one input. -/
def fnExactFrameSizeWrong : ChangeSpec := { name := "fnExactFrameSize", fn := fun _ => fun
  | [d] => { results := [.lit (.bool false)], args := [d] }
  | _ => none }
def FnExactFrameSizeWrongFalsely : Prop := fnExactFrameSizeRow.holds Try.pinned (OpenSpec.ofChange fnExactFrameSizeWrong)

/-- 'laws.FnExactDecodeFrame': WHATEVER THE INPUT: true; the input reads as it did. -/
def fnExactDecodeFrameSpec : ChangeSpec := { name := "fnExactDecodeFrame", fn := fun _ => fun
  | [d1, d2] => { results := [.lit (.bool true)], args := [d1, d2] }
  | _ => none }
def fnExactDecodeFrameRow : OpenClaim := { program := "ythobnpifndnopaa", sum := "99a2be2a8ad9df879bb3413b07ef9af51877e930e82a7ed6e299159e81b35213", func := "loop.example/g01633/laws.FnExactDecodeFrame", spec := "fnExactDecodeFrame", apart := false }
def FnExactDecodeFrameSaid : Prop := fnExactDecodeFrameRow.holds Try.pinned (OpenSpec.ofChange fnExactDecodeFrameSpec)

/-- ITS FALSE NEIGHBOUR: 'it returns false'. Refute it at one input. -/
def fnExactDecodeFrameWrong : ChangeSpec := { name := "fnExactDecodeFrame", fn := fun _ => fun
  | [d1, d2] => { results := [.lit (.bool false)], args := [d1, d2] }
  | _ => none }
def FnExactDecodeFrameWrongFalsely : Prop := fnExactDecodeFrameRow.holds Try.pinned (OpenSpec.ofChange fnExactDecodeFrameWrong)

/-- 'laws.FnExactEncodePayload': WHATEVER THE INPUT: true; the input reads as it did. -/
def fnExactEncodePayloadSpec : ChangeSpec := { name := "fnExactEncodePayload", fn := fun _ => fun
  | [d] => { results := [.lit (.bool true)], args := [d] }
  | _ => none }
def fnExactEncodePayloadRow : OpenClaim := { program := "ythobnpifndnopaa", sum := "99a2be2a8ad9df879bb3413b07ef9af51877e930e82a7ed6e299159e81b35213", func := "loop.example/g01633/laws.FnExactEncodePayload", spec := "fnExactEncodePayload", unfollowed := true, recurses := true, apart := false }
def FnExactEncodePayloadSaid : Prop := fnExactEncodePayloadRow.holds Try.pinned (OpenSpec.ofChange fnExactEncodePayloadSpec)

/-- ITS FALSE NEIGHBOUR: 'it returns false'. Refute it at one input. -/
def fnExactEncodePayloadWrong : ChangeSpec := { name := "fnExactEncodePayload", fn := fun _ => fun
  | [d] => { results := [.lit (.bool false)], args := [d] }
  | _ => none }
def FnExactEncodePayloadWrongFalsely : Prop := fnExactEncodePayloadRow.holds Try.pinned (OpenSpec.ofChange fnExactEncodePayloadWrong)

/-- 'laws.FnExactDecodePayload': WHATEVER THE INPUT: true; the input reads as it did. -/
def fnExactDecodePayloadSpec : ChangeSpec := { name := "fnExactDecodePayload", fn := fun _ => fun
  | [d] => { results := [.lit (.bool true)], args := [d] }
  | _ => none }
def fnExactDecodePayloadRow : OpenClaim := { program := "ythobnpifndnopaa", sum := "99a2be2a8ad9df879bb3413b07ef9af51877e930e82a7ed6e299159e81b35213", func := "loop.example/g01633/laws.FnExactDecodePayload", spec := "fnExactDecodePayload", apart := false }
def FnExactDecodePayloadSaid : Prop := fnExactDecodePayloadRow.holds Try.pinned (OpenSpec.ofChange fnExactDecodePayloadSpec)

/-- ITS FALSE NEIGHBOUR: 'it returns false'. Refute it at one input. -/
def fnExactDecodePayloadWrong : ChangeSpec := { name := "fnExactDecodePayload", fn := fun _ => fun
  | [d] => { results := [.lit (.bool false)], args := [d] }
  | _ => none }
def FnExactDecodePayloadWrongFalsely : Prop := fnExactDecodePayloadRow.holds Try.pinned (OpenSpec.ofChange fnExactDecodePayloadWrong)

/- THE SECOND FORM. 'bulk': how many values and letters a reading holds, each counted each time it is reached (what is shared counts as often as it is met; a slice's spare places count too). A statement '..UptoSaid' is the law's where the arguments, and the package variables that the reading takes, are together of bulk at most 1048576: NARROWER than '..Said'. Prove '..Said' where nothing that the law and all that it calls make is longer than what came in: it says more and counts as full. Else prove '..UptoSaid'. A law counts once. -/
mutual
def uptoBulk {H : Type} : DataW H → Nat
  | .lit (.string bytes) => bytes.length + 1
  | .lit _ => 1
  | .nil => 1
  | .ptr d => uptoBulk d + 1
  | .slice elems spare => uptoBulkAll elems + uptoBulkAll spare + 1
  | .agg parts => uptoBulkAll parts + 1
  | .iface _ d => uptoBulk d + 1
  | .map entries => uptoBulkEntries entries + 1
  | .held _ => 1
def uptoBulkAll {H : Type} : List (DataW H) → Nat
  | [] => 0
  | d :: r => uptoBulk d + uptoBulkAll r
def uptoBulkEntries {H : Type} : List (Lit × DataW H) → Nat
  | [] => 0
  | x :: r => uptoBulkEntry x + uptoBulkEntries r
def uptoBulkEntry {H : Type} : Lit × DataW H → Nat
  | (.string bytes, d) => bytes.length + uptoBulk d + 1
  | (_, d) => uptoBulk d + 1
 end
def uptoSmall : (H : Type) → List (DataW H) → Bool := fun _ ds => decide (uptoBulkAll ds ≤ 1048576)
def OpenSpec.upto (s : _root_.Go.ChangeSpec) : _root_.Go.OpenSpec := { _root_.Go.OpenSpec.ofChange s with cond := some uptoSmall }

/-- 'laws.FnExactDecodeQuic', WHERE WHAT IT READS IS OF BULK AT MOST 1048576: true; the input reads as it did. -/
def fnExactDecodeQuicUptoRow : OpenClaim := { program := "ythobnpifndnopaa", sum := "99a2be2a8ad9df879bb3413b07ef9af51877e930e82a7ed6e299159e81b35213", func := "loop.example/g01633/laws.FnExactDecodeQuic", spec := "fnExactDecodeQuic", apart := false, narrowed := true }
def FnExactDecodeQuicUptoSaid : Prop := fnExactDecodeQuicUptoRow.holds Try.pinned (OpenSpec.upto fnExactDecodeQuicSpec)

/-- 'laws.FnExactIsShortest', WHERE WHAT IT READS IS OF BULK AT MOST 1048576: true; the input reads as it did. -/
def fnExactIsShortestUptoRow : OpenClaim := { program := "ythobnpifndnopaa", sum := "99a2be2a8ad9df879bb3413b07ef9af51877e930e82a7ed6e299159e81b35213", func := "loop.example/g01633/laws.FnExactIsShortest", spec := "fnExactIsShortest", apart := false, narrowed := true }
def FnExactIsShortestUptoSaid : Prop := fnExactIsShortestUptoRow.holds Try.pinned (OpenSpec.upto fnExactIsShortestSpec)

/-- 'laws.FnExactEncodeQuic', WHERE WHAT IT READS IS OF BULK AT MOST 1048576: true; the input reads as it did. -/
def fnExactEncodeQuicUptoRow : OpenClaim := { program := "ythobnpifndnopaa", sum := "99a2be2a8ad9df879bb3413b07ef9af51877e930e82a7ed6e299159e81b35213", func := "loop.example/g01633/laws.FnExactEncodeQuic", spec := "fnExactEncodeQuic", apart := false, narrowed := true }
def FnExactEncodeQuicUptoSaid : Prop := fnExactEncodeQuicUptoRow.holds Try.pinned (OpenSpec.upto fnExactEncodeQuicSpec)

/-- 'laws.FnExactEncodeQuics', WHERE WHAT IT READS IS OF BULK AT MOST 1048576: true; the input reads as it did. -/
def fnExactEncodeQuicsUptoRow : OpenClaim := { program := "ythobnpifndnopaa", sum := "99a2be2a8ad9df879bb3413b07ef9af51877e930e82a7ed6e299159e81b35213", func := "loop.example/g01633/laws.FnExactEncodeQuics", spec := "fnExactEncodeQuics", apart := false, narrowed := true }
def FnExactEncodeQuicsUptoSaid : Prop := fnExactEncodeQuicsUptoRow.holds Try.pinned (OpenSpec.upto fnExactEncodeQuicsSpec)

/-- 'laws.FnExactDecodeQuics', WHERE WHAT IT READS IS OF BULK AT MOST 1048576: true; the input reads as it did. -/
def fnExactDecodeQuicsUptoRow : OpenClaim := { program := "ythobnpifndnopaa", sum := "99a2be2a8ad9df879bb3413b07ef9af51877e930e82a7ed6e299159e81b35213", func := "loop.example/g01633/laws.FnExactDecodeQuics", spec := "fnExactDecodeQuics", apart := false, narrowed := true }
def FnExactDecodeQuicsUptoSaid : Prop := fnExactDecodeQuicsUptoRow.holds Try.pinned (OpenSpec.upto fnExactDecodeQuicsSpec)

/-- 'laws.FnExactIsAboutStream', WHERE WHAT IT READS IS OF BULK AT MOST 1048576: true; the input reads as it did. -/
def fnExactIsAboutStreamUptoRow : OpenClaim := { program := "ythobnpifndnopaa", sum := "99a2be2a8ad9df879bb3413b07ef9af51877e930e82a7ed6e299159e81b35213", func := "loop.example/g01633/laws.FnExactIsAboutStream", spec := "fnExactIsAboutStream", apart := false, narrowed := true }
def FnExactIsAboutStreamUptoSaid : Prop := fnExactIsAboutStreamUptoRow.holds Try.pinned (OpenSpec.upto fnExactIsAboutStreamSpec)

/-- 'laws.FnExactIsFrame', WHERE WHAT IT READS IS OF BULK AT MOST 1048576: true; the input reads as it did. -/
def fnExactIsFrameUptoRow : OpenClaim := { program := "ythobnpifndnopaa", sum := "99a2be2a8ad9df879bb3413b07ef9af51877e930e82a7ed6e299159e81b35213", func := "loop.example/g01633/laws.FnExactIsFrame", spec := "fnExactIsFrame", apart := false, narrowed := true }
def FnExactIsFrameUptoSaid : Prop := fnExactIsFrameUptoRow.holds Try.pinned (OpenSpec.upto fnExactIsFrameSpec)

/-- 'laws.FnExactEncodeFrame', WHERE WHAT IT READS IS OF BULK AT MOST 1048576: true; the input reads as it did. -/
def fnExactEncodeFrameUptoRow : OpenClaim := { program := "ythobnpifndnopaa", sum := "99a2be2a8ad9df879bb3413b07ef9af51877e930e82a7ed6e299159e81b35213", func := "loop.example/g01633/laws.FnExactEncodeFrame", spec := "fnExactEncodeFrame", unfollowed := true, recurses := true, apart := false, narrowed := true }
def FnExactEncodeFrameUptoSaid : Prop := fnExactEncodeFrameUptoRow.holds Try.pinned (OpenSpec.upto fnExactEncodeFrameSpec)

/-- 'laws.FnExactFrameSize', WHERE WHAT IT READS IS OF BULK AT MOST 1048576: true; the input reads as it did. -/
def fnExactFrameSizeUptoRow : OpenClaim := { program := "ythobnpifndnopaa", sum := "99a2be2a8ad9df879bb3413b07ef9af51877e930e82a7ed6e299159e81b35213", func := "loop.example/g01633/laws.FnExactFrameSize", spec := "fnExactFrameSize", unfollowed := true, recurses := true, apart := false, narrowed := true }
def FnExactFrameSizeUptoSaid : Prop := fnExactFrameSizeUptoRow.holds Try.pinned (OpenSpec.upto fnExactFrameSizeSpec)

/-- 'laws.FnExactDecodeFrame', WHERE WHAT IT READS IS OF BULK AT MOST 1048576: true; the input reads as it did. -/
def fnExactDecodeFrameUptoRow : OpenClaim := { program := "ythobnpifndnopaa", sum := "99a2be2a8ad9df879bb3413b07ef9af51877e930e82a7ed6e299159e81b35213", func := "loop.example/g01633/laws.FnExactDecodeFrame", spec := "fnExactDecodeFrame", apart := false, narrowed := true }
def FnExactDecodeFrameUptoSaid : Prop := fnExactDecodeFrameUptoRow.holds Try.pinned (OpenSpec.upto fnExactDecodeFrameSpec)

/-- 'laws.FnExactEncodePayload', WHERE WHAT IT READS IS OF BULK AT MOST 1048576: true; the input reads as it did. -/
def fnExactEncodePayloadUptoRow : OpenClaim := { program := "ythobnpifndnopaa", sum := "99a2be2a8ad9df879bb3413b07ef9af51877e930e82a7ed6e299159e81b35213", func := "loop.example/g01633/laws.FnExactEncodePayload", spec := "fnExactEncodePayload", unfollowed := true, recurses := true, apart := false, narrowed := true }
def FnExactEncodePayloadUptoSaid : Prop := fnExactEncodePayloadUptoRow.holds Try.pinned (OpenSpec.upto fnExactEncodePayloadSpec)

/-- 'laws.FnExactDecodePayload', WHERE WHAT IT READS IS OF BULK AT MOST 1048576: true; the input reads as it did. -/
def fnExactDecodePayloadUptoRow : OpenClaim := { program := "ythobnpifndnopaa", sum := "99a2be2a8ad9df879bb3413b07ef9af51877e930e82a7ed6e299159e81b35213", func := "loop.example/g01633/laws.FnExactDecodePayload", spec := "fnExactDecodePayload", apart := false, narrowed := true }
def FnExactDecodePayloadUptoSaid : Prop := fnExactDecodePayloadUptoRow.holds Try.pinned (OpenSpec.upto fnExactDecodePayloadSpec)

end Rows
end Go.Proofs.Ythobnpifndnopaa
