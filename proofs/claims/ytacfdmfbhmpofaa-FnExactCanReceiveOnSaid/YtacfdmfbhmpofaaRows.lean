/-
  No cell of these rows narrows 'for every input' (looked for: loops, veiled, ifaces, maps, wideKeys, modest, calm, conditions, laid).
  DERIVED. THE GIVEN ROWS OF THIS SEAT. 12 by the template 'for every input the law returns true; each argument reads behind the call as it read before'; 0 by the template 'total and deterministic' (their statements: YtacfdmfbhmpofaaTotals.lean).
  GIVEN WITH THE SEED: the statements are not yours to turn. If you find one false, say at which input.
  Laid BY PROGRAM, IN A SANDBOX (cutbox-rows.mjs): the forced cells as the released guide's own fill.sh prints them over the translation 9c106450a288aa04… (all of the seat's roots in one cut). By AI agents, Wed Nov 11 2026. No macro, syntax, notation, axiom, sorry.
-/
import Derived.Test.YtacfdmfbhmpofaaChecked
import GoSem.Claim
import GoSem.ClaimJoined
import GoSem.ClaimMapViews
import Derived.JoinedTies
import Derived.KernelRfl
namespace Go.Proofs.Ytacfdmfbhmpofaa
/- THE CELL 'sum', in the pinned program and in every row, IS THE sha256 OF THE DUMP (.gsa) THAT YtacfdmfbhmpofaaProg.lean LOADS. Nothing in Lean hashes anything: it is a label: what it is worth is what the hold of that sum in a sandbox is worth. -/
noncomputable def Try.pinned : Pinned := { name := "ytacfdmfbhmpofaa", sum := "9c106450a288aa04952c3a1022b0b45a498f0b6b37845bbed0adebe268e66111", checked := Try.checked }
namespace Rows
def none {H : Type} : Left H := { results := [], args := [] }

/-- 'laws.FnExactConstants': WHATEVER THE INPUT: true; the input reads as it did. -/
def fnExactConstantsSpec : ChangeSpec := { name := "fnExactConstants", fn := fun _ => fun
  | [] => { results := [.lit (.bool true)], args := [] }
  | _ => none }
def fnExactConstantsRow : OpenClaim := { program := "ytacfdmfbhmpofaa", sum := "9c106450a288aa04952c3a1022b0b45a498f0b6b37845bbed0adebe268e66111", func := "loop.example/g01633/laws.FnExactConstants", spec := "fnExactConstants", apart := false }
def FnExactConstantsSaid : Prop := fnExactConstantsRow.holds Try.pinned (OpenSpec.ofChange fnExactConstantsSpec)

/-- ITS FALSE NEIGHBOUR: 'it returns false'. Refute it at one input. -/
def fnExactConstantsWrong : ChangeSpec := { name := "fnExactConstants", fn := fun _ => fun
  | [] => { results := [.lit (.bool false)], args := [] }
  | _ => none }
def FnExactConstantsWrongFalsely : Prop := fnExactConstantsRow.holds Try.pinned (OpenSpec.ofChange fnExactConstantsWrong)

/-- 'laws.FnExactIsStreamId': WHATEVER THE INPUT: true; the input reads as it did. -/
def fnExactIsStreamIdSpec : ChangeSpec := { name := "fnExactIsStreamId", fn := fun _ => fun
  | [d] => { results := [.lit (.bool true)], args := [d] }
  | _ => none }
def fnExactIsStreamIdRow : OpenClaim := { program := "ytacfdmfbhmpofaa", sum := "9c106450a288aa04952c3a1022b0b45a498f0b6b37845bbed0adebe268e66111", func := "loop.example/g01633/laws.FnExactIsStreamId", spec := "fnExactIsStreamId", apart := false }
def FnExactIsStreamIdSaid : Prop := fnExactIsStreamIdRow.holds Try.pinned (OpenSpec.ofChange fnExactIsStreamIdSpec)

/-- ITS FALSE NEIGHBOUR: 'it returns false'. Refute it at one input. -/
def fnExactIsStreamIdWrong : ChangeSpec := { name := "fnExactIsStreamId", fn := fun _ => fun
  | [d] => { results := [.lit (.bool false)], args := [d] }
  | _ => none }
def FnExactIsStreamIdWrongFalsely : Prop := fnExactIsStreamIdRow.holds Try.pinned (OpenSpec.ofChange fnExactIsStreamIdWrong)

/-- 'laws.FnExactIsServerId': WHATEVER THE INPUT: true; the input reads as it did. -/
def fnExactIsServerIdSpec : ChangeSpec := { name := "fnExactIsServerId", fn := fun _ => fun
  | [d] => { results := [.lit (.bool true)], args := [d] }
  | _ => none }
def fnExactIsServerIdRow : OpenClaim := { program := "ytacfdmfbhmpofaa", sum := "9c106450a288aa04952c3a1022b0b45a498f0b6b37845bbed0adebe268e66111", func := "loop.example/g01633/laws.FnExactIsServerId", spec := "fnExactIsServerId", apart := false }
def FnExactIsServerIdSaid : Prop := fnExactIsServerIdRow.holds Try.pinned (OpenSpec.ofChange fnExactIsServerIdSpec)

/-- ITS FALSE NEIGHBOUR: 'it returns false'. Refute it at one input. -/
def fnExactIsServerIdWrong : ChangeSpec := { name := "fnExactIsServerId", fn := fun _ => fun
  | [d] => { results := [.lit (.bool false)], args := [d] }
  | _ => none }
def FnExactIsServerIdWrongFalsely : Prop := fnExactIsServerIdRow.holds Try.pinned (OpenSpec.ofChange fnExactIsServerIdWrong)

/-- 'laws.FnExactIsUniId': WHATEVER THE INPUT: true; the input reads as it did. -/
def fnExactIsUniIdSpec : ChangeSpec := { name := "fnExactIsUniId", fn := fun _ => fun
  | [d] => { results := [.lit (.bool true)], args := [d] }
  | _ => none }
def fnExactIsUniIdRow : OpenClaim := { program := "ytacfdmfbhmpofaa", sum := "9c106450a288aa04952c3a1022b0b45a498f0b6b37845bbed0adebe268e66111", func := "loop.example/g01633/laws.FnExactIsUniId", spec := "fnExactIsUniId", apart := false }
def FnExactIsUniIdSaid : Prop := fnExactIsUniIdRow.holds Try.pinned (OpenSpec.ofChange fnExactIsUniIdSpec)

/-- ITS FALSE NEIGHBOUR: 'it returns false'. Refute it at one input. -/
def fnExactIsUniIdWrong : ChangeSpec := { name := "fnExactIsUniId", fn := fun _ => fun
  | [d] => { results := [.lit (.bool false)], args := [d] }
  | _ => none }
def FnExactIsUniIdWrongFalsely : Prop := fnExactIsUniIdRow.holds Try.pinned (OpenSpec.ofChange fnExactIsUniIdWrong)

/-- 'laws.FnExactIsOwn': WHATEVER THE INPUT: true; the input reads as it did. -/
def fnExactIsOwnSpec : ChangeSpec := { name := "fnExactIsOwn", fn := fun _ => fun
  | [d1, d2] => { results := [.lit (.bool true)], args := [d1, d2] }
  | _ => none }
def fnExactIsOwnRow : OpenClaim := { program := "ytacfdmfbhmpofaa", sum := "9c106450a288aa04952c3a1022b0b45a498f0b6b37845bbed0adebe268e66111", func := "loop.example/g01633/laws.FnExactIsOwn", spec := "fnExactIsOwn", apart := false }
def FnExactIsOwnSaid : Prop := fnExactIsOwnRow.holds Try.pinned (OpenSpec.ofChange fnExactIsOwnSpec)

/-- ITS FALSE NEIGHBOUR: 'it returns false'. Refute it at one input. -/
def fnExactIsOwnWrong : ChangeSpec := { name := "fnExactIsOwn", fn := fun _ => fun
  | [d1, d2] => { results := [.lit (.bool false)], args := [d1, d2] }
  | _ => none }
def FnExactIsOwnWrongFalsely : Prop := fnExactIsOwnRow.holds Try.pinned (OpenSpec.ofChange fnExactIsOwnWrong)

/-- 'laws.FnExactCanSendOn': WHATEVER THE INPUT: true; the input reads as it did. -/
def fnExactCanSendOnSpec : ChangeSpec := { name := "fnExactCanSendOn", fn := fun _ => fun
  | [d1, d2] => { results := [.lit (.bool true)], args := [d1, d2] }
  | _ => none }
def fnExactCanSendOnRow : OpenClaim := { program := "ytacfdmfbhmpofaa", sum := "9c106450a288aa04952c3a1022b0b45a498f0b6b37845bbed0adebe268e66111", func := "loop.example/g01633/laws.FnExactCanSendOn", spec := "fnExactCanSendOn", apart := false }
def FnExactCanSendOnSaid : Prop := fnExactCanSendOnRow.holds Try.pinned (OpenSpec.ofChange fnExactCanSendOnSpec)

/-- ITS FALSE NEIGHBOUR: 'it returns false'. Refute it at one input. -/
def fnExactCanSendOnWrong : ChangeSpec := { name := "fnExactCanSendOn", fn := fun _ => fun
  | [d1, d2] => { results := [.lit (.bool false)], args := [d1, d2] }
  | _ => none }
def FnExactCanSendOnWrongFalsely : Prop := fnExactCanSendOnRow.holds Try.pinned (OpenSpec.ofChange fnExactCanSendOnWrong)

/-- 'laws.FnExactCanReceiveOn': WHATEVER THE INPUT: true; the input reads as it did. -/
def fnExactCanReceiveOnSpec : ChangeSpec := { name := "fnExactCanReceiveOn", fn := fun _ => fun
  | [d1, d2] => { results := [.lit (.bool true)], args := [d1, d2] }
  | _ => none }
def fnExactCanReceiveOnRow : OpenClaim := { program := "ytacfdmfbhmpofaa", sum := "9c106450a288aa04952c3a1022b0b45a498f0b6b37845bbed0adebe268e66111", func := "loop.example/g01633/laws.FnExactCanReceiveOn", spec := "fnExactCanReceiveOn", apart := false }
def FnExactCanReceiveOnSaid : Prop := fnExactCanReceiveOnRow.holds Try.pinned (OpenSpec.ofChange fnExactCanReceiveOnSpec)

/-- ITS FALSE NEIGHBOUR: 'it returns false'. Refute it at one input. -/
def fnExactCanReceiveOnWrong : ChangeSpec := { name := "fnExactCanReceiveOn", fn := fun _ => fun
  | [d1, d2] => { results := [.lit (.bool false)], args := [d1, d2] }
  | _ => none }
def FnExactCanReceiveOnWrongFalsely : Prop := fnExactCanReceiveOnRow.holds Try.pinned (OpenSpec.ofChange fnExactCanReceiveOnWrong)

/-- 'laws.FnExactIndexOf': WHATEVER THE INPUT: true; the input reads as it did. -/
def fnExactIndexOfSpec : ChangeSpec := { name := "fnExactIndexOf", fn := fun _ => fun
  | [d] => { results := [.lit (.bool true)], args := [d] }
  | _ => none }
def fnExactIndexOfRow : OpenClaim := { program := "ytacfdmfbhmpofaa", sum := "9c106450a288aa04952c3a1022b0b45a498f0b6b37845bbed0adebe268e66111", func := "loop.example/g01633/laws.FnExactIndexOf", spec := "fnExactIndexOf", apart := false }
def FnExactIndexOfSaid : Prop := fnExactIndexOfRow.holds Try.pinned (OpenSpec.ofChange fnExactIndexOfSpec)

/-- ITS FALSE NEIGHBOUR: 'it returns false'. Refute it at one input. -/
def fnExactIndexOfWrong : ChangeSpec := { name := "fnExactIndexOf", fn := fun _ => fun
  | [d] => { results := [.lit (.bool false)], args := [d] }
  | _ => none }
def FnExactIndexOfWrongFalsely : Prop := fnExactIndexOfRow.holds Try.pinned (OpenSpec.ofChange fnExactIndexOfWrong)

/-- 'laws.FnExactMakeId': WHATEVER THE INPUT: true; the input reads as it did. -/
def fnExactMakeIdSpec : ChangeSpec := { name := "fnExactMakeId", fn := fun _ => fun
  | [d1, d2, d3] => { results := [.lit (.bool true)], args := [d1, d2, d3] }
  | _ => none }
def fnExactMakeIdRow : OpenClaim := { program := "ytacfdmfbhmpofaa", sum := "9c106450a288aa04952c3a1022b0b45a498f0b6b37845bbed0adebe268e66111", func := "loop.example/g01633/laws.FnExactMakeId", spec := "fnExactMakeId", apart := false }
def FnExactMakeIdSaid : Prop := fnExactMakeIdRow.holds Try.pinned (OpenSpec.ofChange fnExactMakeIdSpec)

/-- ITS FALSE NEIGHBOUR: 'it returns false'. Refute it at one input. -/
def fnExactMakeIdWrong : ChangeSpec := { name := "fnExactMakeId", fn := fun _ => fun
  | [d1, d2, d3] => { results := [.lit (.bool false)], args := [d1, d2, d3] }
  | _ => none }
def FnExactMakeIdWrongFalsely : Prop := fnExactMakeIdRow.holds Try.pinned (OpenSpec.ofChange fnExactMakeIdWrong)

/-- 'laws.FnExactNameOf': WHATEVER THE INPUT: true; the input reads as it did. -/
def fnExactNameOfSpec : ChangeSpec := { name := "fnExactNameOf", fn := fun _ => fun
  | [d] => { results := [.lit (.bool true)], args := [d] }
  | _ => none }
def fnExactNameOfRow : OpenClaim := { program := "ytacfdmfbhmpofaa", sum := "9c106450a288aa04952c3a1022b0b45a498f0b6b37845bbed0adebe268e66111", func := "loop.example/g01633/laws.FnExactNameOf", spec := "fnExactNameOf", apart := false }
def FnExactNameOfSaid : Prop := fnExactNameOfRow.holds Try.pinned (OpenSpec.ofChange fnExactNameOfSpec)

/-- ITS FALSE NEIGHBOUR: 'it returns false'. Refute it at one input. -/
def fnExactNameOfWrong : ChangeSpec := { name := "fnExactNameOf", fn := fun _ => fun
  | [d] => { results := [.lit (.bool false)], args := [d] }
  | _ => none }
def FnExactNameOfWrongFalsely : Prop := fnExactNameOfRow.holds Try.pinned (OpenSpec.ofChange fnExactNameOfWrong)

/-- 'laws.FnExactKindName': WHATEVER THE INPUT: true; the input reads as it did. -/
def fnExactKindNameSpec : ChangeSpec := { name := "fnExactKindName", fn := fun _ => fun
  | [d] => { results := [.lit (.bool true)], args := [d] }
  | _ => none }
def fnExactKindNameRow : OpenClaim := { program := "ytacfdmfbhmpofaa", sum := "9c106450a288aa04952c3a1022b0b45a498f0b6b37845bbed0adebe268e66111", func := "loop.example/g01633/laws.FnExactKindName", spec := "fnExactKindName", apart := false }
def FnExactKindNameSaid : Prop := fnExactKindNameRow.holds Try.pinned (OpenSpec.ofChange fnExactKindNameSpec)

/-- ITS FALSE NEIGHBOUR: 'it returns false'. Refute it at one input. -/
def fnExactKindNameWrong : ChangeSpec := { name := "fnExactKindName", fn := fun _ => fun
  | [d] => { results := [.lit (.bool false)], args := [d] }
  | _ => none }
def FnExactKindNameWrongFalsely : Prop := fnExactKindNameRow.holds Try.pinned (OpenSpec.ofChange fnExactKindNameWrong)

/-- 'laws.FnExactSizeQuic': WHATEVER THE INPUT: true; the input reads as it did. -/
def fnExactSizeQuicSpec : ChangeSpec := { name := "fnExactSizeQuic", fn := fun _ => fun
  | [d] => { results := [.lit (.bool true)], args := [d] }
  | _ => none }
def fnExactSizeQuicRow : OpenClaim := { program := "ytacfdmfbhmpofaa", sum := "9c106450a288aa04952c3a1022b0b45a498f0b6b37845bbed0adebe268e66111", func := "loop.example/g01633/laws.FnExactSizeQuic", spec := "fnExactSizeQuic", apart := false }
def FnExactSizeQuicSaid : Prop := fnExactSizeQuicRow.holds Try.pinned (OpenSpec.ofChange fnExactSizeQuicSpec)

/-- ITS FALSE NEIGHBOUR: 'it returns false'. Refute it at one input. -/
def fnExactSizeQuicWrong : ChangeSpec := { name := "fnExactSizeQuic", fn := fun _ => fun
  | [d] => { results := [.lit (.bool false)], args := [d] }
  | _ => none }
def FnExactSizeQuicWrongFalsely : Prop := fnExactSizeQuicRow.holds Try.pinned (OpenSpec.ofChange fnExactSizeQuicWrong)

/- THE SECOND FORM. 'bulk': how many values and letters a reading holds, each counted each time it is reached (what is shared counts as often as it is met; a slice's spare places count too). A statement '..UptoSaid' is the law's where the arguments, and the package variables that the reading takes, are together of bulk at most 1048576: NARROWER than '..Said'. Prove '..Said' where nothing that the law and all that it calls make is longer than what came in: it says more and counts as full. Else prove '..UptoSaid'. A law counts once. -/
mutual
def uptoBulk {H : Type} : DataW H → Nat
  | .lit (.string bytes) => bytes.length + 1
  | .lit _ => 1
  | .nil => 1
  | .ptr d => uptoBulk d + 1
  | .slice elems spare => uptoBulkAll elems + uptoBulkAll spare + 1
  | .agg parts => uptoBulkAll parts + 1
  | .iface _ d => uptoBulk d + 1
  | .map entries => uptoBulkEntries entries + 1
  | .held _ => 1
def uptoBulkAll {H : Type} : List (DataW H) → Nat
  | [] => 0
  | d :: r => uptoBulk d + uptoBulkAll r
def uptoBulkEntries {H : Type} : List (Lit × DataW H) → Nat
  | [] => 0
  | x :: r => uptoBulkEntry x + uptoBulkEntries r
def uptoBulkEntry {H : Type} : Lit × DataW H → Nat
  | (.string bytes, d) => bytes.length + uptoBulk d + 1
  | (_, d) => uptoBulk d + 1
 end
def uptoSmall : (H : Type) → List (DataW H) → Bool := fun _ ds => decide (uptoBulkAll ds ≤ 1048576)
def OpenSpec.upto (s : _root_.Go.ChangeSpec) : _root_.Go.OpenSpec := { _root_.Go.OpenSpec.ofChange s with cond := some uptoSmall }

/-- 'laws.FnExactConstants', WHERE WHAT IT READS IS OF BULK AT MOST 1048576: true; the input reads as it did. -/
def fnExactConstantsUptoRow : OpenClaim := { program := "ytacfdmfbhmpofaa", sum := "9c106450a288aa04952c3a1022b0b45a498f0b6b37845bbed0adebe268e66111", func := "loop.example/g01633/laws.FnExactConstants", spec := "fnExactConstants", apart := false, narrowed := true }
def FnExactConstantsUptoSaid : Prop := fnExactConstantsUptoRow.holds Try.pinned (OpenSpec.upto fnExactConstantsSpec)

/-- 'laws.FnExactIsStreamId', WHERE WHAT IT READS IS OF BULK AT MOST 1048576: true; the input reads as it did. -/
def fnExactIsStreamIdUptoRow : OpenClaim := { program := "ytacfdmfbhmpofaa", sum := "9c106450a288aa04952c3a1022b0b45a498f0b6b37845bbed0adebe268e66111", func := "loop.example/g01633/laws.FnExactIsStreamId", spec := "fnExactIsStreamId", apart := false, narrowed := true }
def FnExactIsStreamIdUptoSaid : Prop := fnExactIsStreamIdUptoRow.holds Try.pinned (OpenSpec.upto fnExactIsStreamIdSpec)

/-- 'laws.FnExactIsServerId', WHERE WHAT IT READS IS OF BULK AT MOST 1048576: true; the input reads as it did. -/
def fnExactIsServerIdUptoRow : OpenClaim := { program := "ytacfdmfbhmpofaa", sum := "9c106450a288aa04952c3a1022b0b45a498f0b6b37845bbed0adebe268e66111", func := "loop.example/g01633/laws.FnExactIsServerId", spec := "fnExactIsServerId", apart := false, narrowed := true }
def FnExactIsServerIdUptoSaid : Prop := fnExactIsServerIdUptoRow.holds Try.pinned (OpenSpec.upto fnExactIsServerIdSpec)

/-- 'laws.FnExactIsUniId', WHERE WHAT IT READS IS OF BULK AT MOST 1048576: true; the input reads as it did. -/
def fnExactIsUniIdUptoRow : OpenClaim := { program := "ytacfdmfbhmpofaa", sum := "9c106450a288aa04952c3a1022b0b45a498f0b6b37845bbed0adebe268e66111", func := "loop.example/g01633/laws.FnExactIsUniId", spec := "fnExactIsUniId", apart := false, narrowed := true }
def FnExactIsUniIdUptoSaid : Prop := fnExactIsUniIdUptoRow.holds Try.pinned (OpenSpec.upto fnExactIsUniIdSpec)

/-- 'laws.FnExactIsOwn', WHERE WHAT IT READS IS OF BULK AT MOST 1048576: true; the input reads as it did. -/
def fnExactIsOwnUptoRow : OpenClaim := { program := "ytacfdmfbhmpofaa", sum := "9c106450a288aa04952c3a1022b0b45a498f0b6b37845bbed0adebe268e66111", func := "loop.example/g01633/laws.FnExactIsOwn", spec := "fnExactIsOwn", apart := false, narrowed := true }
def FnExactIsOwnUptoSaid : Prop := fnExactIsOwnUptoRow.holds Try.pinned (OpenSpec.upto fnExactIsOwnSpec)

/-- 'laws.FnExactCanSendOn', WHERE WHAT IT READS IS OF BULK AT MOST 1048576: true; the input reads as it did. -/
def fnExactCanSendOnUptoRow : OpenClaim := { program := "ytacfdmfbhmpofaa", sum := "9c106450a288aa04952c3a1022b0b45a498f0b6b37845bbed0adebe268e66111", func := "loop.example/g01633/laws.FnExactCanSendOn", spec := "fnExactCanSendOn", apart := false, narrowed := true }
def FnExactCanSendOnUptoSaid : Prop := fnExactCanSendOnUptoRow.holds Try.pinned (OpenSpec.upto fnExactCanSendOnSpec)

/-- 'laws.FnExactCanReceiveOn', WHERE WHAT IT READS IS OF BULK AT MOST 1048576: true; the input reads as it did. -/
def fnExactCanReceiveOnUptoRow : OpenClaim := { program := "ytacfdmfbhmpofaa", sum := "9c106450a288aa04952c3a1022b0b45a498f0b6b37845bbed0adebe268e66111", func := "loop.example/g01633/laws.FnExactCanReceiveOn", spec := "fnExactCanReceiveOn", apart := false, narrowed := true }
def FnExactCanReceiveOnUptoSaid : Prop := fnExactCanReceiveOnUptoRow.holds Try.pinned (OpenSpec.upto fnExactCanReceiveOnSpec)

/-- 'laws.FnExactIndexOf', WHERE WHAT IT READS IS OF BULK AT MOST 1048576: true; the input reads as it did. -/
def fnExactIndexOfUptoRow : OpenClaim := { program := "ytacfdmfbhmpofaa", sum := "9c106450a288aa04952c3a1022b0b45a498f0b6b37845bbed0adebe268e66111", func := "loop.example/g01633/laws.FnExactIndexOf", spec := "fnExactIndexOf", apart := false, narrowed := true }
def FnExactIndexOfUptoSaid : Prop := fnExactIndexOfUptoRow.holds Try.pinned (OpenSpec.upto fnExactIndexOfSpec)

/-- 'laws.FnExactMakeId', WHERE WHAT IT READS IS OF BULK AT MOST 1048576: true; the input reads as it did. -/
def fnExactMakeIdUptoRow : OpenClaim := { program := "ytacfdmfbhmpofaa", sum := "9c106450a288aa04952c3a1022b0b45a498f0b6b37845bbed0adebe268e66111", func := "loop.example/g01633/laws.FnExactMakeId", spec := "fnExactMakeId", apart := false, narrowed := true }
def FnExactMakeIdUptoSaid : Prop := fnExactMakeIdUptoRow.holds Try.pinned (OpenSpec.upto fnExactMakeIdSpec)

/-- 'laws.FnExactNameOf', WHERE WHAT IT READS IS OF BULK AT MOST 1048576: true; the input reads as it did. -/
def fnExactNameOfUptoRow : OpenClaim := { program := "ytacfdmfbhmpofaa", sum := "9c106450a288aa04952c3a1022b0b45a498f0b6b37845bbed0adebe268e66111", func := "loop.example/g01633/laws.FnExactNameOf", spec := "fnExactNameOf", apart := false, narrowed := true }
def FnExactNameOfUptoSaid : Prop := fnExactNameOfUptoRow.holds Try.pinned (OpenSpec.upto fnExactNameOfSpec)

/-- 'laws.FnExactKindName', WHERE WHAT IT READS IS OF BULK AT MOST 1048576: true; the input reads as it did. -/
def fnExactKindNameUptoRow : OpenClaim := { program := "ytacfdmfbhmpofaa", sum := "9c106450a288aa04952c3a1022b0b45a498f0b6b37845bbed0adebe268e66111", func := "loop.example/g01633/laws.FnExactKindName", spec := "fnExactKindName", apart := false, narrowed := true }
def FnExactKindNameUptoSaid : Prop := fnExactKindNameUptoRow.holds Try.pinned (OpenSpec.upto fnExactKindNameSpec)

/-- 'laws.FnExactSizeQuic', WHERE WHAT IT READS IS OF BULK AT MOST 1048576: true; the input reads as it did. -/
def fnExactSizeQuicUptoRow : OpenClaim := { program := "ytacfdmfbhmpofaa", sum := "9c106450a288aa04952c3a1022b0b45a498f0b6b37845bbed0adebe268e66111", func := "loop.example/g01633/laws.FnExactSizeQuic", spec := "fnExactSizeQuic", apart := false, narrowed := true }
def FnExactSizeQuicUptoSaid : Prop := fnExactSizeQuicUptoRow.holds Try.pinned (OpenSpec.upto fnExactSizeQuicSpec)

end Rows
end Go.Proofs.Ytacfdmfbhmpofaa
