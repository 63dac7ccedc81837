/-
  No cell of these rows narrows 'for every input' (looked for: loops, veiled, ifaces, maps, wideKeys, modest, calm, conditions, laid).
  DERIVED. THE GIVEN ROWS OF THIS SEAT. 12 by the template 'for every input the law returns true; each argument reads behind the call as it read before'; 0 by the template 'total and deterministic' (their statements: YtbjbncmhnhlkpaaTotals.lean).
  GIVEN WITH THE SEED: the statements are not yours to turn. If you find one false, say at which input.
  Laid BY PROGRAM, IN A SANDBOX (cutbox-rows.mjs): the forced cells as the released guide's own fill.sh prints them over the translation e555fdfe28c4b4bf… (all of the seat's roots in one cut). By AI agents, Wed Nov 11 2026. No macro, syntax, notation, axiom, sorry.
-/
import Derived.Test.YtbjbncmhnhlkpaaChecked
import GoSem.Claim
import GoSem.ClaimJoined
import GoSem.ClaimMapViews
import Derived.JoinedTies
import Derived.KernelRfl
namespace Go.Proofs.Ytbjbncmhnhlkpaa
/- THE CELL 'sum', in the pinned program and in every row, IS THE sha256 OF THE DUMP (.gsa) THAT YtbjbncmhnhlkpaaProg.lean LOADS. Nothing in Lean hashes anything: it is a label: what it is worth is what the hold of that sum in a sandbox is worth. -/
noncomputable def Try.pinned : Pinned := { name := "ytbjbncmhnhlkpaa", sum := "e555fdfe28c4b4bf11d22376d865537aa893495f429be1bece5c56cd105fd09b", checked := Try.checked }
namespace Rows
def none {H : Type} : Left H := { results := [], args := [] }

/-- 'laws.FnExactExpand': WHATEVER THE INPUT: true; the input reads as it did. -/
def fnExactExpandSpec : ChangeSpec := { name := "fnExactExpand", fn := fun _ => fun
  | [d1, d2, d3] => { results := [.lit (.bool true)], args := [d1, d2, d3] }
  | _ => none }
def fnExactExpandRow : OpenClaim := { program := "ytbjbncmhnhlkpaa", sum := "e555fdfe28c4b4bf11d22376d865537aa893495f429be1bece5c56cd105fd09b", func := "loop.example/g00478/laws.FnExactExpand", spec := "fnExactExpand", apart := false }
def FnExactExpandSaid : Prop := fnExactExpandRow.holds Try.pinned (OpenSpec.ofChange fnExactExpandSpec)

/-- ITS FALSE NEIGHBOUR: 'it returns false'. Refute it at one input. -/
def fnExactExpandWrong : ChangeSpec := { name := "fnExactExpand", fn := fun _ => fun
  | [d1, d2, d3] => { results := [.lit (.bool false)], args := [d1, d2, d3] }
  | _ => none }
def FnExactExpandWrongFalsely : Prop := fnExactExpandRow.holds Try.pinned (OpenSpec.ofChange fnExactExpandWrong)

/-- 'laws.FnExactDerive': WHATEVER THE INPUT: true; the input reads as it did. -/
def fnExactDeriveSpec : ChangeSpec := { name := "fnExactDerive", fn := fun _ => fun
  | [d1, d2] => { results := [.lit (.bool true)], args := [d1, d2] }
  | _ => none }
def fnExactDeriveRow : OpenClaim := { program := "ytbjbncmhnhlkpaa", sum := "e555fdfe28c4b4bf11d22376d865537aa893495f429be1bece5c56cd105fd09b", func := "loop.example/g00478/laws.FnExactDerive", spec := "fnExactDerive", apart := false }
def FnExactDeriveSaid : Prop := fnExactDeriveRow.holds Try.pinned (OpenSpec.ofChange fnExactDeriveSpec)

/-- ITS FALSE NEIGHBOUR: 'it returns false'. Refute it at one input. -/
def fnExactDeriveWrong : ChangeSpec := { name := "fnExactDerive", fn := fun _ => fun
  | [d1, d2] => { results := [.lit (.bool false)], args := [d1, d2] }
  | _ => none }
def FnExactDeriveWrongFalsely : Prop := fnExactDeriveRow.holds Try.pinned (OpenSpec.ofChange fnExactDeriveWrong)

/-- 'laws.FnExactStream': WHATEVER THE INPUT: true; the input reads as it did. -/
def fnExactStreamSpec : ChangeSpec := { name := "fnExactStream", fn := fun _ => fun
  | [d1, d2, d3] => { results := [.lit (.bool true)], args := [d1, d2, d3] }
  | _ => none }
def fnExactStreamRow : OpenClaim := { program := "ytbjbncmhnhlkpaa", sum := "e555fdfe28c4b4bf11d22376d865537aa893495f429be1bece5c56cd105fd09b", func := "loop.example/g00478/laws.FnExactStream", spec := "fnExactStream", apart := false }
def FnExactStreamSaid : Prop := fnExactStreamRow.holds Try.pinned (OpenSpec.ofChange fnExactStreamSpec)

/-- ITS FALSE NEIGHBOUR: 'it returns false'. Refute it at one input. -/
def fnExactStreamWrong : ChangeSpec := { name := "fnExactStream", fn := fun _ => fun
  | [d1, d2, d3] => { results := [.lit (.bool false)], args := [d1, d2, d3] }
  | _ => none }
def FnExactStreamWrongFalsely : Prop := fnExactStreamRow.holds Try.pinned (OpenSpec.ofChange fnExactStreamWrong)

/-- 'laws.FnExactChain': WHATEVER THE INPUT: true; the input reads as it did. -/
def fnExactChainSpec : ChangeSpec := { name := "fnExactChain", fn := fun _ => fun
  | [d1, d2] => { results := [.lit (.bool true)], args := [d1, d2] }
  | _ => none }
def fnExactChainRow : OpenClaim := { program := "ytbjbncmhnhlkpaa", sum := "e555fdfe28c4b4bf11d22376d865537aa893495f429be1bece5c56cd105fd09b", func := "loop.example/g00478/laws.FnExactChain", spec := "fnExactChain", apart := false }
def FnExactChainSaid : Prop := fnExactChainRow.holds Try.pinned (OpenSpec.ofChange fnExactChainSpec)

/-- ITS FALSE NEIGHBOUR: 'it returns false'. Refute it at one input. -/
def fnExactChainWrong : ChangeSpec := { name := "fnExactChain", fn := fun _ => fun
  | [d1, d2] => { results := [.lit (.bool false)], args := [d1, d2] }
  | _ => none }
def FnExactChainWrongFalsely : Prop := fnExactChainRow.holds Try.pinned (OpenSpec.ofChange fnExactChainWrong)

/-- 'laws.FnExactMix': WHATEVER THE INPUT: true; the input reads as it did. -/
def fnExactMixSpec : ChangeSpec := { name := "fnExactMix", fn := fun _ => fun
  | [d1, d2, d3] => { results := [.lit (.bool true)], args := [d1, d2, d3] }
  | _ => none }
def fnExactMixRow : OpenClaim := { program := "ytbjbncmhnhlkpaa", sum := "e555fdfe28c4b4bf11d22376d865537aa893495f429be1bece5c56cd105fd09b", func := "loop.example/g00478/laws.FnExactMix", spec := "fnExactMix", apart := false }
def FnExactMixSaid : Prop := fnExactMixRow.holds Try.pinned (OpenSpec.ofChange fnExactMixSpec)

/-- ITS FALSE NEIGHBOUR: 'it returns false'. Refute it at one input. -/
def fnExactMixWrong : ChangeSpec := { name := "fnExactMix", fn := fun _ => fun
  | [d1, d2, d3] => { results := [.lit (.bool false)], args := [d1, d2, d3] }
  | _ => none }
def FnExactMixWrongFalsely : Prop := fnExactMixRow.holds Try.pinned (OpenSpec.ofChange fnExactMixWrong)

/-- 'laws.FnExpands': WHATEVER THE INPUT: true; the input reads as it did. -/
def fnExpandsSpec : ChangeSpec := { name := "fnExpands", fn := fun _ => fun
  | [d] => { results := [.lit (.bool true)], args := [d] }
  | _ => none }
def fnExpandsRow : OpenClaim := { program := "ytbjbncmhnhlkpaa", sum := "e555fdfe28c4b4bf11d22376d865537aa893495f429be1bece5c56cd105fd09b", func := "loop.example/g00478/laws.FnExpands", spec := "fnExpands", apart := false }
def FnExpandsSaid : Prop := fnExpandsRow.holds Try.pinned (OpenSpec.ofChange fnExpandsSpec)

/-- ITS FALSE NEIGHBOUR: 'it returns false'. Refute it at one input. -/
def fnExpandsWrong : ChangeSpec := { name := "fnExpands", fn := fun _ => fun
  | [d] => { results := [.lit (.bool false)], args := [d] }
  | _ => none }
def FnExpandsWrongFalsely : Prop := fnExpandsRow.holds Try.pinned (OpenSpec.ofChange fnExpandsWrong)

/-- 'laws.FnStreams': WHATEVER THE INPUT: true; the input reads as it did. -/
def fnStreamsSpec : ChangeSpec := { name := "fnStreams", fn := fun _ => fun
  | [d] => { results := [.lit (.bool true)], args := [d] }
  | _ => none }
def fnStreamsRow : OpenClaim := { program := "ytbjbncmhnhlkpaa", sum := "e555fdfe28c4b4bf11d22376d865537aa893495f429be1bece5c56cd105fd09b", func := "loop.example/g00478/laws.FnStreams", spec := "fnStreams", apart := false }
def FnStreamsSaid : Prop := fnStreamsRow.holds Try.pinned (OpenSpec.ofChange fnStreamsSpec)

/-- ITS FALSE NEIGHBOUR: 'it returns false'. Refute it at one input. -/
def fnStreamsWrong : ChangeSpec := { name := "fnStreams", fn := fun _ => fun
  | [d] => { results := [.lit (.bool false)], args := [d] }
  | _ => none }
def FnStreamsWrongFalsely : Prop := fnStreamsRow.holds Try.pinned (OpenSpec.ofChange fnStreamsWrong)

/-- 'laws.FnMixes': WHATEVER THE INPUT: true; the input reads as it did. -/
def fnMixesSpec : ChangeSpec := { name := "fnMixes", fn := fun _ => fun
  | [d] => { results := [.lit (.bool true)], args := [d] }
  | _ => none }
def fnMixesRow : OpenClaim := { program := "ytbjbncmhnhlkpaa", sum := "e555fdfe28c4b4bf11d22376d865537aa893495f429be1bece5c56cd105fd09b", func := "loop.example/g00478/laws.FnMixes", spec := "fnMixes", apart := false }
def FnMixesSaid : Prop := fnMixesRow.holds Try.pinned (OpenSpec.ofChange fnMixesSpec)

/-- ITS FALSE NEIGHBOUR: 'it returns false'. Refute it at one input. -/
def fnMixesWrong : ChangeSpec := { name := "fnMixes", fn := fun _ => fun
  | [d] => { results := [.lit (.bool false)], args := [d] }
  | _ => none }
def FnMixesWrongFalsely : Prop := fnMixesRow.holds Try.pinned (OpenSpec.ofChange fnMixesWrong)

/-- 'laws.FnTags': WHATEVER THE INPUT: true; the input reads as it did. -/
def fnTagsSpec : ChangeSpec := { name := "fnTags", fn := fun _ => fun
  | [d] => { results := [.lit (.bool true)], args := [d] }
  | _ => none }
def fnTagsRow : OpenClaim := { program := "ytbjbncmhnhlkpaa", sum := "e555fdfe28c4b4bf11d22376d865537aa893495f429be1bece5c56cd105fd09b", func := "loop.example/g00478/laws.FnTags", spec := "fnTags", apart := false }
def FnTagsSaid : Prop := fnTagsRow.holds Try.pinned (OpenSpec.ofChange fnTagsSpec)

/-- ITS FALSE NEIGHBOUR: 'it returns false'. Refute it at one input. -/
def fnTagsWrong : ChangeSpec := { name := "fnTags", fn := fun _ => fun
  | [d] => { results := [.lit (.bool false)], args := [d] }
  | _ => none }
def FnTagsWrongFalsely : Prop := fnTagsRow.holds Try.pinned (OpenSpec.ofChange fnTagsWrong)

/-- 'laws.FnSums': WHATEVER THE INPUT: true; the input reads as it did. -/
def fnSumsSpec : ChangeSpec := { name := "fnSums", fn := fun _ => fun
  | [d] => { results := [.lit (.bool true)], args := [d] }
  | _ => none }
def fnSumsRow : OpenClaim := { program := "ytbjbncmhnhlkpaa", sum := "e555fdfe28c4b4bf11d22376d865537aa893495f429be1bece5c56cd105fd09b", func := "loop.example/g00478/laws.FnSums", spec := "fnSums", apart := false }
def FnSumsSaid : Prop := fnSumsRow.holds Try.pinned (OpenSpec.ofChange fnSumsSpec)

/-- ITS FALSE NEIGHBOUR: 'it returns false'. Refute it at one input. -/
def fnSumsWrong : ChangeSpec := { name := "fnSums", fn := fun _ => fun
  | [d] => { results := [.lit (.bool false)], args := [d] }
  | _ => none }
def FnSumsWrongFalsely : Prop := fnSumsRow.holds Try.pinned (OpenSpec.ofChange fnSumsWrong)

/-- 'laws.FnLongKeys': WHATEVER THE INPUT: true; the input reads as it did. -/
def fnLongKeysSpec : ChangeSpec := { name := "fnLongKeys", fn := fun _ => fun
  | [d] => { results := [.lit (.bool true)], args := [d] }
  | _ => none }
def fnLongKeysRow : OpenClaim := { program := "ytbjbncmhnhlkpaa", sum := "e555fdfe28c4b4bf11d22376d865537aa893495f429be1bece5c56cd105fd09b", func := "loop.example/g00478/laws.FnLongKeys", spec := "fnLongKeys", apart := false }
def FnLongKeysSaid : Prop := fnLongKeysRow.holds Try.pinned (OpenSpec.ofChange fnLongKeysSpec)

/-- ITS FALSE NEIGHBOUR: 'it returns false'. Refute it at one input. -/
def fnLongKeysWrong : ChangeSpec := { name := "fnLongKeys", fn := fun _ => fun
  | [d] => { results := [.lit (.bool false)], args := [d] }
  | _ => none }
def FnLongKeysWrongFalsely : Prop := fnLongKeysRow.holds Try.pinned (OpenSpec.ofChange fnLongKeysWrong)

/-- 'laws.FnChains': WHATEVER THE INPUT: true; the input reads as it did. -/
def fnChainsSpec : ChangeSpec := { name := "fnChains", fn := fun _ => fun
  | [d] => { results := [.lit (.bool true)], args := [d] }
  | _ => none }
def fnChainsRow : OpenClaim := { program := "ytbjbncmhnhlkpaa", sum := "e555fdfe28c4b4bf11d22376d865537aa893495f429be1bece5c56cd105fd09b", func := "loop.example/g00478/laws.FnChains", spec := "fnChains", apart := false }
def FnChainsSaid : Prop := fnChainsRow.holds Try.pinned (OpenSpec.ofChange fnChainsSpec)

/-- ITS FALSE NEIGHBOUR: 'it returns false'. Refute it at one input. -/
def fnChainsWrong : ChangeSpec := { name := "fnChains", fn := fun _ => fun
  | [d] => { results := [.lit (.bool false)], args := [d] }
  | _ => none }
def FnChainsWrongFalsely : Prop := fnChainsRow.holds Try.pinned (OpenSpec.ofChange fnChainsWrong)

/- THE SECOND FORM. 'bulk': how many values and letters a reading holds, each counted each time it is reached (what is shared counts as often as it is met; a slice's spare places count too). A statement '..UptoSaid' is the law's where the arguments, and the package variables that the reading takes, are together of bulk at most 1048576: NARROWER than '..Said'. Prove '..Said' where nothing that the law and all that it calls make is longer than what came in: it says more and counts as full. Else prove '..UptoSaid'. A law counts once. -/
mutual
def uptoBulk {H : Type} : DataW H → Nat
  | .lit (.string bytes) => bytes.length + 1
  | .lit _ => 1
  | .nil => 1
  | .ptr d => uptoBulk d + 1
  | .slice elems spare => uptoBulkAll elems + uptoBulkAll spare + 1
  | .agg parts => uptoBulkAll parts + 1
  | .iface _ d => uptoBulk d + 1
  | .map entries => uptoBulkEntries entries + 1
  | .held _ => 1
def uptoBulkAll {H : Type} : List (DataW H) → Nat
  | [] => 0
  | d :: r => uptoBulk d + uptoBulkAll r
def uptoBulkEntries {H : Type} : List (Lit × DataW H) → Nat
  | [] => 0
  | x :: r => uptoBulkEntry x + uptoBulkEntries r
def uptoBulkEntry {H : Type} : Lit × DataW H → Nat
  | (.string bytes, d) => bytes.length + uptoBulk d + 1
  | (_, d) => uptoBulk d + 1
 end
def uptoSmall : (H : Type) → List (DataW H) → Bool := fun _ ds => decide (uptoBulkAll ds ≤ 1048576)
def OpenSpec.upto (s : _root_.Go.ChangeSpec) : _root_.Go.OpenSpec := { _root_.Go.OpenSpec.ofChange s with cond := some uptoSmall }

/-- 'laws.FnExactExpand', WHERE WHAT IT READS IS OF BULK AT MOST 1048576: true; the input reads as it did. -/
def fnExactExpandUptoRow : OpenClaim := { program := "ytbjbncmhnhlkpaa", sum := "e555fdfe28c4b4bf11d22376d865537aa893495f429be1bece5c56cd105fd09b", func := "loop.example/g00478/laws.FnExactExpand", spec := "fnExactExpand", apart := false, narrowed := true }
def FnExactExpandUptoSaid : Prop := fnExactExpandUptoRow.holds Try.pinned (OpenSpec.upto fnExactExpandSpec)

/-- 'laws.FnExactDerive', WHERE WHAT IT READS IS OF BULK AT MOST 1048576: true; the input reads as it did. -/
def fnExactDeriveUptoRow : OpenClaim := { program := "ytbjbncmhnhlkpaa", sum := "e555fdfe28c4b4bf11d22376d865537aa893495f429be1bece5c56cd105fd09b", func := "loop.example/g00478/laws.FnExactDerive", spec := "fnExactDerive", apart := false, narrowed := true }
def FnExactDeriveUptoSaid : Prop := fnExactDeriveUptoRow.holds Try.pinned (OpenSpec.upto fnExactDeriveSpec)

/-- 'laws.FnExactStream', WHERE WHAT IT READS IS OF BULK AT MOST 1048576: true; the input reads as it did. -/
def fnExactStreamUptoRow : OpenClaim := { program := "ytbjbncmhnhlkpaa", sum := "e555fdfe28c4b4bf11d22376d865537aa893495f429be1bece5c56cd105fd09b", func := "loop.example/g00478/laws.FnExactStream", spec := "fnExactStream", apart := false, narrowed := true }
def FnExactStreamUptoSaid : Prop := fnExactStreamUptoRow.holds Try.pinned (OpenSpec.upto fnExactStreamSpec)

/-- 'laws.FnExactChain', WHERE WHAT IT READS IS OF BULK AT MOST 1048576: true; the input reads as it did. -/
def fnExactChainUptoRow : OpenClaim := { program := "ytbjbncmhnhlkpaa", sum := "e555fdfe28c4b4bf11d22376d865537aa893495f429be1bece5c56cd105fd09b", func := "loop.example/g00478/laws.FnExactChain", spec := "fnExactChain", apart := false, narrowed := true }
def FnExactChainUptoSaid : Prop := fnExactChainUptoRow.holds Try.pinned (OpenSpec.upto fnExactChainSpec)

/-- 'laws.FnExactMix', WHERE WHAT IT READS IS OF BULK AT MOST 1048576: true; the input reads as it did. -/
def fnExactMixUptoRow : OpenClaim := { program := "ytbjbncmhnhlkpaa", sum := "e555fdfe28c4b4bf11d22376d865537aa893495f429be1bece5c56cd105fd09b", func := "loop.example/g00478/laws.FnExactMix", spec := "fnExactMix", apart := false, narrowed := true }
def FnExactMixUptoSaid : Prop := fnExactMixUptoRow.holds Try.pinned (OpenSpec.upto fnExactMixSpec)

/-- 'laws.FnExpands', WHERE WHAT IT READS IS OF BULK AT MOST 1048576: true; the input reads as it did. -/
def fnExpandsUptoRow : OpenClaim := { program := "ytbjbncmhnhlkpaa", sum := "e555fdfe28c4b4bf11d22376d865537aa893495f429be1bece5c56cd105fd09b", func := "loop.example/g00478/laws.FnExpands", spec := "fnExpands", apart := false, narrowed := true }
def FnExpandsUptoSaid : Prop := fnExpandsUptoRow.holds Try.pinned (OpenSpec.upto fnExpandsSpec)

/-- 'laws.FnStreams', WHERE WHAT IT READS IS OF BULK AT MOST 1048576: true; the input reads as it did. -/
def fnStreamsUptoRow : OpenClaim := { program := "ytbjbncmhnhlkpaa", sum := "e555fdfe28c4b4bf11d22376d865537aa893495f429be1bece5c56cd105fd09b", func := "loop.example/g00478/laws.FnStreams", spec := "fnStreams", apart := false, narrowed := true }
def FnStreamsUptoSaid : Prop := fnStreamsUptoRow.holds Try.pinned (OpenSpec.upto fnStreamsSpec)

/-- 'laws.FnMixes', WHERE WHAT IT READS IS OF BULK AT MOST 1048576: true; the input reads as it did. -/
def fnMixesUptoRow : OpenClaim := { program := "ytbjbncmhnhlkpaa", sum := "e555fdfe28c4b4bf11d22376d865537aa893495f429be1bece5c56cd105fd09b", func := "loop.example/g00478/laws.FnMixes", spec := "fnMixes", apart := false, narrowed := true }
def FnMixesUptoSaid : Prop := fnMixesUptoRow.holds Try.pinned (OpenSpec.upto fnMixesSpec)

/-- 'laws.FnTags', WHERE WHAT IT READS IS OF BULK AT MOST 1048576: true; the input reads as it did. -/
def fnTagsUptoRow : OpenClaim := { program := "ytbjbncmhnhlkpaa", sum := "e555fdfe28c4b4bf11d22376d865537aa893495f429be1bece5c56cd105fd09b", func := "loop.example/g00478/laws.FnTags", spec := "fnTags", apart := false, narrowed := true }
def FnTagsUptoSaid : Prop := fnTagsUptoRow.holds Try.pinned (OpenSpec.upto fnTagsSpec)

/-- 'laws.FnSums', WHERE WHAT IT READS IS OF BULK AT MOST 1048576: true; the input reads as it did. -/
def fnSumsUptoRow : OpenClaim := { program := "ytbjbncmhnhlkpaa", sum := "e555fdfe28c4b4bf11d22376d865537aa893495f429be1bece5c56cd105fd09b", func := "loop.example/g00478/laws.FnSums", spec := "fnSums", apart := false, narrowed := true }
def FnSumsUptoSaid : Prop := fnSumsUptoRow.holds Try.pinned (OpenSpec.upto fnSumsSpec)

/-- 'laws.FnLongKeys', WHERE WHAT IT READS IS OF BULK AT MOST 1048576: true; the input reads as it did. -/
def fnLongKeysUptoRow : OpenClaim := { program := "ytbjbncmhnhlkpaa", sum := "e555fdfe28c4b4bf11d22376d865537aa893495f429be1bece5c56cd105fd09b", func := "loop.example/g00478/laws.FnLongKeys", spec := "fnLongKeys", apart := false, narrowed := true }
def FnLongKeysUptoSaid : Prop := fnLongKeysUptoRow.holds Try.pinned (OpenSpec.upto fnLongKeysSpec)

/-- 'laws.FnChains', WHERE WHAT IT READS IS OF BULK AT MOST 1048576: true; the input reads as it did. -/
def fnChainsUptoRow : OpenClaim := { program := "ytbjbncmhnhlkpaa", sum := "e555fdfe28c4b4bf11d22376d865537aa893495f429be1bece5c56cd105fd09b", func := "loop.example/g00478/laws.FnChains", spec := "fnChains", apart := false, narrowed := true }
def FnChainsUptoSaid : Prop := fnChainsUptoRow.holds Try.pinned (OpenSpec.upto fnChainsSpec)

end Rows
end Go.Proofs.Ytbjbncmhnhlkpaa
