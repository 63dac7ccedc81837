/-
  No cell of these rows narrows 'for every input' (looked for: loops, veiled, ifaces, maps, wideKeys, modest, calm, conditions, laid).
  DERIVED. THE GIVEN ROWS OF THIS SEAT. 12 by the template 'for every input the law returns true; each argument reads behind the call as it read before'; 0 by the template 'total and deterministic' (their statements: YtfhpigfoeejhlaaTotals.lean).
  GIVEN WITH THE SEED: the statements are not yours to turn. If you find one false, say at which input.
  Laid BY PROGRAM, IN A SANDBOX (cutbox-rows.mjs): the forced cells as the released guide's own fill.sh prints them over the translation 8f6e9dc26623c44a… (all of the seat's roots in one cut). By AI agents, Wed Nov 11 2026. No macro, syntax, notation, axiom, sorry.
-/
import Derived.Test.YtfhpigfoeejhlaaChecked
import GoSem.Claim
import GoSem.ClaimJoined
import GoSem.ClaimMapViews
import Derived.JoinedTies
import Derived.KernelRfl
namespace Go.Proofs.Ytfhpigfoeejhlaa
/- THE CELL 'sum', in the pinned program and in every row, IS THE sha256 OF THE DUMP (.gsa) THAT YtfhpigfoeejhlaaProg.lean LOADS. Nothing in Lean hashes anything: it is a label: what it is worth is what the hold of that sum in a sandbox is worth. -/
noncomputable def Try.pinned : Pinned := { name := "ytfhpigfoeejhlaa", sum := "8f6e9dc26623c44a2b9515c8bd2889736afca5f62ef020c139e806443e057ea0", checked := Try.checked }
namespace Rows
def none {H : Type} : Left H := { results := [], args := [] }

/-- 'laws.FnExactHashOk': WHATEVER THE INPUT: true; the input reads as it did. -/
def fnExactHashOkSpec : ChangeSpec := { name := "fnExactHashOk", fn := fun _ => fun
  | [d] => { results := [.lit (.bool true)], args := [d] }
  | _ => none }
def fnExactHashOkRow : OpenClaim := { program := "ytfhpigfoeejhlaa", sum := "8f6e9dc26623c44a2b9515c8bd2889736afca5f62ef020c139e806443e057ea0", func := "loop.example/g00478/laws.FnExactHashOk", spec := "fnExactHashOk", apart := false }
def FnExactHashOkSaid : Prop := fnExactHashOkRow.holds Try.pinned (OpenSpec.ofChange fnExactHashOkSpec)

/-- ITS FALSE NEIGHBOUR: 'it returns false'. Refute it at one input. -/
def fnExactHashOkWrong : ChangeSpec := { name := "fnExactHashOk", fn := fun _ => fun
  | [d] => { results := [.lit (.bool false)], args := [d] }
  | _ => none }
def FnExactHashOkWrongFalsely : Prop := fnExactHashOkRow.holds Try.pinned (OpenSpec.ofChange fnExactHashOkWrong)

/-- 'laws.FnExactSchedule': WHATEVER THE INPUT: true; the input reads as it did. -/
def fnExactScheduleSpec : ChangeSpec := { name := "fnExactSchedule", fn := fun _ => fun
  | [d] => { results := [.lit (.bool true)], args := [d] }
  | _ => none }
def fnExactScheduleRow : OpenClaim := { program := "ytfhpigfoeejhlaa", sum := "8f6e9dc26623c44a2b9515c8bd2889736afca5f62ef020c139e806443e057ea0", func := "loop.example/g00478/laws.FnExactSchedule", spec := "fnExactSchedule", apart := false }
def FnExactScheduleSaid : Prop := fnExactScheduleRow.holds Try.pinned (OpenSpec.ofChange fnExactScheduleSpec)

/-- ITS FALSE NEIGHBOUR: 'it returns false'. Refute it at one input. -/
def fnExactScheduleWrong : ChangeSpec := { name := "fnExactSchedule", fn := fun _ => fun
  | [d] => { results := [.lit (.bool false)], args := [d] }
  | _ => none }
def FnExactScheduleWrongFalsely : Prop := fnExactScheduleRow.holds Try.pinned (OpenSpec.ofChange fnExactScheduleWrong)

/-- 'laws.FnHex': WHATEVER THE INPUT: true; the input reads as it did. -/
def fnHexSpec : ChangeSpec := { name := "fnHex", fn := fun _ => fun
  | [d] => { results := [.lit (.bool true)], args := [d] }
  | _ => none }
def fnHexRow : OpenClaim := { program := "ytfhpigfoeejhlaa", sum := "8f6e9dc26623c44a2b9515c8bd2889736afca5f62ef020c139e806443e057ea0", func := "loop.example/g00478/laws.FnHex", spec := "fnHex", apart := false }
def FnHexSaid : Prop := fnHexRow.holds Try.pinned (OpenSpec.ofChange fnHexSpec)

/-- ITS FALSE NEIGHBOUR: 'it returns false'. Refute it at one input. -/
def fnHexWrong : ChangeSpec := { name := "fnHex", fn := fun _ => fun
  | [d] => { results := [.lit (.bool false)], args := [d] }
  | _ => none }
def FnHexWrongFalsely : Prop := fnHexRow.holds Try.pinned (OpenSpec.ofChange fnHexWrong)

/-- 'laws.FnExactCompress': WHATEVER THE INPUT: true; the input reads as it did. -/
def fnExactCompressSpec : ChangeSpec := { name := "fnExactCompress", fn := fun _ => fun
  | [d1, d2] => { results := [.lit (.bool true)], args := [d1, d2] }
  | _ => none }
def fnExactCompressRow : OpenClaim := { program := "ytfhpigfoeejhlaa", sum := "8f6e9dc26623c44a2b9515c8bd2889736afca5f62ef020c139e806443e057ea0", func := "loop.example/g00478/laws.FnExactCompress", spec := "fnExactCompress", apart := false }
def FnExactCompressSaid : Prop := fnExactCompressRow.holds Try.pinned (OpenSpec.ofChange fnExactCompressSpec)

/-- ITS FALSE NEIGHBOUR: 'it returns false'. Refute it at one input. -/
def fnExactCompressWrong : ChangeSpec := { name := "fnExactCompress", fn := fun _ => fun
  | [d1, d2] => { results := [.lit (.bool false)], args := [d1, d2] }
  | _ => none }
def FnExactCompressWrongFalsely : Prop := fnExactCompressRow.holds Try.pinned (OpenSpec.ofChange fnExactCompressWrong)

/-- 'laws.FnExactSha': WHATEVER THE INPUT: true; the input reads as it did. -/
def fnExactShaSpec : ChangeSpec := { name := "fnExactSha", fn := fun _ => fun
  | [d] => { results := [.lit (.bool true)], args := [d] }
  | _ => none }
def fnExactShaRow : OpenClaim := { program := "ytfhpigfoeejhlaa", sum := "8f6e9dc26623c44a2b9515c8bd2889736afca5f62ef020c139e806443e057ea0", func := "loop.example/g00478/laws.FnExactSha", spec := "fnExactSha", apart := false }
def FnExactShaSaid : Prop := fnExactShaRow.holds Try.pinned (OpenSpec.ofChange fnExactShaSpec)

/-- ITS FALSE NEIGHBOUR: 'it returns false'. Refute it at one input. -/
def fnExactShaWrong : ChangeSpec := { name := "fnExactSha", fn := fun _ => fun
  | [d] => { results := [.lit (.bool false)], args := [d] }
  | _ => none }
def FnExactShaWrongFalsely : Prop := fnExactShaRow.holds Try.pinned (OpenSpec.ofChange fnExactShaWrong)

/-- 'laws.FnExactHashAdd': WHATEVER THE INPUT: true; the input reads as it did. -/
def fnExactHashAddSpec : ChangeSpec := { name := "fnExactHashAdd", fn := fun _ => fun
  | [d1, d2] => { results := [.lit (.bool true)], args := [d1, d2] }
  | _ => none }
def fnExactHashAddRow : OpenClaim := { program := "ytfhpigfoeejhlaa", sum := "8f6e9dc26623c44a2b9515c8bd2889736afca5f62ef020c139e806443e057ea0", func := "loop.example/g00478/laws.FnExactHashAdd", spec := "fnExactHashAdd", apart := false }
def FnExactHashAddSaid : Prop := fnExactHashAddRow.holds Try.pinned (OpenSpec.ofChange fnExactHashAddSpec)

/-- ITS FALSE NEIGHBOUR: 'it returns false'. Refute it at one input. -/
def fnExactHashAddWrong : ChangeSpec := { name := "fnExactHashAdd", fn := fun _ => fun
  | [d1, d2] => { results := [.lit (.bool false)], args := [d1, d2] }
  | _ => none }
def FnExactHashAddWrongFalsely : Prop := fnExactHashAddRow.holds Try.pinned (OpenSpec.ofChange fnExactHashAddWrong)

/-- 'laws.FnExactHashEnd': WHATEVER THE INPUT: true; the input reads as it did. -/
def fnExactHashEndSpec : ChangeSpec := { name := "fnExactHashEnd", fn := fun _ => fun
  | [d] => { results := [.lit (.bool true)], args := [d] }
  | _ => none }
def fnExactHashEndRow : OpenClaim := { program := "ytfhpigfoeejhlaa", sum := "8f6e9dc26623c44a2b9515c8bd2889736afca5f62ef020c139e806443e057ea0", func := "loop.example/g00478/laws.FnExactHashEnd", spec := "fnExactHashEnd", apart := false }
def FnExactHashEndSaid : Prop := fnExactHashEndRow.holds Try.pinned (OpenSpec.ofChange fnExactHashEndSpec)

/-- ITS FALSE NEIGHBOUR: 'it returns false'. Refute it at one input. -/
def fnExactHashEndWrong : ChangeSpec := { name := "fnExactHashEnd", fn := fun _ => fun
  | [d] => { results := [.lit (.bool false)], args := [d] }
  | _ => none }
def FnExactHashEndWrongFalsely : Prop := fnExactHashEndRow.holds Try.pinned (OpenSpec.ofChange fnExactHashEndWrong)

/-- 'laws.FnExactBlockKey': WHATEVER THE INPUT: true; the input reads as it did. -/
def fnExactBlockKeySpec : ChangeSpec := { name := "fnExactBlockKey", fn := fun _ => fun
  | [d] => { results := [.lit (.bool true)], args := [d] }
  | _ => none }
def fnExactBlockKeyRow : OpenClaim := { program := "ytfhpigfoeejhlaa", sum := "8f6e9dc26623c44a2b9515c8bd2889736afca5f62ef020c139e806443e057ea0", func := "loop.example/g00478/laws.FnExactBlockKey", spec := "fnExactBlockKey", apart := false }
def FnExactBlockKeySaid : Prop := fnExactBlockKeyRow.holds Try.pinned (OpenSpec.ofChange fnExactBlockKeySpec)

/-- ITS FALSE NEIGHBOUR: 'it returns false'. Refute it at one input. -/
def fnExactBlockKeyWrong : ChangeSpec := { name := "fnExactBlockKey", fn := fun _ => fun
  | [d] => { results := [.lit (.bool false)], args := [d] }
  | _ => none }
def FnExactBlockKeyWrongFalsely : Prop := fnExactBlockKeyRow.holds Try.pinned (OpenSpec.ofChange fnExactBlockKeyWrong)

/-- 'laws.FnExactHmac': WHATEVER THE INPUT: true; the input reads as it did. -/
def fnExactHmacSpec : ChangeSpec := { name := "fnExactHmac", fn := fun _ => fun
  | [d1, d2] => { results := [.lit (.bool true)], args := [d1, d2] }
  | _ => none }
def fnExactHmacRow : OpenClaim := { program := "ytfhpigfoeejhlaa", sum := "8f6e9dc26623c44a2b9515c8bd2889736afca5f62ef020c139e806443e057ea0", func := "loop.example/g00478/laws.FnExactHmac", spec := "fnExactHmac", apart := false }
def FnExactHmacSaid : Prop := fnExactHmacRow.holds Try.pinned (OpenSpec.ofChange fnExactHmacSpec)

/-- ITS FALSE NEIGHBOUR: 'it returns false'. Refute it at one input. -/
def fnExactHmacWrong : ChangeSpec := { name := "fnExactHmac", fn := fun _ => fun
  | [d1, d2] => { results := [.lit (.bool false)], args := [d1, d2] }
  | _ => none }
def FnExactHmacWrongFalsely : Prop := fnExactHmacRow.holds Try.pinned (OpenSpec.ofChange fnExactHmacWrong)

/-- 'laws.FnExactExtract': WHATEVER THE INPUT: true; the input reads as it did. -/
def fnExactExtractSpec : ChangeSpec := { name := "fnExactExtract", fn := fun _ => fun
  | [d1, d2] => { results := [.lit (.bool true)], args := [d1, d2] }
  | _ => none }
def fnExactExtractRow : OpenClaim := { program := "ytfhpigfoeejhlaa", sum := "8f6e9dc26623c44a2b9515c8bd2889736afca5f62ef020c139e806443e057ea0", func := "loop.example/g00478/laws.FnExactExtract", spec := "fnExactExtract", apart := false }
def FnExactExtractSaid : Prop := fnExactExtractRow.holds Try.pinned (OpenSpec.ofChange fnExactExtractSpec)

/-- ITS FALSE NEIGHBOUR: 'it returns false'. Refute it at one input. -/
def fnExactExtractWrong : ChangeSpec := { name := "fnExactExtract", fn := fun _ => fun
  | [d1, d2] => { results := [.lit (.bool false)], args := [d1, d2] }
  | _ => none }
def FnExactExtractWrongFalsely : Prop := fnExactExtractRow.holds Try.pinned (OpenSpec.ofChange fnExactExtractWrong)

/-- 'laws.FnExactTag': WHATEVER THE INPUT: true; the input reads as it did. -/
def fnExactTagSpec : ChangeSpec := { name := "fnExactTag", fn := fun _ => fun
  | [d1, d2] => { results := [.lit (.bool true)], args := [d1, d2] }
  | _ => none }
def fnExactTagRow : OpenClaim := { program := "ytfhpigfoeejhlaa", sum := "8f6e9dc26623c44a2b9515c8bd2889736afca5f62ef020c139e806443e057ea0", func := "loop.example/g00478/laws.FnExactTag", spec := "fnExactTag", apart := false }
def FnExactTagSaid : Prop := fnExactTagRow.holds Try.pinned (OpenSpec.ofChange fnExactTagSpec)

/-- ITS FALSE NEIGHBOUR: 'it returns false'. Refute it at one input. -/
def fnExactTagWrong : ChangeSpec := { name := "fnExactTag", fn := fun _ => fun
  | [d1, d2] => { results := [.lit (.bool false)], args := [d1, d2] }
  | _ => none }
def FnExactTagWrongFalsely : Prop := fnExactTagRow.holds Try.pinned (OpenSpec.ofChange fnExactTagWrong)

/-- 'laws.FnExactBlockOf': WHATEVER THE INPUT: true; the input reads as it did. -/
def fnExactBlockOfSpec : ChangeSpec := { name := "fnExactBlockOf", fn := fun _ => fun
  | [d1, d2, d3] => { results := [.lit (.bool true)], args := [d1, d2, d3] }
  | _ => none }
def fnExactBlockOfRow : OpenClaim := { program := "ytfhpigfoeejhlaa", sum := "8f6e9dc26623c44a2b9515c8bd2889736afca5f62ef020c139e806443e057ea0", func := "loop.example/g00478/laws.FnExactBlockOf", spec := "fnExactBlockOf", apart := false }
def FnExactBlockOfSaid : Prop := fnExactBlockOfRow.holds Try.pinned (OpenSpec.ofChange fnExactBlockOfSpec)

/-- ITS FALSE NEIGHBOUR: 'it returns false'. Refute it at one input. -/
def fnExactBlockOfWrong : ChangeSpec := { name := "fnExactBlockOf", fn := fun _ => fun
  | [d1, d2, d3] => { results := [.lit (.bool false)], args := [d1, d2, d3] }
  | _ => none }
def FnExactBlockOfWrongFalsely : Prop := fnExactBlockOfRow.holds Try.pinned (OpenSpec.ofChange fnExactBlockOfWrong)

/- THE SECOND FORM. 'bulk': how many values and letters a reading holds, each counted each time it is reached (what is shared counts as often as it is met; a slice's spare places count too). A statement '..UptoSaid' is the law's where the arguments, and the package variables that the reading takes, are together of bulk at most 1048576: NARROWER than '..Said'. Prove '..Said' where nothing that the law and all that it calls make is longer than what came in: it says more and counts as full. Else prove '..UptoSaid'. A law counts once. -/
mutual
def uptoBulk {H : Type} : DataW H → Nat
  | .lit (.string bytes) => bytes.length + 1
  | .lit _ => 1
  | .nil => 1
  | .ptr d => uptoBulk d + 1
  | .slice elems spare => uptoBulkAll elems + uptoBulkAll spare + 1
  | .agg parts => uptoBulkAll parts + 1
  | .iface _ d => uptoBulk d + 1
  | .map entries => uptoBulkEntries entries + 1
  | .held _ => 1
def uptoBulkAll {H : Type} : List (DataW H) → Nat
  | [] => 0
  | d :: r => uptoBulk d + uptoBulkAll r
def uptoBulkEntries {H : Type} : List (Lit × DataW H) → Nat
  | [] => 0
  | x :: r => uptoBulkEntry x + uptoBulkEntries r
def uptoBulkEntry {H : Type} : Lit × DataW H → Nat
  | (.string bytes, d) => bytes.length + uptoBulk d + 1
  | (_, d) => uptoBulk d + 1
 end
def uptoSmall : (H : Type) → List (DataW H) → Bool := fun _ ds => decide (uptoBulkAll ds ≤ 1048576)
def OpenSpec.upto (s : _root_.Go.ChangeSpec) : _root_.Go.OpenSpec := { _root_.Go.OpenSpec.ofChange s with cond := some uptoSmall }

/-- 'laws.FnExactHashOk', WHERE WHAT IT READS IS OF BULK AT MOST 1048576: true; the input reads as it did. -/
def fnExactHashOkUptoRow : OpenClaim := { program := "ytfhpigfoeejhlaa", sum := "8f6e9dc26623c44a2b9515c8bd2889736afca5f62ef020c139e806443e057ea0", func := "loop.example/g00478/laws.FnExactHashOk", spec := "fnExactHashOk", apart := false, narrowed := true }
def FnExactHashOkUptoSaid : Prop := fnExactHashOkUptoRow.holds Try.pinned (OpenSpec.upto fnExactHashOkSpec)

/-- 'laws.FnExactSchedule', WHERE WHAT IT READS IS OF BULK AT MOST 1048576: true; the input reads as it did. -/
def fnExactScheduleUptoRow : OpenClaim := { program := "ytfhpigfoeejhlaa", sum := "8f6e9dc26623c44a2b9515c8bd2889736afca5f62ef020c139e806443e057ea0", func := "loop.example/g00478/laws.FnExactSchedule", spec := "fnExactSchedule", apart := false, narrowed := true }
def FnExactScheduleUptoSaid : Prop := fnExactScheduleUptoRow.holds Try.pinned (OpenSpec.upto fnExactScheduleSpec)

/-- 'laws.FnHex', WHERE WHAT IT READS IS OF BULK AT MOST 1048576: true; the input reads as it did. -/
def fnHexUptoRow : OpenClaim := { program := "ytfhpigfoeejhlaa", sum := "8f6e9dc26623c44a2b9515c8bd2889736afca5f62ef020c139e806443e057ea0", func := "loop.example/g00478/laws.FnHex", spec := "fnHex", apart := false, narrowed := true }
def FnHexUptoSaid : Prop := fnHexUptoRow.holds Try.pinned (OpenSpec.upto fnHexSpec)

/-- 'laws.FnExactCompress', WHERE WHAT IT READS IS OF BULK AT MOST 1048576: true; the input reads as it did. -/
def fnExactCompressUptoRow : OpenClaim := { program := "ytfhpigfoeejhlaa", sum := "8f6e9dc26623c44a2b9515c8bd2889736afca5f62ef020c139e806443e057ea0", func := "loop.example/g00478/laws.FnExactCompress", spec := "fnExactCompress", apart := false, narrowed := true }
def FnExactCompressUptoSaid : Prop := fnExactCompressUptoRow.holds Try.pinned (OpenSpec.upto fnExactCompressSpec)

/-- 'laws.FnExactSha', WHERE WHAT IT READS IS OF BULK AT MOST 1048576: true; the input reads as it did. -/
def fnExactShaUptoRow : OpenClaim := { program := "ytfhpigfoeejhlaa", sum := "8f6e9dc26623c44a2b9515c8bd2889736afca5f62ef020c139e806443e057ea0", func := "loop.example/g00478/laws.FnExactSha", spec := "fnExactSha", apart := false, narrowed := true }
def FnExactShaUptoSaid : Prop := fnExactShaUptoRow.holds Try.pinned (OpenSpec.upto fnExactShaSpec)

/-- 'laws.FnExactHashAdd', WHERE WHAT IT READS IS OF BULK AT MOST 1048576: true; the input reads as it did. -/
def fnExactHashAddUptoRow : OpenClaim := { program := "ytfhpigfoeejhlaa", sum := "8f6e9dc26623c44a2b9515c8bd2889736afca5f62ef020c139e806443e057ea0", func := "loop.example/g00478/laws.FnExactHashAdd", spec := "fnExactHashAdd", apart := false, narrowed := true }
def FnExactHashAddUptoSaid : Prop := fnExactHashAddUptoRow.holds Try.pinned (OpenSpec.upto fnExactHashAddSpec)

/-- 'laws.FnExactHashEnd', WHERE WHAT IT READS IS OF BULK AT MOST 1048576: true; the input reads as it did. -/
def fnExactHashEndUptoRow : OpenClaim := { program := "ytfhpigfoeejhlaa", sum := "8f6e9dc26623c44a2b9515c8bd2889736afca5f62ef020c139e806443e057ea0", func := "loop.example/g00478/laws.FnExactHashEnd", spec := "fnExactHashEnd", apart := false, narrowed := true }
def FnExactHashEndUptoSaid : Prop := fnExactHashEndUptoRow.holds Try.pinned (OpenSpec.upto fnExactHashEndSpec)

/-- 'laws.FnExactBlockKey', WHERE WHAT IT READS IS OF BULK AT MOST 1048576: true; the input reads as it did. -/
def fnExactBlockKeyUptoRow : OpenClaim := { program := "ytfhpigfoeejhlaa", sum := "8f6e9dc26623c44a2b9515c8bd2889736afca5f62ef020c139e806443e057ea0", func := "loop.example/g00478/laws.FnExactBlockKey", spec := "fnExactBlockKey", apart := false, narrowed := true }
def FnExactBlockKeyUptoSaid : Prop := fnExactBlockKeyUptoRow.holds Try.pinned (OpenSpec.upto fnExactBlockKeySpec)

/-- 'laws.FnExactHmac', WHERE WHAT IT READS IS OF BULK AT MOST 1048576: true; the input reads as it did. -/
def fnExactHmacUptoRow : OpenClaim := { program := "ytfhpigfoeejhlaa", sum := "8f6e9dc26623c44a2b9515c8bd2889736afca5f62ef020c139e806443e057ea0", func := "loop.example/g00478/laws.FnExactHmac", spec := "fnExactHmac", apart := false, narrowed := true }
def FnExactHmacUptoSaid : Prop := fnExactHmacUptoRow.holds Try.pinned (OpenSpec.upto fnExactHmacSpec)

/-- 'laws.FnExactExtract', WHERE WHAT IT READS IS OF BULK AT MOST 1048576: true; the input reads as it did. -/
def fnExactExtractUptoRow : OpenClaim := { program := "ytfhpigfoeejhlaa", sum := "8f6e9dc26623c44a2b9515c8bd2889736afca5f62ef020c139e806443e057ea0", func := "loop.example/g00478/laws.FnExactExtract", spec := "fnExactExtract", apart := false, narrowed := true }
def FnExactExtractUptoSaid : Prop := fnExactExtractUptoRow.holds Try.pinned (OpenSpec.upto fnExactExtractSpec)

/-- 'laws.FnExactTag', WHERE WHAT IT READS IS OF BULK AT MOST 1048576: true; the input reads as it did. -/
def fnExactTagUptoRow : OpenClaim := { program := "ytfhpigfoeejhlaa", sum := "8f6e9dc26623c44a2b9515c8bd2889736afca5f62ef020c139e806443e057ea0", func := "loop.example/g00478/laws.FnExactTag", spec := "fnExactTag", apart := false, narrowed := true }
def FnExactTagUptoSaid : Prop := fnExactTagUptoRow.holds Try.pinned (OpenSpec.upto fnExactTagSpec)

/-- 'laws.FnExactBlockOf', WHERE WHAT IT READS IS OF BULK AT MOST 1048576: true; the input reads as it did. -/
def fnExactBlockOfUptoRow : OpenClaim := { program := "ytfhpigfoeejhlaa", sum := "8f6e9dc26623c44a2b9515c8bd2889736afca5f62ef020c139e806443e057ea0", func := "loop.example/g00478/laws.FnExactBlockOf", spec := "fnExactBlockOf", apart := false, narrowed := true }
def FnExactBlockOfUptoSaid : Prop := fnExactBlockOfUptoRow.holds Try.pinned (OpenSpec.upto fnExactBlockOfSpec)

end Rows
end Go.Proofs.Ytfhpigfoeejhlaa
