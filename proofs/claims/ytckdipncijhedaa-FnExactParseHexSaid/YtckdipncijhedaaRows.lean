/-
  No cell of these rows narrows 'for every input' (looked for: loops, veiled, ifaces, maps, wideKeys, modest, calm, conditions, laid).
  DERIVED. THE GIVEN ROWS OF THIS SEAT. 12 by the template 'for every input the law returns true; each argument reads behind the call as it read before'; 0 by the template 'total and deterministic' (their statements: YtckdipncijhedaaTotals.lean).
  GIVEN WITH THE SEED: the statements are not yours to turn. If you find one false, say at which input.
  Laid BY PROGRAM, IN A SANDBOX (cutbox-rows.mjs): the forced cells as the released guide's own fill.sh prints them over the translation cf9d48d77399e85b… (all of the seat's roots in one cut). By AI agents, Wed Nov 11 2026. No macro, syntax, notation, axiom, sorry.
-/
import Derived.Test.YtckdipncijhedaaChecked
import GoSem.Claim
import GoSem.ClaimJoined
import GoSem.ClaimMapViews
import Derived.JoinedTies
import Derived.KernelRfl
namespace Go.Proofs.Ytckdipncijhedaa
/- THE CELL 'sum', in the pinned program and in every row, IS THE sha256 OF THE DUMP (.gsa) THAT YtckdipncijhedaaProg.lean LOADS. Nothing in Lean hashes anything: it is a label: what it is worth is what the hold of that sum in a sandbox is worth. -/
noncomputable def Try.pinned : Pinned := { name := "ytckdipncijhedaa", sum := "cf9d48d77399e85b5f99db07f32bb0998ea3ac4286783971207143980f4822c5", checked := Try.checked }
namespace Rows
def none {H : Type} : Left H := { results := [], args := [] }

/-- 'laws.FnExactSameTag': WHATEVER THE INPUT: true; the input reads as it did. -/
def fnExactSameTagSpec : ChangeSpec := { name := "fnExactSameTag", fn := fun _ => fun
  | [d1, d2] => { results := [.lit (.bool true)], args := [d1, d2] }
  | _ => none }
def fnExactSameTagRow : OpenClaim := { program := "ytckdipncijhedaa", sum := "cf9d48d77399e85b5f99db07f32bb0998ea3ac4286783971207143980f4822c5", func := "loop.example/g00478/laws.FnExactSameTag", spec := "fnExactSameTag", apart := false }
def FnExactSameTagSaid : Prop := fnExactSameTagRow.holds Try.pinned (OpenSpec.ofChange fnExactSameTagSpec)

/-- ITS FALSE NEIGHBOUR: 'it returns false'. Refute it at one input. -/
def fnExactSameTagWrong : ChangeSpec := { name := "fnExactSameTag", fn := fun _ => fun
  | [d1, d2] => { results := [.lit (.bool false)], args := [d1, d2] }
  | _ => none }
def FnExactSameTagWrongFalsely : Prop := fnExactSameTagRow.holds Try.pinned (OpenSpec.ofChange fnExactSameTagWrong)

/-- 'laws.FnExactCut': WHATEVER THE INPUT: true; the input reads as it did. -/
def fnExactCutSpec : ChangeSpec := { name := "fnExactCut", fn := fun _ => fun
  | [d1, d2, d3] => { results := [.lit (.bool true)], args := [d1, d2, d3] }
  | _ => none }
def fnExactCutRow : OpenClaim := { program := "ytckdipncijhedaa", sum := "cf9d48d77399e85b5f99db07f32bb0998ea3ac4286783971207143980f4822c5", func := "loop.example/g00478/laws.FnExactCut", spec := "fnExactCut", apart := false }
def FnExactCutSaid : Prop := fnExactCutRow.holds Try.pinned (OpenSpec.ofChange fnExactCutSpec)

/-- ITS FALSE NEIGHBOUR: 'it returns false'. Refute it at one input. -/
def fnExactCutWrong : ChangeSpec := { name := "fnExactCut", fn := fun _ => fun
  | [d1, d2, d3] => { results := [.lit (.bool false)], args := [d1, d2, d3] }
  | _ => none }
def FnExactCutWrongFalsely : Prop := fnExactCutRow.holds Try.pinned (OpenSpec.ofChange fnExactCutWrong)

/-- 'laws.FnExactGetN': WHATEVER THE INPUT: true; the input reads as it did. -/
def fnExactGetNSpec : ChangeSpec := { name := "fnExactGetN", fn := fun _ => fun
  | [d1, d2, d3] => { results := [.lit (.bool true)], args := [d1, d2, d3] }
  | _ => none }
def fnExactGetNRow : OpenClaim := { program := "ytckdipncijhedaa", sum := "cf9d48d77399e85b5f99db07f32bb0998ea3ac4286783971207143980f4822c5", func := "loop.example/g00478/laws.FnExactGetN", spec := "fnExactGetN", apart := false }
def FnExactGetNSaid : Prop := fnExactGetNRow.holds Try.pinned (OpenSpec.ofChange fnExactGetNSpec)

/-- ITS FALSE NEIGHBOUR: 'it returns false'. Refute it at one input. -/
def fnExactGetNWrong : ChangeSpec := { name := "fnExactGetN", fn := fun _ => fun
  | [d1, d2, d3] => { results := [.lit (.bool false)], args := [d1, d2, d3] }
  | _ => none }
def FnExactGetNWrongFalsely : Prop := fnExactGetNRow.holds Try.pinned (OpenSpec.ofChange fnExactGetNWrong)

/-- 'laws.FnExactPutN': WHATEVER THE INPUT: true; the input reads as it did. -/
def fnExactPutNSpec : ChangeSpec := { name := "fnExactPutN", fn := fun _ => fun
  | [d1, d2, d3] => { results := [.lit (.bool true)], args := [d1, d2, d3] }
  | _ => none }
def fnExactPutNRow : OpenClaim := { program := "ytckdipncijhedaa", sum := "cf9d48d77399e85b5f99db07f32bb0998ea3ac4286783971207143980f4822c5", func := "loop.example/g00478/laws.FnExactPutN", spec := "fnExactPutN", apart := false }
def FnExactPutNSaid : Prop := fnExactPutNRow.holds Try.pinned (OpenSpec.ofChange fnExactPutNSpec)

/-- ITS FALSE NEIGHBOUR: 'it returns false'. Refute it at one input. -/
def fnExactPutNWrong : ChangeSpec := { name := "fnExactPutN", fn := fun _ => fun
  | [d1, d2, d3] => { results := [.lit (.bool false)], args := [d1, d2, d3] }
  | _ => none }
def FnExactPutNWrongFalsely : Prop := fnExactPutNRow.holds Try.pinned (OpenSpec.ofChange fnExactPutNWrong)

/-- 'laws.FnRots': WHATEVER THE INPUT: true; the input reads as it did. -/
def fnRotsSpec : ChangeSpec := { name := "fnRots", fn := fun _ => fun
  | [d] => { results := [.lit (.bool true)], args := [d] }
  | _ => none }
def fnRotsRow : OpenClaim := { program := "ytckdipncijhedaa", sum := "cf9d48d77399e85b5f99db07f32bb0998ea3ac4286783971207143980f4822c5", func := "loop.example/g00478/laws.FnRots", spec := "fnRots", apart := false }
def FnRotsSaid : Prop := fnRotsRow.holds Try.pinned (OpenSpec.ofChange fnRotsSpec)

/-- ITS FALSE NEIGHBOUR: 'it returns false'. Refute it at one input. -/
def fnRotsWrong : ChangeSpec := { name := "fnRots", fn := fun _ => fun
  | [d] => { results := [.lit (.bool false)], args := [d] }
  | _ => none }
def FnRotsWrongFalsely : Prop := fnRotsRow.holds Try.pinned (OpenSpec.ofChange fnRotsWrong)

/-- 'laws.FnExactPad': WHATEVER THE INPUT: true; the input reads as it did. -/
def fnExactPadSpec : ChangeSpec := { name := "fnExactPad", fn := fun _ => fun
  | [d] => { results := [.lit (.bool true)], args := [d] }
  | _ => none }
def fnExactPadRow : OpenClaim := { program := "ytckdipncijhedaa", sum := "cf9d48d77399e85b5f99db07f32bb0998ea3ac4286783971207143980f4822c5", func := "loop.example/g00478/laws.FnExactPad", spec := "fnExactPad", apart := false }
def FnExactPadSaid : Prop := fnExactPadRow.holds Try.pinned (OpenSpec.ofChange fnExactPadSpec)

/-- ITS FALSE NEIGHBOUR: 'it returns false'. Refute it at one input. -/
def fnExactPadWrong : ChangeSpec := { name := "fnExactPad", fn := fun _ => fun
  | [d] => { results := [.lit (.bool false)], args := [d] }
  | _ => none }
def FnExactPadWrongFalsely : Prop := fnExactPadRow.holds Try.pinned (OpenSpec.ofChange fnExactPadWrong)

/-- 'laws.FnExactParseHex': WHATEVER THE INPUT: true; the input reads as it did. -/
def fnExactParseHexSpec : ChangeSpec := { name := "fnExactParseHex", fn := fun _ => fun
  | [d] => { results := [.lit (.bool true)], args := [d] }
  | _ => none }
def fnExactParseHexRow : OpenClaim := { program := "ytckdipncijhedaa", sum := "cf9d48d77399e85b5f99db07f32bb0998ea3ac4286783971207143980f4822c5", func := "loop.example/g00478/laws.FnExactParseHex", spec := "fnExactParseHex", apart := false }
def FnExactParseHexSaid : Prop := fnExactParseHexRow.holds Try.pinned (OpenSpec.ofChange fnExactParseHexSpec)

/-- ITS FALSE NEIGHBOUR: 'it returns false'. Refute it at one input. -/
def fnExactParseHexWrong : ChangeSpec := { name := "fnExactParseHex", fn := fun _ => fun
  | [d] => { results := [.lit (.bool false)], args := [d] }
  | _ => none }
def FnExactParseHexWrongFalsely : Prop := fnExactParseHexRow.holds Try.pinned (OpenSpec.ofChange fnExactParseHexWrong)

/-- 'laws.FnExactGetAddr': WHATEVER THE INPUT: true; the input reads as it did. -/
def fnExactGetAddrSpec : ChangeSpec := { name := "fnExactGetAddr", fn := fun _ => fun
  | [d1, d2] => { results := [.lit (.bool true)], args := [d1, d2] }
  | _ => none }
def fnExactGetAddrRow : OpenClaim := { program := "ytckdipncijhedaa", sum := "cf9d48d77399e85b5f99db07f32bb0998ea3ac4286783971207143980f4822c5", func := "loop.example/g00478/laws.FnExactGetAddr", spec := "fnExactGetAddr", apart := false }
def FnExactGetAddrSaid : Prop := fnExactGetAddrRow.holds Try.pinned (OpenSpec.ofChange fnExactGetAddrSpec)

/-- ITS FALSE NEIGHBOUR: 'it returns false'. Refute it at one input. -/
def fnExactGetAddrWrong : ChangeSpec := { name := "fnExactGetAddr", fn := fun _ => fun
  | [d1, d2] => { results := [.lit (.bool false)], args := [d1, d2] }
  | _ => none }
def FnExactGetAddrWrongFalsely : Prop := fnExactGetAddrRow.holds Try.pinned (OpenSpec.ofChange fnExactGetAddrWrong)

/-- 'laws.FnExactPutAddr': WHATEVER THE INPUT: true; the input reads as it did. -/
def fnExactPutAddrSpec : ChangeSpec := { name := "fnExactPutAddr", fn := fun _ => fun
  | [d1, d2] => { results := [.lit (.bool true)], args := [d1, d2] }
  | _ => none }
def fnExactPutAddrRow : OpenClaim := { program := "ytckdipncijhedaa", sum := "cf9d48d77399e85b5f99db07f32bb0998ea3ac4286783971207143980f4822c5", func := "loop.example/g00478/laws.FnExactPutAddr", spec := "fnExactPutAddr", apart := false }
def FnExactPutAddrSaid : Prop := fnExactPutAddrRow.holds Try.pinned (OpenSpec.ofChange fnExactPutAddrSpec)

/-- ITS FALSE NEIGHBOUR: 'it returns false'. Refute it at one input. -/
def fnExactPutAddrWrong : ChangeSpec := { name := "fnExactPutAddr", fn := fun _ => fun
  | [d1, d2] => { results := [.lit (.bool false)], args := [d1, d2] }
  | _ => none }
def FnExactPutAddrWrongFalsely : Prop := fnExactPutAddrRow.holds Try.pinned (OpenSpec.ofChange fnExactPutAddrWrong)

/-- 'laws.FnPads': WHATEVER THE INPUT: true; the input reads as it did. -/
def fnPadsSpec : ChangeSpec := { name := "fnPads", fn := fun _ => fun
  | [d] => { results := [.lit (.bool true)], args := [d] }
  | _ => none }
def fnPadsRow : OpenClaim := { program := "ytckdipncijhedaa", sum := "cf9d48d77399e85b5f99db07f32bb0998ea3ac4286783971207143980f4822c5", func := "loop.example/g00478/laws.FnPads", spec := "fnPads", apart := false }
def FnPadsSaid : Prop := fnPadsRow.holds Try.pinned (OpenSpec.ofChange fnPadsSpec)

/-- ITS FALSE NEIGHBOUR: 'it returns false'. Refute it at one input. -/
def fnPadsWrong : ChangeSpec := { name := "fnPads", fn := fun _ => fun
  | [d] => { results := [.lit (.bool false)], args := [d] }
  | _ => none }
def FnPadsWrongFalsely : Prop := fnPadsRow.holds Try.pinned (OpenSpec.ofChange fnPadsWrong)

/-- 'laws.FnExactHashNew': WHATEVER THE INPUT: true; the input reads as it did. -/
def fnExactHashNewSpec : ChangeSpec := { name := "fnExactHashNew", fn := fun _ => fun
  | [] => { results := [.lit (.bool true)], args := [] }
  | _ => none }
def fnExactHashNewRow : OpenClaim := { program := "ytckdipncijhedaa", sum := "cf9d48d77399e85b5f99db07f32bb0998ea3ac4286783971207143980f4822c5", func := "loop.example/g00478/laws.FnExactHashNew", spec := "fnExactHashNew", apart := false }
def FnExactHashNewSaid : Prop := fnExactHashNewRow.holds Try.pinned (OpenSpec.ofChange fnExactHashNewSpec)

/-- ITS FALSE NEIGHBOUR: 'it returns false'. Refute it at one input. -/
def fnExactHashNewWrong : ChangeSpec := { name := "fnExactHashNew", fn := fun _ => fun
  | [] => { results := [.lit (.bool false)], args := [] }
  | _ => none }
def FnExactHashNewWrongFalsely : Prop := fnExactHashNewRow.holds Try.pinned (OpenSpec.ofChange fnExactHashNewWrong)

/-- 'laws.FnNumbers': WHATEVER THE INPUT: true; the input reads as it did. -/
def fnNumbersSpec : ChangeSpec := { name := "fnNumbers", fn := fun _ => fun
  | [d] => { results := [.lit (.bool true)], args := [d] }
  | _ => none }
def fnNumbersRow : OpenClaim := { program := "ytckdipncijhedaa", sum := "cf9d48d77399e85b5f99db07f32bb0998ea3ac4286783971207143980f4822c5", func := "loop.example/g00478/laws.FnNumbers", spec := "fnNumbers", apart := false }
def FnNumbersSaid : Prop := fnNumbersRow.holds Try.pinned (OpenSpec.ofChange fnNumbersSpec)

/-- ITS FALSE NEIGHBOUR: 'it returns false'. Refute it at one input. -/
def fnNumbersWrong : ChangeSpec := { name := "fnNumbers", fn := fun _ => fun
  | [d] => { results := [.lit (.bool false)], args := [d] }
  | _ => none }
def FnNumbersWrongFalsely : Prop := fnNumbersRow.holds Try.pinned (OpenSpec.ofChange fnNumbersWrong)

/- THE SECOND FORM. 'bulk': how many values and letters a reading holds, each counted each time it is reached (what is shared counts as often as it is met; a slice's spare places count too). A statement '..UptoSaid' is the law's where the arguments, and the package variables that the reading takes, are together of bulk at most 1048576: NARROWER than '..Said'. Prove '..Said' where nothing that the law and all that it calls make is longer than what came in: it says more and counts as full. Else prove '..UptoSaid'. A law counts once. -/
mutual
def uptoBulk {H : Type} : DataW H → Nat
  | .lit (.string bytes) => bytes.length + 1
  | .lit _ => 1
  | .nil => 1
  | .ptr d => uptoBulk d + 1
  | .slice elems spare => uptoBulkAll elems + uptoBulkAll spare + 1
  | .agg parts => uptoBulkAll parts + 1
  | .iface _ d => uptoBulk d + 1
  | .map entries => uptoBulkEntries entries + 1
  | .held _ => 1
def uptoBulkAll {H : Type} : List (DataW H) → Nat
  | [] => 0
  | d :: r => uptoBulk d + uptoBulkAll r
def uptoBulkEntries {H : Type} : List (Lit × DataW H) → Nat
  | [] => 0
  | x :: r => uptoBulkEntry x + uptoBulkEntries r
def uptoBulkEntry {H : Type} : Lit × DataW H → Nat
  | (.string bytes, d) => bytes.length + uptoBulk d + 1
  | (_, d) => uptoBulk d + 1
 end
def uptoSmall : (H : Type) → List (DataW H) → Bool := fun _ ds => decide (uptoBulkAll ds ≤ 1048576)
def OpenSpec.upto (s : _root_.Go.ChangeSpec) : _root_.Go.OpenSpec := { _root_.Go.OpenSpec.ofChange s with cond := some uptoSmall }

/-- 'laws.FnExactSameTag', WHERE WHAT IT READS IS OF BULK AT MOST 1048576: true; the input reads as it did. -/
def fnExactSameTagUptoRow : OpenClaim := { program := "ytckdipncijhedaa", sum := "cf9d48d77399e85b5f99db07f32bb0998ea3ac4286783971207143980f4822c5", func := "loop.example/g00478/laws.FnExactSameTag", spec := "fnExactSameTag", apart := false, narrowed := true }
def FnExactSameTagUptoSaid : Prop := fnExactSameTagUptoRow.holds Try.pinned (OpenSpec.upto fnExactSameTagSpec)

/-- 'laws.FnExactCut', WHERE WHAT IT READS IS OF BULK AT MOST 1048576: true; the input reads as it did. -/
def fnExactCutUptoRow : OpenClaim := { program := "ytckdipncijhedaa", sum := "cf9d48d77399e85b5f99db07f32bb0998ea3ac4286783971207143980f4822c5", func := "loop.example/g00478/laws.FnExactCut", spec := "fnExactCut", apart := false, narrowed := true }
def FnExactCutUptoSaid : Prop := fnExactCutUptoRow.holds Try.pinned (OpenSpec.upto fnExactCutSpec)

/-- 'laws.FnExactGetN', WHERE WHAT IT READS IS OF BULK AT MOST 1048576: true; the input reads as it did. -/
def fnExactGetNUptoRow : OpenClaim := { program := "ytckdipncijhedaa", sum := "cf9d48d77399e85b5f99db07f32bb0998ea3ac4286783971207143980f4822c5", func := "loop.example/g00478/laws.FnExactGetN", spec := "fnExactGetN", apart := false, narrowed := true }
def FnExactGetNUptoSaid : Prop := fnExactGetNUptoRow.holds Try.pinned (OpenSpec.upto fnExactGetNSpec)

/-- 'laws.FnExactPutN', WHERE WHAT IT READS IS OF BULK AT MOST 1048576: true; the input reads as it did. -/
def fnExactPutNUptoRow : OpenClaim := { program := "ytckdipncijhedaa", sum := "cf9d48d77399e85b5f99db07f32bb0998ea3ac4286783971207143980f4822c5", func := "loop.example/g00478/laws.FnExactPutN", spec := "fnExactPutN", apart := false, narrowed := true }
def FnExactPutNUptoSaid : Prop := fnExactPutNUptoRow.holds Try.pinned (OpenSpec.upto fnExactPutNSpec)

/-- 'laws.FnRots', WHERE WHAT IT READS IS OF BULK AT MOST 1048576: true; the input reads as it did. -/
def fnRotsUptoRow : OpenClaim := { program := "ytckdipncijhedaa", sum := "cf9d48d77399e85b5f99db07f32bb0998ea3ac4286783971207143980f4822c5", func := "loop.example/g00478/laws.FnRots", spec := "fnRots", apart := false, narrowed := true }
def FnRotsUptoSaid : Prop := fnRotsUptoRow.holds Try.pinned (OpenSpec.upto fnRotsSpec)

/-- 'laws.FnExactPad', WHERE WHAT IT READS IS OF BULK AT MOST 1048576: true; the input reads as it did. -/
def fnExactPadUptoRow : OpenClaim := { program := "ytckdipncijhedaa", sum := "cf9d48d77399e85b5f99db07f32bb0998ea3ac4286783971207143980f4822c5", func := "loop.example/g00478/laws.FnExactPad", spec := "fnExactPad", apart := false, narrowed := true }
def FnExactPadUptoSaid : Prop := fnExactPadUptoRow.holds Try.pinned (OpenSpec.upto fnExactPadSpec)

/-- 'laws.FnExactParseHex', WHERE WHAT IT READS IS OF BULK AT MOST 1048576: true; the input reads as it did. -/
def fnExactParseHexUptoRow : OpenClaim := { program := "ytckdipncijhedaa", sum := "cf9d48d77399e85b5f99db07f32bb0998ea3ac4286783971207143980f4822c5", func := "loop.example/g00478/laws.FnExactParseHex", spec := "fnExactParseHex", apart := false, narrowed := true }
def FnExactParseHexUptoSaid : Prop := fnExactParseHexUptoRow.holds Try.pinned (OpenSpec.upto fnExactParseHexSpec)

/-- 'laws.FnExactGetAddr', WHERE WHAT IT READS IS OF BULK AT MOST 1048576: true; the input reads as it did. -/
def fnExactGetAddrUptoRow : OpenClaim := { program := "ytckdipncijhedaa", sum := "cf9d48d77399e85b5f99db07f32bb0998ea3ac4286783971207143980f4822c5", func := "loop.example/g00478/laws.FnExactGetAddr", spec := "fnExactGetAddr", apart := false, narrowed := true }
def FnExactGetAddrUptoSaid : Prop := fnExactGetAddrUptoRow.holds Try.pinned (OpenSpec.upto fnExactGetAddrSpec)

/-- 'laws.FnExactPutAddr', WHERE WHAT IT READS IS OF BULK AT MOST 1048576: true; the input reads as it did. -/
def fnExactPutAddrUptoRow : OpenClaim := { program := "ytckdipncijhedaa", sum := "cf9d48d77399e85b5f99db07f32bb0998ea3ac4286783971207143980f4822c5", func := "loop.example/g00478/laws.FnExactPutAddr", spec := "fnExactPutAddr", apart := false, narrowed := true }
def FnExactPutAddrUptoSaid : Prop := fnExactPutAddrUptoRow.holds Try.pinned (OpenSpec.upto fnExactPutAddrSpec)

/-- 'laws.FnPads', WHERE WHAT IT READS IS OF BULK AT MOST 1048576: true; the input reads as it did. -/
def fnPadsUptoRow : OpenClaim := { program := "ytckdipncijhedaa", sum := "cf9d48d77399e85b5f99db07f32bb0998ea3ac4286783971207143980f4822c5", func := "loop.example/g00478/laws.FnPads", spec := "fnPads", apart := false, narrowed := true }
def FnPadsUptoSaid : Prop := fnPadsUptoRow.holds Try.pinned (OpenSpec.upto fnPadsSpec)

/-- 'laws.FnExactHashNew', WHERE WHAT IT READS IS OF BULK AT MOST 1048576: true; the input reads as it did. -/
def fnExactHashNewUptoRow : OpenClaim := { program := "ytckdipncijhedaa", sum := "cf9d48d77399e85b5f99db07f32bb0998ea3ac4286783971207143980f4822c5", func := "loop.example/g00478/laws.FnExactHashNew", spec := "fnExactHashNew", apart := false, narrowed := true }
def FnExactHashNewUptoSaid : Prop := fnExactHashNewUptoRow.holds Try.pinned (OpenSpec.upto fnExactHashNewSpec)

/-- 'laws.FnNumbers', WHERE WHAT IT READS IS OF BULK AT MOST 1048576: true; the input reads as it did. -/
def fnNumbersUptoRow : OpenClaim := { program := "ytckdipncijhedaa", sum := "cf9d48d77399e85b5f99db07f32bb0998ea3ac4286783971207143980f4822c5", func := "loop.example/g00478/laws.FnNumbers", spec := "fnNumbers", apart := false, narrowed := true }
def FnNumbersUptoSaid : Prop := fnNumbersUptoRow.holds Try.pinned (OpenSpec.upto fnNumbersSpec)

end Rows
end Go.Proofs.Ytckdipncijhedaa
