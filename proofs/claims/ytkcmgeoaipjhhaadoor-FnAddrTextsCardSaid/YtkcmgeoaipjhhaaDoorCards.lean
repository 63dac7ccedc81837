/-
  DERIVED. GIVEN WITH THE SEED: THE CARDS: each row of YtkcmgeoaipjhhaaDoorRows.lean that lists a variable, with what it lists TIED to the program's text (the seventh form; the later family's looks); each row that meets fmt, with fmt's text TOLD by the authors' own Lean function (tested against real Go, not proved from fmt's source: count such statements apart). THE CARD IS WHAT COUNTS. Prove the row's statement (the work); the ties are given (YtkcmgeoaipjhhaaDoorTie.lean); close each card by the builder's one call (the guide's Derived/Test/ToyasCard.lean, 'card_holds'). Laid BY PROGRAM, IN A SANDBOX (cutbox-door.mjs). By AI agents, Wed Nov 11 2026. No macro, syntax, notation, axiom, sorry.
-/
import Derived.Test.YtkcmgeoaipjhhaaDoorRows
import GoSem.ClaimSeven
namespace Go.Proofs.YtkcmgeoaipjhhaaDoor
namespace Rows

/-- THE TIED CARD OF 'laws.FnExactParseAddr'. -/
def fnExactParseAddrCard : Claim7 := { stood := { row := fnExactParseAddrRow, standIns := [], harness := (true, "23f0aea9858637e81568d45c7873747936f0f1718db8a2ba82eb9c1e50269e9e"), looks := true }, kinds := [], alts := [], laidByText := true, laidKinds := [.data, .data, .data, .data, .sentinel, .sentinel, .pinned], laidTests := true, laidLooks := .later }
def FnExactParseAddrCardSaid : Prop := Claim7.holds Tryd.pinned (.plain (OpenSpec.ofChange fnExactParseAddrSpec)) fnExactParseAddrCard

/-- THE TIED CARD OF 'laws.FnAddrs'. -/
def fnAddrsCard : Claim7 := { stood := { row := fnAddrsRow, standIns := [], harness := (true, "23f0aea9858637e81568d45c7873747936f0f1718db8a2ba82eb9c1e50269e9e"), looks := true }, kinds := [], alts := [], laidByText := true, laidKinds := [.data, .data, .data, .data, .sentinel, .sentinel, .pinned], laidTests := true, laidLooks := .later }
def FnAddrsCardSaid : Prop := Claim7.holds Tryd.pinned (.plain (OpenSpec.ofChange fnAddrsSpec)) fnAddrsCard

/-- THE TIED CARD OF 'laws.FnAddrTexts'. -/
def fnAddrTextsCard : Claim7 := { stood := { row := fnAddrTextsRow, standIns := [], harness := (true, "23f0aea9858637e81568d45c7873747936f0f1718db8a2ba82eb9c1e50269e9e"), looks := true }, kinds := [], alts := [], laidByText := true, laidKinds := [.data, .data, .data, .data, .sentinel, .sentinel, .pinned], laidTests := true, laidLooks := .later }
def FnAddrTextsCardSaid : Prop := Claim7.holds Tryd.pinned (.plain (OpenSpec.ofChange fnAddrTextsSpec)) fnAddrTextsCard

/-- THE TIED CARD OF 'laws.FnExactAddrText'. -/
def fnExactAddrTextCard : Claim7 := { stood := { row := fnExactAddrTextRow, standIns := [], harness := (true, "23f0aea9858637e81568d45c7873747936f0f1718db8a2ba82eb9c1e50269e9e"), looks := true }, kinds := [], alts := [], laidByText := true, laidKinds := [.data, .data, .data], laidTests := true, laidLooks := .later }
def FnExactAddrTextCardSaid : Prop := Claim7.holds Tryd.pinned (.plain (OpenSpec.ofChange fnExactAddrTextSpec)) fnExactAddrTextCard

/-- THE SECOND FORM's CARD OF 'laws.FnExactParseAddr'. -/
def fnExactParseAddrUptoCard : Claim7 := { stood := { row := fnExactParseAddrUptoRow, standIns := [], harness := (true, "23f0aea9858637e81568d45c7873747936f0f1718db8a2ba82eb9c1e50269e9e"), looks := true }, kinds := [], alts := [], laidByText := true, laidKinds := [.data, .data, .data, .data, .sentinel, .sentinel, .pinned], laidTests := true, laidLooks := .later }
def FnExactParseAddrUptoCardSaid : Prop := Claim7.holds Tryd.pinned (.plain (OpenSpec.upto fnExactParseAddrSpec)) fnExactParseAddrUptoCard

/-- THE SECOND FORM's CARD OF 'laws.FnAddrs'. -/
def fnAddrsUptoCard : Claim7 := { stood := { row := fnAddrsUptoRow, standIns := [], harness := (true, "23f0aea9858637e81568d45c7873747936f0f1718db8a2ba82eb9c1e50269e9e"), looks := true }, kinds := [], alts := [], laidByText := true, laidKinds := [.data, .data, .data, .data, .sentinel, .sentinel, .pinned], laidTests := true, laidLooks := .later }
def FnAddrsUptoCardSaid : Prop := Claim7.holds Tryd.pinned (.plain (OpenSpec.upto fnAddrsSpec)) fnAddrsUptoCard

/-- THE SECOND FORM's CARD OF 'laws.FnAddrTexts'. -/
def fnAddrTextsUptoCard : Claim7 := { stood := { row := fnAddrTextsUptoRow, standIns := [], harness := (true, "23f0aea9858637e81568d45c7873747936f0f1718db8a2ba82eb9c1e50269e9e"), looks := true }, kinds := [], alts := [], laidByText := true, laidKinds := [.data, .data, .data, .data, .sentinel, .sentinel, .pinned], laidTests := true, laidLooks := .later }
def FnAddrTextsUptoCardSaid : Prop := Claim7.holds Tryd.pinned (.plain (OpenSpec.upto fnAddrTextsSpec)) fnAddrTextsUptoCard

/-- THE SECOND FORM's CARD OF 'laws.FnExactAddrText'. -/
def fnExactAddrTextUptoCard : Claim7 := { stood := { row := fnExactAddrTextUptoRow, standIns := [], harness := (true, "23f0aea9858637e81568d45c7873747936f0f1718db8a2ba82eb9c1e50269e9e"), looks := true }, kinds := [], alts := [], laidByText := true, laidKinds := [.data, .data, .data], laidTests := true, laidLooks := .later }
def FnExactAddrTextUptoCardSaid : Prop := Claim7.holds Tryd.pinned (.plain (OpenSpec.upto fnExactAddrTextSpec)) fnExactAddrTextUptoCard
end Rows
end Go.Proofs.YtkcmgeoaipjhhaaDoor
