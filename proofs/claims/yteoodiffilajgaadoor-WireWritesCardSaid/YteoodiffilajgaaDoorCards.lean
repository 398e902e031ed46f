/-
  DERIVED. GIVEN WITH THE SEED: THE CARDS: each row of YteoodiffilajgaaDoorRows.lean that lists a variable, with what it lists TIED to the program's text (the seventh form; the later family's looks); each row that meets fmt, with fmt's text TOLD by the authors' own Lean function (tested against real Go, not proved from fmt's source: count such statements apart). THE CARD IS WHAT COUNTS. Prove the row's statement (the work); the ties are given (YteoodiffilajgaaDoorTie.lean); close each card by the builder's one call (the guide's Derived/Test/ToyasCard.lean, 'card_holds'). Laid BY PROGRAM, IN A SANDBOX (cutbox-door.mjs). By AI agents, Wed Nov 11 2026. No macro, syntax, notation, axiom, sorry.
-/
import Derived.Test.YteoodiffilajgaaDoorRows
import GoSem.ClaimSeven
namespace Go.Proofs.YteoodiffilajgaaDoor
namespace Rows

/-- THE TIED CARD OF 'commonslaw1.WireCounts'. -/
def wireCountsCard : Claim7 := { stood := { row := wireCountsRow, standIns := [], harness := (true, "06aede65b172118b4a43bc6a1e0803de357510efa7c4b2724df0383a39cb0fcb"), looks := false }, kinds := [], alts := [], laidByText := true, laidKinds := [.data, .pinned], laidTests := true, laidLooks := .later }
def WireCountsCardSaid : Prop := Claim7.holds Tryd.pinned (.plain (OpenSpec.ofChange wireCountsSpec)) wireCountsCard

/-- THE TIED CARD OF 'commonslaw1.WireWrites'. -/
def wireWritesCard : Claim7 := { stood := { row := wireWritesRow, standIns := [], harness := (true, "06aede65b172118b4a43bc6a1e0803de357510efa7c4b2724df0383a39cb0fcb"), looks := false }, kinds := [], alts := [], laidByText := true, laidKinds := [.data, .pinned], laidTests := true, laidLooks := .later }
def WireWritesCardSaid : Prop := Claim7.holds Tryd.pinned (.plain (OpenSpec.ofChange wireWritesSpec)) wireWritesCard

/-- THE TIED CARD OF 'commonslaw1.WireDigits'. -/
def wireDigitsCard : Claim7 := { stood := { row := wireDigitsRow, standIns := [], harness := (true, "06aede65b172118b4a43bc6a1e0803de357510efa7c4b2724df0383a39cb0fcb"), looks := false }, kinds := [], alts := [], laidByText := true, laidKinds := [.data, .pinned], laidTests := true, laidLooks := .later }
def WireDigitsCardSaid : Prop := Claim7.holds Tryd.pinned (.plain (OpenSpec.ofChange wireDigitsSpec)) wireDigitsCard

/-- THE TIED CARD OF 'commonslaw1.WireReads'. -/
def wireReadsCard : Claim7 := { stood := { row := wireReadsRow, standIns := [], harness := (true, "06aede65b172118b4a43bc6a1e0803de357510efa7c4b2724df0383a39cb0fcb"), looks := false }, kinds := [], alts := [], laidByText := true, laidKinds := [.data, .pinned], laidTests := true, laidLooks := .later }
def WireReadsCardSaid : Prop := Claim7.holds Tryd.pinned (.plain (OpenSpec.ofChange wireReadsSpec)) wireReadsCard

/-- THE TIED CARD OF 'commonslaw1.WireFirst'. -/
def wireFirstCard : Claim7 := { stood := { row := wireFirstRow, standIns := [], harness := (true, "06aede65b172118b4a43bc6a1e0803de357510efa7c4b2724df0383a39cb0fcb"), looks := false }, kinds := [], alts := [], laidByText := true, laidKinds := [.data, .pinned], laidTests := true, laidLooks := .later }
def WireFirstCardSaid : Prop := Claim7.holds Tryd.pinned (.plain (OpenSpec.ofChange wireFirstSpec)) wireFirstCard

/-- THE TIED CARD OF 'commonslaw1.WireBack'. -/
def wireBackCard : Claim7 := { stood := { row := wireBackRow, standIns := [], harness := (true, "06aede65b172118b4a43bc6a1e0803de357510efa7c4b2724df0383a39cb0fcb"), looks := false }, kinds := [], alts := [], laidByText := true, laidKinds := [.data, .pinned], laidTests := true, laidLooks := .later }
def WireBackCardSaid : Prop := Claim7.holds Tryd.pinned (.plain (OpenSpec.ofChange wireBackSpec)) wireBackCard

/-- THE TIED CARD OF 'commonslaw1.WireSkips'. -/
def wireSkipsCard : Claim7 := { stood := { row := wireSkipsRow, standIns := [], harness := (true, "06aede65b172118b4a43bc6a1e0803de357510efa7c4b2724df0383a39cb0fcb"), looks := false }, kinds := [], alts := [], laidByText := true, laidKinds := [.data, .pinned], laidTests := true, laidLooks := .later }
def WireSkipsCardSaid : Prop := Claim7.holds Tryd.pinned (.plain (OpenSpec.ofChange wireSkipsSpec)) wireSkipsCard

/-- THE TIED CARD OF 'commonslaw1.WireNone'. -/
def wireNoneCard : Claim7 := { stood := { row := wireNoneRow, standIns := [], harness := (true, "06aede65b172118b4a43bc6a1e0803de357510efa7c4b2724df0383a39cb0fcb"), looks := false }, kinds := [], alts := [], laidByText := true, laidKinds := [.data, .pinned], laidTests := true, laidLooks := .later }
def WireNoneCardSaid : Prop := Claim7.holds Tryd.pinned (.plain (OpenSpec.ofChange wireNoneSpec)) wireNoneCard

/-- THE SECOND FORM's CARD OF 'commonslaw1.WireCounts'. -/
def wireCountsUptoCard : Claim7 := { stood := { row := wireCountsUptoRow, standIns := [], harness := (true, "06aede65b172118b4a43bc6a1e0803de357510efa7c4b2724df0383a39cb0fcb"), looks := false }, kinds := [], alts := [], laidByText := true, laidKinds := [.data, .pinned], laidTests := true, laidLooks := .later }
def WireCountsUptoCardSaid : Prop := Claim7.holds Tryd.pinned (.plain (OpenSpec.upto wireCountsSpec)) wireCountsUptoCard

/-- THE SECOND FORM's CARD OF 'commonslaw1.WireWrites'. -/
def wireWritesUptoCard : Claim7 := { stood := { row := wireWritesUptoRow, standIns := [], harness := (true, "06aede65b172118b4a43bc6a1e0803de357510efa7c4b2724df0383a39cb0fcb"), looks := false }, kinds := [], alts := [], laidByText := true, laidKinds := [.data, .pinned], laidTests := true, laidLooks := .later }
def WireWritesUptoCardSaid : Prop := Claim7.holds Tryd.pinned (.plain (OpenSpec.upto wireWritesSpec)) wireWritesUptoCard

/-- THE SECOND FORM's CARD OF 'commonslaw1.WireDigits'. -/
def wireDigitsUptoCard : Claim7 := { stood := { row := wireDigitsUptoRow, standIns := [], harness := (true, "06aede65b172118b4a43bc6a1e0803de357510efa7c4b2724df0383a39cb0fcb"), looks := false }, kinds := [], alts := [], laidByText := true, laidKinds := [.data, .pinned], laidTests := true, laidLooks := .later }
def WireDigitsUptoCardSaid : Prop := Claim7.holds Tryd.pinned (.plain (OpenSpec.upto wireDigitsSpec)) wireDigitsUptoCard

/-- THE SECOND FORM's CARD OF 'commonslaw1.WireReads'. -/
def wireReadsUptoCard : Claim7 := { stood := { row := wireReadsUptoRow, standIns := [], harness := (true, "06aede65b172118b4a43bc6a1e0803de357510efa7c4b2724df0383a39cb0fcb"), looks := false }, kinds := [], alts := [], laidByText := true, laidKinds := [.data, .pinned], laidTests := true, laidLooks := .later }
def WireReadsUptoCardSaid : Prop := Claim7.holds Tryd.pinned (.plain (OpenSpec.upto wireReadsSpec)) wireReadsUptoCard

/-- THE SECOND FORM's CARD OF 'commonslaw1.WireFirst'. -/
def wireFirstUptoCard : Claim7 := { stood := { row := wireFirstUptoRow, standIns := [], harness := (true, "06aede65b172118b4a43bc6a1e0803de357510efa7c4b2724df0383a39cb0fcb"), looks := false }, kinds := [], alts := [], laidByText := true, laidKinds := [.data, .pinned], laidTests := true, laidLooks := .later }
def WireFirstUptoCardSaid : Prop := Claim7.holds Tryd.pinned (.plain (OpenSpec.upto wireFirstSpec)) wireFirstUptoCard

/-- THE SECOND FORM's CARD OF 'commonslaw1.WireBack'. -/
def wireBackUptoCard : Claim7 := { stood := { row := wireBackUptoRow, standIns := [], harness := (true, "06aede65b172118b4a43bc6a1e0803de357510efa7c4b2724df0383a39cb0fcb"), looks := false }, kinds := [], alts := [], laidByText := true, laidKinds := [.data, .pinned], laidTests := true, laidLooks := .later }
def WireBackUptoCardSaid : Prop := Claim7.holds Tryd.pinned (.plain (OpenSpec.upto wireBackSpec)) wireBackUptoCard

/-- THE SECOND FORM's CARD OF 'commonslaw1.WireSkips'. -/
def wireSkipsUptoCard : Claim7 := { stood := { row := wireSkipsUptoRow, standIns := [], harness := (true, "06aede65b172118b4a43bc6a1e0803de357510efa7c4b2724df0383a39cb0fcb"), looks := false }, kinds := [], alts := [], laidByText := true, laidKinds := [.data, .pinned], laidTests := true, laidLooks := .later }
def WireSkipsUptoCardSaid : Prop := Claim7.holds Tryd.pinned (.plain (OpenSpec.upto wireSkipsSpec)) wireSkipsUptoCard

/-- THE SECOND FORM's CARD OF 'commonslaw1.WireNone'. -/
def wireNoneUptoCard : Claim7 := { stood := { row := wireNoneUptoRow, standIns := [], harness := (true, "06aede65b172118b4a43bc6a1e0803de357510efa7c4b2724df0383a39cb0fcb"), looks := false }, kinds := [], alts := [], laidByText := true, laidKinds := [.data, .pinned], laidTests := true, laidLooks := .later }
def WireNoneUptoCardSaid : Prop := Claim7.holds Tryd.pinned (.plain (OpenSpec.upto wireNoneSpec)) wireNoneUptoCard
end Rows
end Go.Proofs.YteoodiffilajgaaDoor
