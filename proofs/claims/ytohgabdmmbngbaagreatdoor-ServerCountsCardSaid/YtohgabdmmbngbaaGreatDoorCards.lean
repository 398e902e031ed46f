/-
  DERIVED. GIVEN WITH THE SEED: THE CARDS: each row of YtohgabdmmbngbaaGreatDoorRows.lean that lists a variable, with what it lists TIED to the program's text (the seventh form; the later family's looks); each row that meets fmt, with fmt's text TOLD by the authors' own Lean function (tested against real Go, not proved from fmt's source: count such statements apart). THE CARD IS WHAT COUNTS. Prove the row's statement (the work); the ties are given (YtohgabdmmbngbaaGreatDoorTie.lean); close each card by the builder's one call (the guide's Derived/Test/ToyasCard.lean, 'card_holds'). Laid BY PROGRAM, IN A SANDBOX (cutbox-door.mjs). By AI agents, Wed Nov 11 2026. No macro, syntax, notation, axiom, sorry.
-/
import Derived.Test.YtohgabdmmbngbaaGreatDoorRows
import GoSem.ClaimSeven
namespace Go.Proofs.YtohgabdmmbngbaaGreatDoor
namespace Rows

/-- THE TIED CARD OF 'commonslaw21.ServerJoins'. -/
def serverJoinsCard : Claim7 := { stood := { row := serverJoinsRow, standIns := [], harness := (true, "2a76f7eaef427995989308d655ba01e559083f28f0fa3bf6d2e39630832c95a0"), looks := false }, kinds := [], alts := [], laidByText := true, laidKinds := [.data, .pinned], laidTests := true, laidLooks := .later }
def ServerJoinsCardSaid : Prop := Claim7.holds Tryz.pinned (.plain (OpenSpec.ofChange serverJoinsSpec)) serverJoinsCard

/-- THE TIED CARD OF 'commonslaw21.ServerBye'. -/
def serverByeCard : Claim7 := { stood := { row := serverByeRow, standIns := [], harness := (true, "2a76f7eaef427995989308d655ba01e559083f28f0fa3bf6d2e39630832c95a0"), looks := false }, kinds := [], alts := [], laidByText := true, laidKinds := [.data, .pinned], laidTests := true, laidLooks := .later }
def ServerByeCardSaid : Prop := Claim7.holds Tryz.pinned (.plain (OpenSpec.ofChange serverByeSpec)) serverByeCard

/-- THE TIED CARD OF 'commonslaw21.ServerCancels'. -/
def serverCancelsCard : Claim7 := { stood := { row := serverCancelsRow, standIns := [], harness := (true, "2a76f7eaef427995989308d655ba01e559083f28f0fa3bf6d2e39630832c95a0"), looks := false }, kinds := [], alts := [], laidByText := true, laidKinds := [.data, .pinned], laidTests := true, laidLooks := .later }
def ServerCancelsCardSaid : Prop := Claim7.holds Tryz.pinned (.plain (OpenSpec.ofChange serverCancelsSpec)) serverCancelsCard

/-- THE TIED CARD OF 'commonslaw21.ServerAsks'. -/
def serverAsksCard : Claim7 := { stood := { row := serverAsksRow, standIns := [], harness := (true, "2a76f7eaef427995989308d655ba01e559083f28f0fa3bf6d2e39630832c95a0"), looks := false }, kinds := [], alts := [], laidByText := true, laidKinds := [.data, .pinned], laidTests := true, laidLooks := .later }
def ServerAsksCardSaid : Prop := Claim7.holds Tryz.pinned (.plain (OpenSpec.ofChange serverAsksSpec)) serverAsksCard

/-- THE TIED CARD OF 'commonslaw21.ServerStale'. -/
def serverStaleCard : Claim7 := { stood := { row := serverStaleRow, standIns := [], harness := (true, "2a76f7eaef427995989308d655ba01e559083f28f0fa3bf6d2e39630832c95a0"), looks := false }, kinds := [], alts := [], laidByText := true, laidKinds := [.data, .pinned], laidTests := true, laidLooks := .later }
def ServerStaleCardSaid : Prop := Claim7.holds Tryz.pinned (.plain (OpenSpec.ofChange serverStaleSpec)) serverStaleCard

/-- THE TIED CARD OF 'commonslaw21.ServerCounts'. -/
def serverCountsCard : Claim7 := { stood := { row := serverCountsRow, standIns := [], harness := (true, "2a76f7eaef427995989308d655ba01e559083f28f0fa3bf6d2e39630832c95a0"), looks := false }, kinds := [], alts := [], laidByText := true, laidKinds := [.data, .pinned], laidTests := true, laidLooks := .later }
def ServerCountsCardSaid : Prop := Claim7.holds Tryz.pinned (.plain (OpenSpec.ofChange serverCountsSpec)) serverCountsCard

/-- THE TIED CARD OF 'commonslaw21.ServerLate'. -/
def serverLateCard : Claim7 := { stood := { row := serverLateRow, standIns := [], harness := (true, "2a76f7eaef427995989308d655ba01e559083f28f0fa3bf6d2e39630832c95a0"), looks := false }, kinds := [], alts := [], laidByText := true, laidKinds := [.data, .pinned], laidTests := true, laidLooks := .later }
def ServerLateCardSaid : Prop := Claim7.holds Tryz.pinned (.plain (OpenSpec.ofChange serverLateSpec)) serverLateCard

/-- THE TIED CARD OF 'commonslaw21.ServerNone'. -/
def serverNoneCard : Claim7 := { stood := { row := serverNoneRow, standIns := [], harness := (true, "2a76f7eaef427995989308d655ba01e559083f28f0fa3bf6d2e39630832c95a0"), looks := false }, kinds := [], alts := [], laidByText := true, laidKinds := [.data, .pinned], laidTests := true, laidLooks := .later }
def ServerNoneCardSaid : Prop := Claim7.holds Tryz.pinned (.plain (OpenSpec.ofChange serverNoneSpec)) serverNoneCard

/-- THE TIED CARD OF 'commonslaw21.ServerKeeps'. -/
def serverKeepsCard : Claim7 := { stood := { row := serverKeepsRow, standIns := [], harness := (true, "2a76f7eaef427995989308d655ba01e559083f28f0fa3bf6d2e39630832c95a0"), looks := false }, kinds := [], alts := [], laidByText := true, laidKinds := [.data, .pinned], laidTests := true, laidLooks := .later }
def ServerKeepsCardSaid : Prop := Claim7.holds Tryz.pinned (.plain (OpenSpec.ofChange serverKeepsSpec)) serverKeepsCard

/-- THE TIED CARD OF 'commonslaw21.ServerFences'. -/
def serverFencesCard : Claim7 := { stood := { row := serverFencesRow, standIns := [], harness := (true, "2a76f7eaef427995989308d655ba01e559083f28f0fa3bf6d2e39630832c95a0"), looks := false }, kinds := [], alts := [], laidByText := true, laidKinds := [.data, .pinned], laidTests := true, laidLooks := .later }
def ServerFencesCardSaid : Prop := Claim7.holds Tryz.pinned (.plain (OpenSpec.ofChange serverFencesSpec)) serverFencesCard

/-- THE TIED CARD OF 'commonslaw21.ServerRedoes'. -/
def serverRedoesCard : Claim7 := { stood := { row := serverRedoesRow, standIns := [], harness := (true, "2a76f7eaef427995989308d655ba01e559083f28f0fa3bf6d2e39630832c95a0"), looks := false }, kinds := [], alts := [], laidByText := true, laidKinds := [.data, .pinned], laidTests := true, laidLooks := .later }
def ServerRedoesCardSaid : Prop := Claim7.holds Tryz.pinned (.plain (OpenSpec.ofChange serverRedoesSpec)) serverRedoesCard

/-- THE SECOND FORM's CARD OF 'commonslaw21.ServerJoins'. -/
def serverJoinsUptoCard : Claim7 := { stood := { row := serverJoinsUptoRow, standIns := [], harness := (true, "2a76f7eaef427995989308d655ba01e559083f28f0fa3bf6d2e39630832c95a0"), looks := false }, kinds := [], alts := [], laidByText := true, laidKinds := [.data, .pinned], laidTests := true, laidLooks := .later }
def ServerJoinsUptoCardSaid : Prop := Claim7.holds Tryz.pinned (.plain (OpenSpec.upto serverJoinsSpec)) serverJoinsUptoCard

/-- THE SECOND FORM's CARD OF 'commonslaw21.ServerBye'. -/
def serverByeUptoCard : Claim7 := { stood := { row := serverByeUptoRow, standIns := [], harness := (true, "2a76f7eaef427995989308d655ba01e559083f28f0fa3bf6d2e39630832c95a0"), looks := false }, kinds := [], alts := [], laidByText := true, laidKinds := [.data, .pinned], laidTests := true, laidLooks := .later }
def ServerByeUptoCardSaid : Prop := Claim7.holds Tryz.pinned (.plain (OpenSpec.upto serverByeSpec)) serverByeUptoCard

/-- THE SECOND FORM's CARD OF 'commonslaw21.ServerCancels'. -/
def serverCancelsUptoCard : Claim7 := { stood := { row := serverCancelsUptoRow, standIns := [], harness := (true, "2a76f7eaef427995989308d655ba01e559083f28f0fa3bf6d2e39630832c95a0"), looks := false }, kinds := [], alts := [], laidByText := true, laidKinds := [.data, .pinned], laidTests := true, laidLooks := .later }
def ServerCancelsUptoCardSaid : Prop := Claim7.holds Tryz.pinned (.plain (OpenSpec.upto serverCancelsSpec)) serverCancelsUptoCard

/-- THE SECOND FORM's CARD OF 'commonslaw21.ServerAsks'. -/
def serverAsksUptoCard : Claim7 := { stood := { row := serverAsksUptoRow, standIns := [], harness := (true, "2a76f7eaef427995989308d655ba01e559083f28f0fa3bf6d2e39630832c95a0"), looks := false }, kinds := [], alts := [], laidByText := true, laidKinds := [.data, .pinned], laidTests := true, laidLooks := .later }
def ServerAsksUptoCardSaid : Prop := Claim7.holds Tryz.pinned (.plain (OpenSpec.upto serverAsksSpec)) serverAsksUptoCard

/-- THE SECOND FORM's CARD OF 'commonslaw21.ServerStale'. -/
def serverStaleUptoCard : Claim7 := { stood := { row := serverStaleUptoRow, standIns := [], harness := (true, "2a76f7eaef427995989308d655ba01e559083f28f0fa3bf6d2e39630832c95a0"), looks := false }, kinds := [], alts := [], laidByText := true, laidKinds := [.data, .pinned], laidTests := true, laidLooks := .later }
def ServerStaleUptoCardSaid : Prop := Claim7.holds Tryz.pinned (.plain (OpenSpec.upto serverStaleSpec)) serverStaleUptoCard

/-- THE SECOND FORM's CARD OF 'commonslaw21.ServerCounts'. -/
def serverCountsUptoCard : Claim7 := { stood := { row := serverCountsUptoRow, standIns := [], harness := (true, "2a76f7eaef427995989308d655ba01e559083f28f0fa3bf6d2e39630832c95a0"), looks := false }, kinds := [], alts := [], laidByText := true, laidKinds := [.data, .pinned], laidTests := true, laidLooks := .later }
def ServerCountsUptoCardSaid : Prop := Claim7.holds Tryz.pinned (.plain (OpenSpec.upto serverCountsSpec)) serverCountsUptoCard

/-- THE SECOND FORM's CARD OF 'commonslaw21.ServerLate'. -/
def serverLateUptoCard : Claim7 := { stood := { row := serverLateUptoRow, standIns := [], harness := (true, "2a76f7eaef427995989308d655ba01e559083f28f0fa3bf6d2e39630832c95a0"), looks := false }, kinds := [], alts := [], laidByText := true, laidKinds := [.data, .pinned], laidTests := true, laidLooks := .later }
def ServerLateUptoCardSaid : Prop := Claim7.holds Tryz.pinned (.plain (OpenSpec.upto serverLateSpec)) serverLateUptoCard

/-- THE SECOND FORM's CARD OF 'commonslaw21.ServerNone'. -/
def serverNoneUptoCard : Claim7 := { stood := { row := serverNoneUptoRow, standIns := [], harness := (true, "2a76f7eaef427995989308d655ba01e559083f28f0fa3bf6d2e39630832c95a0"), looks := false }, kinds := [], alts := [], laidByText := true, laidKinds := [.data, .pinned], laidTests := true, laidLooks := .later }
def ServerNoneUptoCardSaid : Prop := Claim7.holds Tryz.pinned (.plain (OpenSpec.upto serverNoneSpec)) serverNoneUptoCard

/-- THE SECOND FORM's CARD OF 'commonslaw21.ServerKeeps'. -/
def serverKeepsUptoCard : Claim7 := { stood := { row := serverKeepsUptoRow, standIns := [], harness := (true, "2a76f7eaef427995989308d655ba01e559083f28f0fa3bf6d2e39630832c95a0"), looks := false }, kinds := [], alts := [], laidByText := true, laidKinds := [.data, .pinned], laidTests := true, laidLooks := .later }
def ServerKeepsUptoCardSaid : Prop := Claim7.holds Tryz.pinned (.plain (OpenSpec.upto serverKeepsSpec)) serverKeepsUptoCard

/-- THE SECOND FORM's CARD OF 'commonslaw21.ServerFences'. -/
def serverFencesUptoCard : Claim7 := { stood := { row := serverFencesUptoRow, standIns := [], harness := (true, "2a76f7eaef427995989308d655ba01e559083f28f0fa3bf6d2e39630832c95a0"), looks := false }, kinds := [], alts := [], laidByText := true, laidKinds := [.data, .pinned], laidTests := true, laidLooks := .later }
def ServerFencesUptoCardSaid : Prop := Claim7.holds Tryz.pinned (.plain (OpenSpec.upto serverFencesSpec)) serverFencesUptoCard

/-- THE SECOND FORM's CARD OF 'commonslaw21.ServerRedoes'. -/
def serverRedoesUptoCard : Claim7 := { stood := { row := serverRedoesUptoRow, standIns := [], harness := (true, "2a76f7eaef427995989308d655ba01e559083f28f0fa3bf6d2e39630832c95a0"), looks := false }, kinds := [], alts := [], laidByText := true, laidKinds := [.data, .pinned], laidTests := true, laidLooks := .later }
def ServerRedoesUptoCardSaid : Prop := Claim7.holds Tryz.pinned (.plain (OpenSpec.upto serverRedoesSpec)) serverRedoesUptoCard
end Rows
end Go.Proofs.YtohgabdmmbngbaaGreatDoor
