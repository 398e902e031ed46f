/-
  NARROWER THAN 'FOR EVERY INPUT', by the rows' own cells (each row's printed sentence says how): ServerJoins: laid · ServerBye: laid · ServerCancels: laid · ServerAsks: laid · ServerStale: laid · ServerCounts: laid · ServerLate: laid · ServerNone: laid · ServerKeeps: laid · ServerFences: laid · ServerRedoes: laid.
  DERIVED. THE GIVEN ROWS OF THIS SEAT. 11 by the template 'for every input the law returns true; each argument reads behind the call as it read before'; 0 by the template 'total and deterministic' (their statements: YtohgabdmmbngbaaGreatDoorTotals.lean).
  GIVEN WITH THE SEED: the statements are not yours to turn. If you find one false, say at which input.
  Laid BY PROGRAM, IN A SANDBOX (cutbox-rows.mjs): the forced cells as the released guide's own fill.sh prints them over the translation 46aaaa9e278c310f… (all of the seat's roots in one cut). By AI agents, Wed Nov 11 2026. No macro, syntax, notation, axiom, sorry.
-/
import Derived.Test.YtohgabdmmbngbaaGreatDoorChecked
import GoSem.PinnedTables
import GoSem.Claim
import GoSem.ClaimJoined
import GoSem.ClaimMapViews
import Derived.JoinedTies
import Derived.KernelRfl
namespace Go.Proofs.YtohgabdmmbngbaaGreatDoor
/- THE CELL 'sum', in the pinned program and in every row, IS THE sha256 OF THE DUMP (.gsa) THAT YtohgabdmmbngbaaGreatDoorProg.lean LOADS. Nothing in Lean hashes anything: it is a label: what it is worth is what the hold of that sum in a sandbox is worth. -/
noncomputable def Tryz.pinned : Pinned := { name := "ytohgabdmmbngbaagreatdoor", sum := "46aaaa9e278c310f4899ebfd5858ea3ae90705a8e985938c9eeee280ae8e0be7", checked := Tryz.checked }
namespace Rows
def none {H : Type} : Left H := { results := [], args := [] }

/- WHAT THE LISTED PACKAGE-LEVEL VARIABLES READ AS WHEN THE CALL BEGINS. Each datum BY PROGRAM (the guide's laid-datum.mjs) off the statement by which the dump's own 'gosem.cut.vars' lays the variable. In a bare row this is a premise. The card (YtohgabdmmbngbaaGreatDoorCards.lean) ties it to the program's text. -/
def laid_unicode_utf8_acceptRanges {H : Type} : DataW H := .agg [.agg [.lit (.int .u8 128), .lit (.int .u8 191)], .agg [.lit (.int .u8 160), .lit (.int .u8 191)], .agg [.lit (.int .u8 128), .lit (.int .u8 159)], .agg [.lit (.int .u8 144), .lit (.int .u8 191)], .agg [.lit (.int .u8 128), .lit (.int .u8 143)], .agg [.lit (.int .u8 0), .lit (.int .u8 0)], .agg [.lit (.int .u8 0), .lit (.int .u8 0)], .agg [.lit (.int .u8 0), .lit (.int .u8 0)], .agg [.lit (.int .u8 0), .lit (.int .u8 0)], .agg [.lit (.int .u8 0), .lit (.int .u8 0)], .agg [.lit (.int .u8 0), .lit (.int .u8 0)], .agg [.lit (.int .u8 0), .lit (.int .u8 0)], .agg [.lit (.int .u8 0), .lit (.int .u8 0)], .agg [.lit (.int .u8 0), .lit (.int .u8 0)], .agg [.lit (.int .u8 0), .lit (.int .u8 0)], .agg [.lit (.int .u8 0), .lit (.int .u8 0)]]
/-- One of Go's own tables, pinned by name: the form's constant. -/
def laid_unicode_utf8_first : DataW Unit := Go.Pinned.utf8First

/-- 'commonslaw21.ServerJoins': WHATEVER THE INPUT: true; the input reads as it did. -/
def serverJoinsSpec : ChangeSpec := { name := "serverJoins", fn := fun _ => fun
  | [d1, d2] => { results := [.lit (.bool true)], args := [d1, d2] }
  | _ => none }
def serverJoinsRow : OpenClaim := { program := "ytohgabdmmbngbaagreatdoor", sum := "46aaaa9e278c310f4899ebfd5858ea3ae90705a8e985938c9eeee280ae8e0be7", func := "commons/commonslaw21.ServerJoins", spec := "serverJoins", inPlace := ["internal/abi.NoEscape", "internal/bytealg.MakeNoZero", "internal/bytealg.IndexByteString", "internal/bytealg.IndexString"], unfollowed := true, recurses := true, named := ["unicode/utf8.first", "unicode/utf8.acceptRanges", "internal/bytealg.MaxLen"], plainKeys := false, apart := false, laid := [("unicode/utf8.acceptRanges", laid_unicode_utf8_acceptRanges), ("unicode/utf8.first", laid_unicode_utf8_first)] }
def ServerJoinsSaid : Prop := serverJoinsRow.holds Tryz.pinned (OpenSpec.ofChange serverJoinsSpec)

/-- ITS FALSE NEIGHBOUR: 'it returns false'. Refute it at one input. -/
def serverJoinsWrong : ChangeSpec := { name := "serverJoins", fn := fun _ => fun
  | [d1, d2] => { results := [.lit (.bool false)], args := [d1, d2] }
  | _ => none }
def ServerJoinsWrongFalsely : Prop := serverJoinsRow.holds Tryz.pinned (OpenSpec.ofChange serverJoinsWrong)

/-- 'commonslaw21.ServerBye': WHATEVER THE INPUT: true; the input reads as it did. -/
def serverByeSpec : ChangeSpec := { name := "serverBye", fn := fun _ => fun
  | [d] => { results := [.lit (.bool true)], args := [d] }
  | _ => none }
def serverByeRow : OpenClaim := { program := "ytohgabdmmbngbaagreatdoor", sum := "46aaaa9e278c310f4899ebfd5858ea3ae90705a8e985938c9eeee280ae8e0be7", func := "commons/commonslaw21.ServerBye", spec := "serverBye", inPlace := ["internal/abi.NoEscape", "internal/bytealg.MakeNoZero", "internal/bytealg.IndexByteString", "internal/bytealg.IndexString"], unfollowed := true, recurses := true, named := ["unicode/utf8.first", "unicode/utf8.acceptRanges", "internal/bytealg.MaxLen"], plainKeys := false, apart := false, laid := [("unicode/utf8.acceptRanges", laid_unicode_utf8_acceptRanges), ("unicode/utf8.first", laid_unicode_utf8_first)] }
def ServerByeSaid : Prop := serverByeRow.holds Tryz.pinned (OpenSpec.ofChange serverByeSpec)

/-- ITS FALSE NEIGHBOUR: 'it returns false'. Refute it at one input. -/
def serverByeWrong : ChangeSpec := { name := "serverBye", fn := fun _ => fun
  | [d] => { results := [.lit (.bool false)], args := [d] }
  | _ => none }
def ServerByeWrongFalsely : Prop := serverByeRow.holds Tryz.pinned (OpenSpec.ofChange serverByeWrong)

/-- 'commonslaw21.ServerCancels': WHATEVER THE INPUT: true; the input reads as it did. -/
def serverCancelsSpec : ChangeSpec := { name := "serverCancels", fn := fun _ => fun
  | [d1, d2] => { results := [.lit (.bool true)], args := [d1, d2] }
  | _ => none }
def serverCancelsRow : OpenClaim := { program := "ytohgabdmmbngbaagreatdoor", sum := "46aaaa9e278c310f4899ebfd5858ea3ae90705a8e985938c9eeee280ae8e0be7", func := "commons/commonslaw21.ServerCancels", spec := "serverCancels", inPlace := ["internal/abi.NoEscape", "internal/bytealg.MakeNoZero", "internal/bytealg.IndexByteString", "internal/bytealg.IndexString"], unfollowed := true, recurses := true, named := ["unicode/utf8.first", "unicode/utf8.acceptRanges", "internal/bytealg.MaxLen"], plainKeys := false, apart := false, laid := [("unicode/utf8.acceptRanges", laid_unicode_utf8_acceptRanges), ("unicode/utf8.first", laid_unicode_utf8_first)] }
def ServerCancelsSaid : Prop := serverCancelsRow.holds Tryz.pinned (OpenSpec.ofChange serverCancelsSpec)

/-- ITS FALSE NEIGHBOUR: 'it returns false'. Refute it at one input. -/
def serverCancelsWrong : ChangeSpec := { name := "serverCancels", fn := fun _ => fun
  | [d1, d2] => { results := [.lit (.bool false)], args := [d1, d2] }
  | _ => none }
def ServerCancelsWrongFalsely : Prop := serverCancelsRow.holds Tryz.pinned (OpenSpec.ofChange serverCancelsWrong)

/-- 'commonslaw21.ServerAsks': WHATEVER THE INPUT: true; the input reads as it did. -/
def serverAsksSpec : ChangeSpec := { name := "serverAsks", fn := fun _ => fun
  | [d1, d2] => { results := [.lit (.bool true)], args := [d1, d2] }
  | _ => none }
def serverAsksRow : OpenClaim := { program := "ytohgabdmmbngbaagreatdoor", sum := "46aaaa9e278c310f4899ebfd5858ea3ae90705a8e985938c9eeee280ae8e0be7", func := "commons/commonslaw21.ServerAsks", spec := "serverAsks", inPlace := ["internal/abi.NoEscape", "internal/bytealg.MakeNoZero", "internal/bytealg.IndexByteString", "internal/bytealg.IndexString"], unfollowed := true, recurses := true, named := ["unicode/utf8.first", "unicode/utf8.acceptRanges", "internal/bytealg.MaxLen"], plainKeys := false, apart := false, laid := [("unicode/utf8.acceptRanges", laid_unicode_utf8_acceptRanges), ("unicode/utf8.first", laid_unicode_utf8_first)] }
def ServerAsksSaid : Prop := serverAsksRow.holds Tryz.pinned (OpenSpec.ofChange serverAsksSpec)

/-- ITS FALSE NEIGHBOUR: 'it returns false'. Refute it at one input. -/
def serverAsksWrong : ChangeSpec := { name := "serverAsks", fn := fun _ => fun
  | [d1, d2] => { results := [.lit (.bool false)], args := [d1, d2] }
  | _ => none }
def ServerAsksWrongFalsely : Prop := serverAsksRow.holds Tryz.pinned (OpenSpec.ofChange serverAsksWrong)

/-- 'commonslaw21.ServerStale': WHATEVER THE INPUT: true; the input reads as it did. -/
def serverStaleSpec : ChangeSpec := { name := "serverStale", fn := fun _ => fun
  | [d1, d2] => { results := [.lit (.bool true)], args := [d1, d2] }
  | _ => none }
def serverStaleRow : OpenClaim := { program := "ytohgabdmmbngbaagreatdoor", sum := "46aaaa9e278c310f4899ebfd5858ea3ae90705a8e985938c9eeee280ae8e0be7", func := "commons/commonslaw21.ServerStale", spec := "serverStale", inPlace := ["internal/abi.NoEscape", "internal/bytealg.MakeNoZero", "internal/bytealg.IndexByteString", "internal/bytealg.IndexString"], unfollowed := true, recurses := true, named := ["unicode/utf8.first", "unicode/utf8.acceptRanges", "internal/bytealg.MaxLen"], plainKeys := false, apart := false, laid := [("unicode/utf8.acceptRanges", laid_unicode_utf8_acceptRanges), ("unicode/utf8.first", laid_unicode_utf8_first)] }
def ServerStaleSaid : Prop := serverStaleRow.holds Tryz.pinned (OpenSpec.ofChange serverStaleSpec)

/-- ITS FALSE NEIGHBOUR: 'it returns false'. Refute it at one input. -/
def serverStaleWrong : ChangeSpec := { name := "serverStale", fn := fun _ => fun
  | [d1, d2] => { results := [.lit (.bool false)], args := [d1, d2] }
  | _ => none }
def ServerStaleWrongFalsely : Prop := serverStaleRow.holds Tryz.pinned (OpenSpec.ofChange serverStaleWrong)

/-- 'commonslaw21.ServerCounts': WHATEVER THE INPUT: true; the input reads as it did. -/
def serverCountsSpec : ChangeSpec := { name := "serverCounts", fn := fun _ => fun
  | [d1, d2] => { results := [.lit (.bool true)], args := [d1, d2] }
  | _ => none }
def serverCountsRow : OpenClaim := { program := "ytohgabdmmbngbaagreatdoor", sum := "46aaaa9e278c310f4899ebfd5858ea3ae90705a8e985938c9eeee280ae8e0be7", func := "commons/commonslaw21.ServerCounts", spec := "serverCounts", inPlace := ["internal/abi.NoEscape", "internal/bytealg.MakeNoZero", "internal/bytealg.IndexByteString", "internal/bytealg.IndexString"], unfollowed := true, recurses := true, named := ["unicode/utf8.first", "unicode/utf8.acceptRanges", "internal/bytealg.MaxLen"], plainKeys := false, apart := false, laid := [("unicode/utf8.acceptRanges", laid_unicode_utf8_acceptRanges), ("unicode/utf8.first", laid_unicode_utf8_first)] }
def ServerCountsSaid : Prop := serverCountsRow.holds Tryz.pinned (OpenSpec.ofChange serverCountsSpec)

/-- ITS FALSE NEIGHBOUR: 'it returns false'. Refute it at one input. -/
def serverCountsWrong : ChangeSpec := { name := "serverCounts", fn := fun _ => fun
  | [d1, d2] => { results := [.lit (.bool false)], args := [d1, d2] }
  | _ => none }
def ServerCountsWrongFalsely : Prop := serverCountsRow.holds Tryz.pinned (OpenSpec.ofChange serverCountsWrong)

/-- 'commonslaw21.ServerLate': WHATEVER THE INPUT: true; the input reads as it did. -/
def serverLateSpec : ChangeSpec := { name := "serverLate", fn := fun _ => fun
  | [d] => { results := [.lit (.bool true)], args := [d] }
  | _ => none }
def serverLateRow : OpenClaim := { program := "ytohgabdmmbngbaagreatdoor", sum := "46aaaa9e278c310f4899ebfd5858ea3ae90705a8e985938c9eeee280ae8e0be7", func := "commons/commonslaw21.ServerLate", spec := "serverLate", inPlace := ["internal/abi.NoEscape", "internal/bytealg.MakeNoZero", "internal/bytealg.IndexByteString", "internal/bytealg.IndexString"], unfollowed := true, recurses := true, named := ["unicode/utf8.first", "unicode/utf8.acceptRanges", "internal/bytealg.MaxLen"], plainKeys := false, apart := false, laid := [("unicode/utf8.acceptRanges", laid_unicode_utf8_acceptRanges), ("unicode/utf8.first", laid_unicode_utf8_first)] }
def ServerLateSaid : Prop := serverLateRow.holds Tryz.pinned (OpenSpec.ofChange serverLateSpec)

/-- ITS FALSE NEIGHBOUR: 'it returns false'. Refute it at one input. -/
def serverLateWrong : ChangeSpec := { name := "serverLate", fn := fun _ => fun
  | [d] => { results := [.lit (.bool false)], args := [d] }
  | _ => none }
def ServerLateWrongFalsely : Prop := serverLateRow.holds Tryz.pinned (OpenSpec.ofChange serverLateWrong)

/-- 'commonslaw21.ServerNone': WHATEVER THE INPUT: true; the input reads as it did. -/
def serverNoneSpec : ChangeSpec := { name := "serverNone", fn := fun _ => fun
  | [d1, d2] => { results := [.lit (.bool true)], args := [d1, d2] }
  | _ => none }
def serverNoneRow : OpenClaim := { program := "ytohgabdmmbngbaagreatdoor", sum := "46aaaa9e278c310f4899ebfd5858ea3ae90705a8e985938c9eeee280ae8e0be7", func := "commons/commonslaw21.ServerNone", spec := "serverNone", inPlace := ["internal/abi.NoEscape", "internal/bytealg.MakeNoZero", "internal/bytealg.IndexByteString", "internal/bytealg.IndexString"], unfollowed := true, recurses := true, named := ["unicode/utf8.first", "unicode/utf8.acceptRanges", "internal/bytealg.MaxLen"], plainKeys := false, apart := false, laid := [("unicode/utf8.acceptRanges", laid_unicode_utf8_acceptRanges), ("unicode/utf8.first", laid_unicode_utf8_first)] }
def ServerNoneSaid : Prop := serverNoneRow.holds Tryz.pinned (OpenSpec.ofChange serverNoneSpec)

/-- ITS FALSE NEIGHBOUR: 'it returns false'. Refute it at one input. -/
def serverNoneWrong : ChangeSpec := { name := "serverNone", fn := fun _ => fun
  | [d1, d2] => { results := [.lit (.bool false)], args := [d1, d2] }
  | _ => none }
def ServerNoneWrongFalsely : Prop := serverNoneRow.holds Tryz.pinned (OpenSpec.ofChange serverNoneWrong)

/-- 'commonslaw21.ServerKeeps': WHATEVER THE INPUT: true; the input reads as it did. -/
def serverKeepsSpec : ChangeSpec := { name := "serverKeeps", fn := fun _ => fun
  | [d1, d2] => { results := [.lit (.bool true)], args := [d1, d2] }
  | _ => none }
def serverKeepsRow : OpenClaim := { program := "ytohgabdmmbngbaagreatdoor", sum := "46aaaa9e278c310f4899ebfd5858ea3ae90705a8e985938c9eeee280ae8e0be7", func := "commons/commonslaw21.ServerKeeps", spec := "serverKeeps", inPlace := ["internal/abi.NoEscape", "internal/bytealg.MakeNoZero", "internal/bytealg.IndexByteString", "internal/bytealg.IndexString"], unfollowed := true, recurses := true, named := ["unicode/utf8.first", "unicode/utf8.acceptRanges", "internal/bytealg.MaxLen"], plainKeys := false, apart := false, laid := [("unicode/utf8.acceptRanges", laid_unicode_utf8_acceptRanges), ("unicode/utf8.first", laid_unicode_utf8_first)] }
def ServerKeepsSaid : Prop := serverKeepsRow.holds Tryz.pinned (OpenSpec.ofChange serverKeepsSpec)

/-- ITS FALSE NEIGHBOUR: 'it returns false'. Refute it at one input. -/
def serverKeepsWrong : ChangeSpec := { name := "serverKeeps", fn := fun _ => fun
  | [d1, d2] => { results := [.lit (.bool false)], args := [d1, d2] }
  | _ => none }
def ServerKeepsWrongFalsely : Prop := serverKeepsRow.holds Tryz.pinned (OpenSpec.ofChange serverKeepsWrong)

/-- 'commonslaw21.ServerFences': WHATEVER THE INPUT: true; the input reads as it did. -/
def serverFencesSpec : ChangeSpec := { name := "serverFences", fn := fun _ => fun
  | [d] => { results := [.lit (.bool true)], args := [d] }
  | _ => none }
def serverFencesRow : OpenClaim := { program := "ytohgabdmmbngbaagreatdoor", sum := "46aaaa9e278c310f4899ebfd5858ea3ae90705a8e985938c9eeee280ae8e0be7", func := "commons/commonslaw21.ServerFences", spec := "serverFences", inPlace := ["internal/abi.NoEscape", "internal/bytealg.MakeNoZero", "internal/bytealg.IndexByteString", "internal/bytealg.IndexString"], unfollowed := true, recurses := true, named := ["unicode/utf8.first", "unicode/utf8.acceptRanges", "internal/bytealg.MaxLen"], plainKeys := false, apart := false, laid := [("unicode/utf8.acceptRanges", laid_unicode_utf8_acceptRanges), ("unicode/utf8.first", laid_unicode_utf8_first)] }
def ServerFencesSaid : Prop := serverFencesRow.holds Tryz.pinned (OpenSpec.ofChange serverFencesSpec)

/-- ITS FALSE NEIGHBOUR: 'it returns false'. Refute it at one input. -/
def serverFencesWrong : ChangeSpec := { name := "serverFences", fn := fun _ => fun
  | [d] => { results := [.lit (.bool false)], args := [d] }
  | _ => none }
def ServerFencesWrongFalsely : Prop := serverFencesRow.holds Tryz.pinned (OpenSpec.ofChange serverFencesWrong)

/-- 'commonslaw21.ServerRedoes': WHATEVER THE INPUT: true; the input reads as it did. -/
def serverRedoesSpec : ChangeSpec := { name := "serverRedoes", fn := fun _ => fun
  | [d1, d2] => { results := [.lit (.bool true)], args := [d1, d2] }
  | _ => none }
def serverRedoesRow : OpenClaim := { program := "ytohgabdmmbngbaagreatdoor", sum := "46aaaa9e278c310f4899ebfd5858ea3ae90705a8e985938c9eeee280ae8e0be7", func := "commons/commonslaw21.ServerRedoes", spec := "serverRedoes", inPlace := ["internal/abi.NoEscape", "internal/bytealg.MakeNoZero", "internal/bytealg.IndexByteString", "internal/bytealg.IndexString"], unfollowed := true, recurses := true, named := ["unicode/utf8.first", "unicode/utf8.acceptRanges", "internal/bytealg.MaxLen"], plainKeys := false, apart := false, laid := [("unicode/utf8.acceptRanges", laid_unicode_utf8_acceptRanges), ("unicode/utf8.first", laid_unicode_utf8_first)] }
def ServerRedoesSaid : Prop := serverRedoesRow.holds Tryz.pinned (OpenSpec.ofChange serverRedoesSpec)

/-- ITS FALSE NEIGHBOUR: 'it returns false'. Refute it at one input. -/
def serverRedoesWrong : ChangeSpec := { name := "serverRedoes", fn := fun _ => fun
  | [d1, d2] => { results := [.lit (.bool false)], args := [d1, d2] }
  | _ => none }
def ServerRedoesWrongFalsely : Prop := serverRedoesRow.holds Tryz.pinned (OpenSpec.ofChange serverRedoesWrong)

/- THE SECOND FORM. 'bulk': how many values and letters a reading holds, each counted each time it is reached (what is shared counts as often as it is met; a slice's spare places count too). A statement '..UptoSaid' is the law's where the arguments, and the package variables that the reading takes, are together of bulk at most 1048576: NARROWER than '..Said'. Prove '..Said' where nothing that the law and all that it calls make is longer than what came in: it says more and counts as full. Else prove '..UptoSaid'. A law counts once. -/
mutual
def uptoBulk {H : Type} : DataW H → Nat
  | .lit (.string bytes) => bytes.length + 1
  | .lit _ => 1
  | .nil => 1
  | .ptr d => uptoBulk d + 1
  | .slice elems spare => uptoBulkAll elems + uptoBulkAll spare + 1
  | .agg parts => uptoBulkAll parts + 1
  | .iface _ d => uptoBulk d + 1
  | .map entries => uptoBulkEntries entries + 1
  | .held _ => 1
def uptoBulkAll {H : Type} : List (DataW H) → Nat
  | [] => 0
  | d :: r => uptoBulk d + uptoBulkAll r
def uptoBulkEntries {H : Type} : List (Lit × DataW H) → Nat
  | [] => 0
  | x :: r => uptoBulkEntry x + uptoBulkEntries r
def uptoBulkEntry {H : Type} : Lit × DataW H → Nat
  | (.string bytes, d) => bytes.length + uptoBulk d + 1
  | (_, d) => uptoBulk d + 1
 end
def uptoSmall : (H : Type) → List (DataW H) → Bool := fun _ ds => decide (uptoBulkAll ds ≤ 1048576)
def OpenSpec.upto (s : _root_.Go.ChangeSpec) : _root_.Go.OpenSpec := { _root_.Go.OpenSpec.ofChange s with cond := some uptoSmall }

/-- 'commonslaw21.ServerJoins', WHERE WHAT IT READS IS OF BULK AT MOST 1048576: true; the input reads as it did. -/
def serverJoinsUptoRow : OpenClaim := { program := "ytohgabdmmbngbaagreatdoor", sum := "46aaaa9e278c310f4899ebfd5858ea3ae90705a8e985938c9eeee280ae8e0be7", func := "commons/commonslaw21.ServerJoins", spec := "serverJoins", inPlace := ["internal/abi.NoEscape", "internal/bytealg.MakeNoZero", "internal/bytealg.IndexByteString", "internal/bytealg.IndexString"], unfollowed := true, recurses := true, named := ["unicode/utf8.first", "unicode/utf8.acceptRanges", "internal/bytealg.MaxLen"], plainKeys := false, apart := false, laid := [("unicode/utf8.acceptRanges", laid_unicode_utf8_acceptRanges), ("unicode/utf8.first", laid_unicode_utf8_first)], narrowed := true }
def ServerJoinsUptoSaid : Prop := serverJoinsUptoRow.holds Tryz.pinned (OpenSpec.upto serverJoinsSpec)

/-- 'commonslaw21.ServerBye', WHERE WHAT IT READS IS OF BULK AT MOST 1048576: true; the input reads as it did. -/
def serverByeUptoRow : OpenClaim := { program := "ytohgabdmmbngbaagreatdoor", sum := "46aaaa9e278c310f4899ebfd5858ea3ae90705a8e985938c9eeee280ae8e0be7", func := "commons/commonslaw21.ServerBye", spec := "serverBye", inPlace := ["internal/abi.NoEscape", "internal/bytealg.MakeNoZero", "internal/bytealg.IndexByteString", "internal/bytealg.IndexString"], unfollowed := true, recurses := true, named := ["unicode/utf8.first", "unicode/utf8.acceptRanges", "internal/bytealg.MaxLen"], plainKeys := false, apart := false, laid := [("unicode/utf8.acceptRanges", laid_unicode_utf8_acceptRanges), ("unicode/utf8.first", laid_unicode_utf8_first)], narrowed := true }
def ServerByeUptoSaid : Prop := serverByeUptoRow.holds Tryz.pinned (OpenSpec.upto serverByeSpec)

/-- 'commonslaw21.ServerCancels', WHERE WHAT IT READS IS OF BULK AT MOST 1048576: true; the input reads as it did. -/
def serverCancelsUptoRow : OpenClaim := { program := "ytohgabdmmbngbaagreatdoor", sum := "46aaaa9e278c310f4899ebfd5858ea3ae90705a8e985938c9eeee280ae8e0be7", func := "commons/commonslaw21.ServerCancels", spec := "serverCancels", inPlace := ["internal/abi.NoEscape", "internal/bytealg.MakeNoZero", "internal/bytealg.IndexByteString", "internal/bytealg.IndexString"], unfollowed := true, recurses := true, named := ["unicode/utf8.first", "unicode/utf8.acceptRanges", "internal/bytealg.MaxLen"], plainKeys := false, apart := false, laid := [("unicode/utf8.acceptRanges", laid_unicode_utf8_acceptRanges), ("unicode/utf8.first", laid_unicode_utf8_first)], narrowed := true }
def ServerCancelsUptoSaid : Prop := serverCancelsUptoRow.holds Tryz.pinned (OpenSpec.upto serverCancelsSpec)

/-- 'commonslaw21.ServerAsks', WHERE WHAT IT READS IS OF BULK AT MOST 1048576: true; the input reads as it did. -/
def serverAsksUptoRow : OpenClaim := { program := "ytohgabdmmbngbaagreatdoor", sum := "46aaaa9e278c310f4899ebfd5858ea3ae90705a8e985938c9eeee280ae8e0be7", func := "commons/commonslaw21.ServerAsks", spec := "serverAsks", inPlace := ["internal/abi.NoEscape", "internal/bytealg.MakeNoZero", "internal/bytealg.IndexByteString", "internal/bytealg.IndexString"], unfollowed := true, recurses := true, named := ["unicode/utf8.first", "unicode/utf8.acceptRanges", "internal/bytealg.MaxLen"], plainKeys := false, apart := false, laid := [("unicode/utf8.acceptRanges", laid_unicode_utf8_acceptRanges), ("unicode/utf8.first", laid_unicode_utf8_first)], narrowed := true }
def ServerAsksUptoSaid : Prop := serverAsksUptoRow.holds Tryz.pinned (OpenSpec.upto serverAsksSpec)

/-- 'commonslaw21.ServerStale', WHERE WHAT IT READS IS OF BULK AT MOST 1048576: true; the input reads as it did. -/
def serverStaleUptoRow : OpenClaim := { program := "ytohgabdmmbngbaagreatdoor", sum := "46aaaa9e278c310f4899ebfd5858ea3ae90705a8e985938c9eeee280ae8e0be7", func := "commons/commonslaw21.ServerStale", spec := "serverStale", inPlace := ["internal/abi.NoEscape", "internal/bytealg.MakeNoZero", "internal/bytealg.IndexByteString", "internal/bytealg.IndexString"], unfollowed := true, recurses := true, named := ["unicode/utf8.first", "unicode/utf8.acceptRanges", "internal/bytealg.MaxLen"], plainKeys := false, apart := false, laid := [("unicode/utf8.acceptRanges", laid_unicode_utf8_acceptRanges), ("unicode/utf8.first", laid_unicode_utf8_first)], narrowed := true }
def ServerStaleUptoSaid : Prop := serverStaleUptoRow.holds Tryz.pinned (OpenSpec.upto serverStaleSpec)

/-- 'commonslaw21.ServerCounts', WHERE WHAT IT READS IS OF BULK AT MOST 1048576: true; the input reads as it did. -/
def serverCountsUptoRow : OpenClaim := { program := "ytohgabdmmbngbaagreatdoor", sum := "46aaaa9e278c310f4899ebfd5858ea3ae90705a8e985938c9eeee280ae8e0be7", func := "commons/commonslaw21.ServerCounts", spec := "serverCounts", inPlace := ["internal/abi.NoEscape", "internal/bytealg.MakeNoZero", "internal/bytealg.IndexByteString", "internal/bytealg.IndexString"], unfollowed := true, recurses := true, named := ["unicode/utf8.first", "unicode/utf8.acceptRanges", "internal/bytealg.MaxLen"], plainKeys := false, apart := false, laid := [("unicode/utf8.acceptRanges", laid_unicode_utf8_acceptRanges), ("unicode/utf8.first", laid_unicode_utf8_first)], narrowed := true }
def ServerCountsUptoSaid : Prop := serverCountsUptoRow.holds Tryz.pinned (OpenSpec.upto serverCountsSpec)

/-- 'commonslaw21.ServerLate', WHERE WHAT IT READS IS OF BULK AT MOST 1048576: true; the input reads as it did. -/
def serverLateUptoRow : OpenClaim := { program := "ytohgabdmmbngbaagreatdoor", sum := "46aaaa9e278c310f4899ebfd5858ea3ae90705a8e985938c9eeee280ae8e0be7", func := "commons/commonslaw21.ServerLate", spec := "serverLate", inPlace := ["internal/abi.NoEscape", "internal/bytealg.MakeNoZero", "internal/bytealg.IndexByteString", "internal/bytealg.IndexString"], unfollowed := true, recurses := true, named := ["unicode/utf8.first", "unicode/utf8.acceptRanges", "internal/bytealg.MaxLen"], plainKeys := false, apart := false, laid := [("unicode/utf8.acceptRanges", laid_unicode_utf8_acceptRanges), ("unicode/utf8.first", laid_unicode_utf8_first)], narrowed := true }
def ServerLateUptoSaid : Prop := serverLateUptoRow.holds Tryz.pinned (OpenSpec.upto serverLateSpec)

/-- 'commonslaw21.ServerNone', WHERE WHAT IT READS IS OF BULK AT MOST 1048576: true; the input reads as it did. -/
def serverNoneUptoRow : OpenClaim := { program := "ytohgabdmmbngbaagreatdoor", sum := "46aaaa9e278c310f4899ebfd5858ea3ae90705a8e985938c9eeee280ae8e0be7", func := "commons/commonslaw21.ServerNone", spec := "serverNone", inPlace := ["internal/abi.NoEscape", "internal/bytealg.MakeNoZero", "internal/bytealg.IndexByteString", "internal/bytealg.IndexString"], unfollowed := true, recurses := true, named := ["unicode/utf8.first", "unicode/utf8.acceptRanges", "internal/bytealg.MaxLen"], plainKeys := false, apart := false, laid := [("unicode/utf8.acceptRanges", laid_unicode_utf8_acceptRanges), ("unicode/utf8.first", laid_unicode_utf8_first)], narrowed := true }
def ServerNoneUptoSaid : Prop := serverNoneUptoRow.holds Tryz.pinned (OpenSpec.upto serverNoneSpec)

/-- 'commonslaw21.ServerKeeps', WHERE WHAT IT READS IS OF BULK AT MOST 1048576: true; the input reads as it did. -/
def serverKeepsUptoRow : OpenClaim := { program := "ytohgabdmmbngbaagreatdoor", sum := "46aaaa9e278c310f4899ebfd5858ea3ae90705a8e985938c9eeee280ae8e0be7", func := "commons/commonslaw21.ServerKeeps", spec := "serverKeeps", inPlace := ["internal/abi.NoEscape", "internal/bytealg.MakeNoZero", "internal/bytealg.IndexByteString", "internal/bytealg.IndexString"], unfollowed := true, recurses := true, named := ["unicode/utf8.first", "unicode/utf8.acceptRanges", "internal/bytealg.MaxLen"], plainKeys := false, apart := false, laid := [("unicode/utf8.acceptRanges", laid_unicode_utf8_acceptRanges), ("unicode/utf8.first", laid_unicode_utf8_first)], narrowed := true }
def ServerKeepsUptoSaid : Prop := serverKeepsUptoRow.holds Tryz.pinned (OpenSpec.upto serverKeepsSpec)

/-- 'commonslaw21.ServerFences', WHERE WHAT IT READS IS OF BULK AT MOST 1048576: true; the input reads as it did. -/
def serverFencesUptoRow : OpenClaim := { program := "ytohgabdmmbngbaagreatdoor", sum := "46aaaa9e278c310f4899ebfd5858ea3ae90705a8e985938c9eeee280ae8e0be7", func := "commons/commonslaw21.ServerFences", spec := "serverFences", inPlace := ["internal/abi.NoEscape", "internal/bytealg.MakeNoZero", "internal/bytealg.IndexByteString", "internal/bytealg.IndexString"], unfollowed := true, recurses := true, named := ["unicode/utf8.first", "unicode/utf8.acceptRanges", "internal/bytealg.MaxLen"], plainKeys := false, apart := false, laid := [("unicode/utf8.acceptRanges", laid_unicode_utf8_acceptRanges), ("unicode/utf8.first", laid_unicode_utf8_first)], narrowed := true }
def ServerFencesUptoSaid : Prop := serverFencesUptoRow.holds Tryz.pinned (OpenSpec.upto serverFencesSpec)

/-- 'commonslaw21.ServerRedoes', WHERE WHAT IT READS IS OF BULK AT MOST 1048576: true; the input reads as it did. -/
def serverRedoesUptoRow : OpenClaim := { program := "ytohgabdmmbngbaagreatdoor", sum := "46aaaa9e278c310f4899ebfd5858ea3ae90705a8e985938c9eeee280ae8e0be7", func := "commons/commonslaw21.ServerRedoes", spec := "serverRedoes", inPlace := ["internal/abi.NoEscape", "internal/bytealg.MakeNoZero", "internal/bytealg.IndexByteString", "internal/bytealg.IndexString"], unfollowed := true, recurses := true, named := ["unicode/utf8.first", "unicode/utf8.acceptRanges", "internal/bytealg.MaxLen"], plainKeys := false, apart := false, laid := [("unicode/utf8.acceptRanges", laid_unicode_utf8_acceptRanges), ("unicode/utf8.first", laid_unicode_utf8_first)], narrowed := true }
def ServerRedoesUptoSaid : Prop := serverRedoesUptoRow.holds Tryz.pinned (OpenSpec.upto serverRedoesSpec)

end Rows
end Go.Proofs.YtohgabdmmbngbaaGreatDoor
