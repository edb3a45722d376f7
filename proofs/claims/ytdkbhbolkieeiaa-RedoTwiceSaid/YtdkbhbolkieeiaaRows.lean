/-
  No cell of these rows narrows 'for every input' (looked for: loops, veiled, ifaces, maps, wideKeys, modest, calm, conditions, laid).
  DERIVED. THE GIVEN ROWS OF THIS SEAT. 7 by the template 'for every input the law returns true; each argument reads behind the call as it read before'; 0 by the template 'total and deterministic' (their statements: YtdkbhbolkieeiaaTotals.lean).
  GIVEN WITH THE SEED: the statements are not yours to turn. If you find one false, say at which input.
  Laid BY PROGRAM, IN A SANDBOX (cutbox-rows.mjs): the forced cells as the released guide's own fill.sh prints them over the translation 631d4a75e480bbe1… (all of the seat's roots in one cut). By AI agents, Wed Nov 11 2026. No macro, syntax, notation, axiom, sorry.
-/
import Derived.Test.YtdkbhbolkieeiaaChecked
import GoSem.Claim
import GoSem.ClaimJoined
import GoSem.ClaimMapViews
import Derived.JoinedTies
import Derived.KernelRfl
namespace Go.Proofs.Ytdkbhbolkieeiaa
/- THE CELL 'sum', in the pinned program and in every row, IS THE sha256 OF THE DUMP (.gsa) THAT YtdkbhbolkieeiaaProg.lean LOADS. Nothing in Lean hashes anything: it is a label: what it is worth is what the hold of that sum in a sandbox is worth. -/
noncomputable def Try.pinned : Pinned := { name := "ytdkbhbolkieeiaa", sum := "631d4a75e480bbe13a5e7a6d1279f545f4b87432a32ca9579d25ab34e8d72410", checked := Try.checked }
namespace Rows
def none {H : Type} : Left H := { results := [], args := [] }

/-- 'craquelurelaw11.ClaimTells': WHATEVER THE INPUT: true; the input reads as it did. -/
def claimTellsSpec : ChangeSpec := { name := "claimTells", fn := fun _ => fun
  | [d1, d2, d3, d4, d5] => { results := [.lit (.bool true)], args := [d1, d2, d3, d4, d5] }
  | _ => none }
def claimTellsRow : OpenClaim := { program := "ytdkbhbolkieeiaa", sum := "631d4a75e480bbe13a5e7a6d1279f545f4b87432a32ca9579d25ab34e8d72410", func := "craquelure/craquelurelaw11.ClaimTells", spec := "claimTells", unfollowed := true, recurses := true, apart := false }
def ClaimTellsSaid : Prop := claimTellsRow.holds Try.pinned (OpenSpec.ofChange claimTellsSpec)

/-- ITS FALSE NEIGHBOUR: 'it returns false'. Refute it at one input. -/
def claimTellsWrong : ChangeSpec := { name := "claimTells", fn := fun _ => fun
  | [d1, d2, d3, d4, d5] => { results := [.lit (.bool false)], args := [d1, d2, d3, d4, d5] }
  | _ => none }
def ClaimTellsWrongFalsely : Prop := claimTellsRow.holds Try.pinned (OpenSpec.ofChange claimTellsWrong)

/-- 'craquelurelaw11.ClaimOnce': WHATEVER THE INPUT: true; the input reads as it did. -/
def claimOnceSpec : ChangeSpec := { name := "claimOnce", fn := fun _ => fun
  | [d1, d2] => { results := [.lit (.bool true)], args := [d1, d2] }
  | _ => none }
def claimOnceRow : OpenClaim := { program := "ytdkbhbolkieeiaa", sum := "631d4a75e480bbe13a5e7a6d1279f545f4b87432a32ca9579d25ab34e8d72410", func := "craquelure/craquelurelaw11.ClaimOnce", spec := "claimOnce", unfollowed := true, recurses := true, apart := false }
def ClaimOnceSaid : Prop := claimOnceRow.holds Try.pinned (OpenSpec.ofChange claimOnceSpec)

/-- ITS FALSE NEIGHBOUR: 'it returns false'. Refute it at one input. -/
def claimOnceWrong : ChangeSpec := { name := "claimOnce", fn := fun _ => fun
  | [d1, d2] => { results := [.lit (.bool false)], args := [d1, d2] }
  | _ => none }
def ClaimOnceWrongFalsely : Prop := claimOnceRow.holds Try.pinned (OpenSpec.ofChange claimOnceWrong)

/-- 'craquelurelaw27.JournalLays': WHATEVER THE INPUT: true; the input reads as it did. -/
def journalLaysSpec : ChangeSpec := { name := "journalLays", fn := fun _ => fun
  | [d1, d2] => { results := [.lit (.bool true)], args := [d1, d2] }
  | _ => none }
def journalLaysRow : OpenClaim := { program := "ytdkbhbolkieeiaa", sum := "631d4a75e480bbe13a5e7a6d1279f545f4b87432a32ca9579d25ab34e8d72410", func := "craquelure/craquelurelaw27.JournalLays", spec := "journalLays", inPlace := ["internal/bytealg.MakeNoZero"], unfollowed := true, recurses := true, apart := false }
def JournalLaysSaid : Prop := journalLaysRow.holds Try.pinned (OpenSpec.ofChange journalLaysSpec)

/-- ITS FALSE NEIGHBOUR: 'it returns false'. Refute it at one input. -/
def journalLaysWrong : ChangeSpec := { name := "journalLays", fn := fun _ => fun
  | [d1, d2] => { results := [.lit (.bool false)], args := [d1, d2] }
  | _ => none }
def JournalLaysWrongFalsely : Prop := journalLaysRow.holds Try.pinned (OpenSpec.ofChange journalLaysWrong)

/-- 'craquelurelaw27.JournalReads': WHATEVER THE INPUT: true; the input reads as it did. -/
def journalReadsSpec : ChangeSpec := { name := "journalReads", fn := fun _ => fun
  | [d] => { results := [.lit (.bool true)], args := [d] }
  | _ => none }
def journalReadsRow : OpenClaim := { program := "ytdkbhbolkieeiaa", sum := "631d4a75e480bbe13a5e7a6d1279f545f4b87432a32ca9579d25ab34e8d72410", func := "craquelure/craquelurelaw27.JournalReads", spec := "journalReads", inPlace := ["internal/bytealg.MakeNoZero"], unfollowed := true, recurses := true, apart := false }
def JournalReadsSaid : Prop := journalReadsRow.holds Try.pinned (OpenSpec.ofChange journalReadsSpec)

/-- ITS FALSE NEIGHBOUR: 'it returns false'. Refute it at one input. -/
def journalReadsWrong : ChangeSpec := { name := "journalReads", fn := fun _ => fun
  | [d] => { results := [.lit (.bool false)], args := [d] }
  | _ => none }
def JournalReadsWrongFalsely : Prop := journalReadsRow.holds Try.pinned (OpenSpec.ofChange journalReadsWrong)

/-- 'craquelurelaw27.JournalBack': WHATEVER THE INPUT: true; the input reads as it did. -/
def journalBackSpec : ChangeSpec := { name := "journalBack", fn := fun _ => fun
  | [d1, d2] => { results := [.lit (.bool true)], args := [d1, d2] }
  | _ => none }
def journalBackRow : OpenClaim := { program := "ytdkbhbolkieeiaa", sum := "631d4a75e480bbe13a5e7a6d1279f545f4b87432a32ca9579d25ab34e8d72410", func := "craquelure/craquelurelaw27.JournalBack", spec := "journalBack", inPlace := ["internal/bytealg.MakeNoZero"], unfollowed := true, recurses := true, apart := false }
def JournalBackSaid : Prop := journalBackRow.holds Try.pinned (OpenSpec.ofChange journalBackSpec)

/-- ITS FALSE NEIGHBOUR: 'it returns false'. Refute it at one input. -/
def journalBackWrong : ChangeSpec := { name := "journalBack", fn := fun _ => fun
  | [d1, d2] => { results := [.lit (.bool false)], args := [d1, d2] }
  | _ => none }
def JournalBackWrongFalsely : Prop := journalBackRow.holds Try.pinned (OpenSpec.ofChange journalBackWrong)

/-- 'craquelurelaw33.RedoTwice': WHATEVER THE INPUT: true; the input reads as it did. -/
def redoTwiceSpec : ChangeSpec := { name := "redoTwice", fn := fun _ => fun
  | [d] => { results := [.lit (.bool true)], args := [d] }
  | _ => none }
def redoTwiceRow : OpenClaim := { program := "ytdkbhbolkieeiaa", sum := "631d4a75e480bbe13a5e7a6d1279f545f4b87432a32ca9579d25ab34e8d72410", func := "craquelure/craquelurelaw33.RedoTwice", spec := "redoTwice", unfollowed := true, recurses := true, apart := false }
def RedoTwiceSaid : Prop := redoTwiceRow.holds Try.pinned (OpenSpec.ofChange redoTwiceSpec)

/-- ITS FALSE NEIGHBOUR: 'it returns false'. Refute it at one input. -/
def redoTwiceWrong : ChangeSpec := { name := "redoTwice", fn := fun _ => fun
  | [d] => { results := [.lit (.bool false)], args := [d] }
  | _ => none }
def RedoTwiceWrongFalsely : Prop := redoTwiceRow.holds Try.pinned (OpenSpec.ofChange redoTwiceWrong)

/-- 'craquelurelaw33.RedoCrashes': WHATEVER THE INPUT: true; the input reads as it did. -/
def redoCrashesSpec : ChangeSpec := { name := "redoCrashes", fn := fun _ => fun
  | [d1, d2] => { results := [.lit (.bool true)], args := [d1, d2] }
  | _ => none }
def redoCrashesRow : OpenClaim := { program := "ytdkbhbolkieeiaa", sum := "631d4a75e480bbe13a5e7a6d1279f545f4b87432a32ca9579d25ab34e8d72410", func := "craquelure/craquelurelaw33.RedoCrashes", spec := "redoCrashes", unfollowed := true, recurses := true, apart := false }
def RedoCrashesSaid : Prop := redoCrashesRow.holds Try.pinned (OpenSpec.ofChange redoCrashesSpec)

/-- ITS FALSE NEIGHBOUR: 'it returns false'. Refute it at one input. -/
def redoCrashesWrong : ChangeSpec := { name := "redoCrashes", fn := fun _ => fun
  | [d1, d2] => { results := [.lit (.bool false)], args := [d1, d2] }
  | _ => none }
def RedoCrashesWrongFalsely : Prop := redoCrashesRow.holds Try.pinned (OpenSpec.ofChange redoCrashesWrong)

/- THE SECOND FORM. 'bulk': how many values and letters a reading holds, each counted each time it is reached (what is shared counts as often as it is met; a slice's spare places count too). A statement '..UptoSaid' is the law's where the arguments, and the package variables that the reading takes, are together of bulk at most 1048576: NARROWER than '..Said'. Prove '..Said' where nothing that the law and all that it calls make is longer than what came in: it says more and counts as full. Else prove '..UptoSaid'. A law counts once. -/
mutual
def uptoBulk {H : Type} : DataW H → Nat
  | .lit (.string bytes) => bytes.length + 1
  | .lit _ => 1
  | .nil => 1
  | .ptr d => uptoBulk d + 1
  | .slice elems spare => uptoBulkAll elems + uptoBulkAll spare + 1
  | .agg parts => uptoBulkAll parts + 1
  | .iface _ d => uptoBulk d + 1
  | .map entries => uptoBulkEntries entries + 1
  | .held _ => 1
def uptoBulkAll {H : Type} : List (DataW H) → Nat
  | [] => 0
  | d :: r => uptoBulk d + uptoBulkAll r
def uptoBulkEntries {H : Type} : List (Lit × DataW H) → Nat
  | [] => 0
  | x :: r => uptoBulkEntry x + uptoBulkEntries r
def uptoBulkEntry {H : Type} : Lit × DataW H → Nat
  | (.string bytes, d) => bytes.length + uptoBulk d + 1
  | (_, d) => uptoBulk d + 1
 end
def uptoSmall : (H : Type) → List (DataW H) → Bool := fun _ ds => decide (uptoBulkAll ds ≤ 1048576)
def OpenSpec.upto (s : _root_.Go.ChangeSpec) : _root_.Go.OpenSpec := { _root_.Go.OpenSpec.ofChange s with cond := some uptoSmall }

/-- 'craquelurelaw11.ClaimTells', WHERE WHAT IT READS IS OF BULK AT MOST 1048576: true; the input reads as it did. -/
def claimTellsUptoRow : OpenClaim := { program := "ytdkbhbolkieeiaa", sum := "631d4a75e480bbe13a5e7a6d1279f545f4b87432a32ca9579d25ab34e8d72410", func := "craquelure/craquelurelaw11.ClaimTells", spec := "claimTells", unfollowed := true, recurses := true, apart := false, narrowed := true }
def ClaimTellsUptoSaid : Prop := claimTellsUptoRow.holds Try.pinned (OpenSpec.upto claimTellsSpec)

/-- 'craquelurelaw11.ClaimOnce', WHERE WHAT IT READS IS OF BULK AT MOST 1048576: true; the input reads as it did. -/
def claimOnceUptoRow : OpenClaim := { program := "ytdkbhbolkieeiaa", sum := "631d4a75e480bbe13a5e7a6d1279f545f4b87432a32ca9579d25ab34e8d72410", func := "craquelure/craquelurelaw11.ClaimOnce", spec := "claimOnce", unfollowed := true, recurses := true, apart := false, narrowed := true }
def ClaimOnceUptoSaid : Prop := claimOnceUptoRow.holds Try.pinned (OpenSpec.upto claimOnceSpec)

/-- 'craquelurelaw27.JournalLays', WHERE WHAT IT READS IS OF BULK AT MOST 1048576: true; the input reads as it did. -/
def journalLaysUptoRow : OpenClaim := { program := "ytdkbhbolkieeiaa", sum := "631d4a75e480bbe13a5e7a6d1279f545f4b87432a32ca9579d25ab34e8d72410", func := "craquelure/craquelurelaw27.JournalLays", spec := "journalLays", inPlace := ["internal/bytealg.MakeNoZero"], unfollowed := true, recurses := true, apart := false, narrowed := true }
def JournalLaysUptoSaid : Prop := journalLaysUptoRow.holds Try.pinned (OpenSpec.upto journalLaysSpec)

/-- 'craquelurelaw27.JournalReads', WHERE WHAT IT READS IS OF BULK AT MOST 1048576: true; the input reads as it did. -/
def journalReadsUptoRow : OpenClaim := { program := "ytdkbhbolkieeiaa", sum := "631d4a75e480bbe13a5e7a6d1279f545f4b87432a32ca9579d25ab34e8d72410", func := "craquelure/craquelurelaw27.JournalReads", spec := "journalReads", inPlace := ["internal/bytealg.MakeNoZero"], unfollowed := true, recurses := true, apart := false, narrowed := true }
def JournalReadsUptoSaid : Prop := journalReadsUptoRow.holds Try.pinned (OpenSpec.upto journalReadsSpec)

/-- 'craquelurelaw27.JournalBack', WHERE WHAT IT READS IS OF BULK AT MOST 1048576: true; the input reads as it did. -/
def journalBackUptoRow : OpenClaim := { program := "ytdkbhbolkieeiaa", sum := "631d4a75e480bbe13a5e7a6d1279f545f4b87432a32ca9579d25ab34e8d72410", func := "craquelure/craquelurelaw27.JournalBack", spec := "journalBack", inPlace := ["internal/bytealg.MakeNoZero"], unfollowed := true, recurses := true, apart := false, narrowed := true }
def JournalBackUptoSaid : Prop := journalBackUptoRow.holds Try.pinned (OpenSpec.upto journalBackSpec)

/-- 'craquelurelaw33.RedoTwice', WHERE WHAT IT READS IS OF BULK AT MOST 1048576: true; the input reads as it did. -/
def redoTwiceUptoRow : OpenClaim := { program := "ytdkbhbolkieeiaa", sum := "631d4a75e480bbe13a5e7a6d1279f545f4b87432a32ca9579d25ab34e8d72410", func := "craquelure/craquelurelaw33.RedoTwice", spec := "redoTwice", unfollowed := true, recurses := true, apart := false, narrowed := true }
def RedoTwiceUptoSaid : Prop := redoTwiceUptoRow.holds Try.pinned (OpenSpec.upto redoTwiceSpec)

/-- 'craquelurelaw33.RedoCrashes', WHERE WHAT IT READS IS OF BULK AT MOST 1048576: true; the input reads as it did. -/
def redoCrashesUptoRow : OpenClaim := { program := "ytdkbhbolkieeiaa", sum := "631d4a75e480bbe13a5e7a6d1279f545f4b87432a32ca9579d25ab34e8d72410", func := "craquelure/craquelurelaw33.RedoCrashes", spec := "redoCrashes", unfollowed := true, recurses := true, apart := false, narrowed := true }
def RedoCrashesUptoSaid : Prop := redoCrashesUptoRow.holds Try.pinned (OpenSpec.upto redoCrashesSpec)

end Rows
end Go.Proofs.Ytdkbhbolkieeiaa
