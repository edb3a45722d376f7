/-
  No cell of these rows narrows 'for every input' (looked for: loops, veiled, ifaces, maps, wideKeys, modest, calm, conditions, laid).
  DERIVED. THE GIVEN ROWS OF THIS SEAT. 12 by the template 'for every input the law returns true; each argument reads behind the call as it read before'; 0 by the template 'total and deterministic' (their statements: YtdknolnoimpgeaaTotals.lean).
  GIVEN WITH THE SEED: the statements are not yours to turn. If you find one false, say at which input.
  Laid BY PROGRAM, IN A SANDBOX (cutbox-rows.mjs): the forced cells as the released guide's own fill.sh prints them over the translation e42161f3615f3c9c… (all of the seat's roots in one cut). By AI agents, Wed Nov 11 2026. No macro, syntax, notation, axiom, sorry.
-/
import Derived.Test.YtdknolnoimpgeaaChecked
import GoSem.Claim
import GoSem.ClaimJoined
import GoSem.ClaimMapViews
import Derived.JoinedTies
import Derived.KernelRfl
namespace Go.Proofs.Ytdknolnoimpgeaa
/- THE CELL 'sum', in the pinned program and in every row, IS THE sha256 OF THE DUMP (.gsa) THAT YtdknolnoimpgeaaProg.lean LOADS. Nothing in Lean hashes anything: it is a label: what it is worth is what the hold of that sum in a sandbox is worth. -/
noncomputable def Try.pinned : Pinned := { name := "ytdknolnoimpgeaa", sum := "e42161f3615f3c9c964489aa7be56dbddc2c35b914a6d8c14788d6bac73b0f2b", checked := Try.checked }
namespace Rows
def none {H : Type} : Left H := { results := [], args := [] }

/-- 'craquelurelaw06.GeoBytes': WHATEVER THE INPUT: true; the input reads as it did. -/
def geoBytesSpec : ChangeSpec := { name := "geoBytes", fn := fun _ => fun
  | [d1, d2] => { results := [.lit (.bool true)], args := [d1, d2] }
  | _ => none }
def geoBytesRow : OpenClaim := { program := "ytdknolnoimpgeaa", sum := "e42161f3615f3c9c964489aa7be56dbddc2c35b914a6d8c14788d6bac73b0f2b", func := "craquelure/craquelurelaw06.GeoBytes", spec := "geoBytes", apart := false }
def GeoBytesSaid : Prop := geoBytesRow.holds Try.pinned (OpenSpec.ofChange geoBytesSpec)

/-- ITS FALSE NEIGHBOUR: 'it returns false'. Refute it at one input. -/
def geoBytesWrong : ChangeSpec := { name := "geoBytes", fn := fun _ => fun
  | [d1, d2] => { results := [.lit (.bool false)], args := [d1, d2] }
  | _ => none }
def GeoBytesWrongFalsely : Prop := geoBytesRow.holds Try.pinned (OpenSpec.ofChange geoBytesWrong)

/-- 'craquelurelaw09.AttrPuts': WHATEVER THE INPUT: true; the input reads as it did. -/
def attrPutsSpec : ChangeSpec := { name := "attrPuts", fn := fun _ => fun
  | [d1, d2] => { results := [.lit (.bool true)], args := [d1, d2] }
  | _ => none }
def attrPutsRow : OpenClaim := { program := "ytdknolnoimpgeaa", sum := "e42161f3615f3c9c964489aa7be56dbddc2c35b914a6d8c14788d6bac73b0f2b", func := "craquelure/craquelurelaw09.AttrPuts", spec := "attrPuts", apart := false }
def AttrPutsSaid : Prop := attrPutsRow.holds Try.pinned (OpenSpec.ofChange attrPutsSpec)

/-- ITS FALSE NEIGHBOUR: 'it returns false'. Refute it at one input. -/
def attrPutsWrong : ChangeSpec := { name := "attrPuts", fn := fun _ => fun
  | [d1, d2] => { results := [.lit (.bool false)], args := [d1, d2] }
  | _ => none }
def AttrPutsWrongFalsely : Prop := attrPutsRow.holds Try.pinned (OpenSpec.ofChange attrPutsWrong)

/-- 'craquelurelaw09.AttrDrops': WHATEVER THE INPUT: true; the input reads as it did. -/
def attrDropsSpec : ChangeSpec := { name := "attrDrops", fn := fun _ => fun
  | [d1, d2] => { results := [.lit (.bool true)], args := [d1, d2] }
  | _ => none }
def attrDropsRow : OpenClaim := { program := "ytdknolnoimpgeaa", sum := "e42161f3615f3c9c964489aa7be56dbddc2c35b914a6d8c14788d6bac73b0f2b", func := "craquelure/craquelurelaw09.AttrDrops", spec := "attrDrops", apart := false }
def AttrDropsSaid : Prop := attrDropsRow.holds Try.pinned (OpenSpec.ofChange attrDropsSpec)

/-- ITS FALSE NEIGHBOUR: 'it returns false'. Refute it at one input. -/
def attrDropsWrong : ChangeSpec := { name := "attrDrops", fn := fun _ => fun
  | [d1, d2] => { results := [.lit (.bool false)], args := [d1, d2] }
  | _ => none }
def AttrDropsWrongFalsely : Prop := attrDropsRow.holds Try.pinned (OpenSpec.ofChange attrDropsWrong)

/-- 'craquelurelaw06.GeoPlaces': WHATEVER THE INPUT: true; the input reads as it did. -/
def geoPlacesSpec : ChangeSpec := { name := "geoPlaces", fn := fun _ => fun
  | [d1, d2, d3] => { results := [.lit (.bool true)], args := [d1, d2, d3] }
  | _ => none }
def geoPlacesRow : OpenClaim := { program := "ytdknolnoimpgeaa", sum := "e42161f3615f3c9c964489aa7be56dbddc2c35b914a6d8c14788d6bac73b0f2b", func := "craquelure/craquelurelaw06.GeoPlaces", spec := "geoPlaces", apart := false }
def GeoPlacesSaid : Prop := geoPlacesRow.holds Try.pinned (OpenSpec.ofChange geoPlacesSpec)

/-- ITS FALSE NEIGHBOUR: 'it returns false'. Refute it at one input. -/
def geoPlacesWrong : ChangeSpec := { name := "geoPlaces", fn := fun _ => fun
  | [d1, d2, d3] => { results := [.lit (.bool false)], args := [d1, d2, d3] }
  | _ => none }
def GeoPlacesWrongFalsely : Prop := geoPlacesRow.holds Try.pinned (OpenSpec.ofChange geoPlacesWrong)

/-- 'craquelurelaw06.GeoApart': WHATEVER THE INPUT: true; the input reads as it did. -/
def geoApartSpec : ChangeSpec := { name := "geoApart", fn := fun _ => fun
  | [d] => { results := [.lit (.bool true)], args := [d] }
  | _ => none }
def geoApartRow : OpenClaim := { program := "ytdknolnoimpgeaa", sum := "e42161f3615f3c9c964489aa7be56dbddc2c35b914a6d8c14788d6bac73b0f2b", func := "craquelure/craquelurelaw06.GeoApart", spec := "geoApart", apart := false }
def GeoApartSaid : Prop := geoApartRow.holds Try.pinned (OpenSpec.ofChange geoApartSpec)

/-- ITS FALSE NEIGHBOUR: 'it returns false'. Refute it at one input. -/
def geoApartWrong : ChangeSpec := { name := "geoApart", fn := fun _ => fun
  | [d] => { results := [.lit (.bool false)], args := [d] }
  | _ => none }
def GeoApartWrongFalsely : Prop := geoApartRow.holds Try.pinned (OpenSpec.ofChange geoApartWrong)

/-- 'craquelurelaw07.InodePuts': WHATEVER THE INPUT: true; the input reads as it did. -/
def inodePutsSpec : ChangeSpec := { name := "inodePuts", fn := fun _ => fun
  | [d] => { results := [.lit (.bool true)], args := [d] }
  | _ => none }
def inodePutsRow : OpenClaim := { program := "ytdknolnoimpgeaa", sum := "e42161f3615f3c9c964489aa7be56dbddc2c35b914a6d8c14788d6bac73b0f2b", func := "craquelure/craquelurelaw07.InodePuts", spec := "inodePuts", apart := false }
def InodePutsSaid : Prop := inodePutsRow.holds Try.pinned (OpenSpec.ofChange inodePutsSpec)

/-- ITS FALSE NEIGHBOUR: 'it returns false'. Refute it at one input. -/
def inodePutsWrong : ChangeSpec := { name := "inodePuts", fn := fun _ => fun
  | [d] => { results := [.lit (.bool false)], args := [d] }
  | _ => none }
def InodePutsWrongFalsely : Prop := inodePutsRow.holds Try.pinned (OpenSpec.ofChange inodePutsWrong)

/-- 'craquelurelaw07.InodeGets': WHATEVER THE INPUT: true; the input reads as it did. -/
def inodeGetsSpec : ChangeSpec := { name := "inodeGets", fn := fun _ => fun
  | [d] => { results := [.lit (.bool true)], args := [d] }
  | _ => none }
def inodeGetsRow : OpenClaim := { program := "ytdknolnoimpgeaa", sum := "e42161f3615f3c9c964489aa7be56dbddc2c35b914a6d8c14788d6bac73b0f2b", func := "craquelure/craquelurelaw07.InodeGets", spec := "inodeGets", apart := false }
def InodeGetsSaid : Prop := inodeGetsRow.holds Try.pinned (OpenSpec.ofChange inodeGetsSpec)

/-- ITS FALSE NEIGHBOUR: 'it returns false'. Refute it at one input. -/
def inodeGetsWrong : ChangeSpec := { name := "inodeGets", fn := fun _ => fun
  | [d] => { results := [.lit (.bool false)], args := [d] }
  | _ => none }
def InodeGetsWrongFalsely : Prop := inodeGetsRow.holds Try.pinned (OpenSpec.ofChange inodeGetsWrong)

/-- 'craquelurelaw08.EntryPuts': WHATEVER THE INPUT: true; the input reads as it did. -/
def entryPutsSpec : ChangeSpec := { name := "entryPuts", fn := fun _ => fun
  | [d1, d2, d3] => { results := [.lit (.bool true)], args := [d1, d2, d3] }
  | _ => none }
def entryPutsRow : OpenClaim := { program := "ytdknolnoimpgeaa", sum := "e42161f3615f3c9c964489aa7be56dbddc2c35b914a6d8c14788d6bac73b0f2b", func := "craquelure/craquelurelaw08.EntryPuts", spec := "entryPuts", unfollowed := true, recurses := true, apart := false }
def EntryPutsSaid : Prop := entryPutsRow.holds Try.pinned (OpenSpec.ofChange entryPutsSpec)

/-- ITS FALSE NEIGHBOUR: 'it returns false'. Refute it at one input. -/
def entryPutsWrong : ChangeSpec := { name := "entryPuts", fn := fun _ => fun
  | [d1, d2, d3] => { results := [.lit (.bool false)], args := [d1, d2, d3] }
  | _ => none }
def EntryPutsWrongFalsely : Prop := entryPutsRow.holds Try.pinned (OpenSpec.ofChange entryPutsWrong)

/-- 'craquelurelaw08.EntryBack': WHATEVER THE INPUT: true; the input reads as it did. -/
def entryBackSpec : ChangeSpec := { name := "entryBack", fn := fun _ => fun
  | [d1, d2, d3] => { results := [.lit (.bool true)], args := [d1, d2, d3] }
  | _ => none }
def entryBackRow : OpenClaim := { program := "ytdknolnoimpgeaa", sum := "e42161f3615f3c9c964489aa7be56dbddc2c35b914a6d8c14788d6bac73b0f2b", func := "craquelure/craquelurelaw08.EntryBack", spec := "entryBack", unfollowed := true, recurses := true, apart := false }
def EntryBackSaid : Prop := entryBackRow.holds Try.pinned (OpenSpec.ofChange entryBackSpec)

/-- ITS FALSE NEIGHBOUR: 'it returns false'. Refute it at one input. -/
def entryBackWrong : ChangeSpec := { name := "entryBack", fn := fun _ => fun
  | [d1, d2, d3] => { results := [.lit (.bool false)], args := [d1, d2, d3] }
  | _ => none }
def EntryBackWrongFalsely : Prop := entryBackRow.holds Try.pinned (OpenSpec.ofChange entryBackWrong)

/-- 'craquelurelaw05.DevNil': WHATEVER THE INPUT: true; the input reads as it did. -/
def devNilSpec : ChangeSpec := { name := "devNil", fn := fun _ => fun
  | [d1, d2] => { results := [.lit (.bool true)], args := [d1, d2] }
  | _ => none }
def devNilRow : OpenClaim := { program := "ytdknolnoimpgeaa", sum := "e42161f3615f3c9c964489aa7be56dbddc2c35b914a6d8c14788d6bac73b0f2b", func := "craquelure/craquelurelaw05.DevNil", spec := "devNil", inPlace := ["internal/bytealg.MakeNoZero"], apart := false }
def DevNilSaid : Prop := devNilRow.holds Try.pinned (OpenSpec.ofChange devNilSpec)

/-- ITS FALSE NEIGHBOUR: 'it returns false'. Refute it at one input. -/
def devNilWrong : ChangeSpec := { name := "devNil", fn := fun _ => fun
  | [d1, d2] => { results := [.lit (.bool false)], args := [d1, d2] }
  | _ => none }
def DevNilWrongFalsely : Prop := devNilRow.holds Try.pinned (OpenSpec.ofChange devNilWrong)

/-- 'craquelurelaw05.DevSafe': WHATEVER THE INPUT: true; the input reads as it did. -/
def devSafeSpec : ChangeSpec := { name := "devSafe", fn := fun _ => fun
  | [d1, d2, d3] => { results := [.lit (.bool true)], args := [d1, d2, d3] }
  | _ => none }
def devSafeRow : OpenClaim := { program := "ytdknolnoimpgeaa", sum := "e42161f3615f3c9c964489aa7be56dbddc2c35b914a6d8c14788d6bac73b0f2b", func := "craquelure/craquelurelaw05.DevSafe", spec := "devSafe", inPlace := ["internal/bytealg.MakeNoZero"], unfollowed := true, recurses := true, apart := false }
def DevSafeSaid : Prop := devSafeRow.holds Try.pinned (OpenSpec.ofChange devSafeSpec)

/-- ITS FALSE NEIGHBOUR: 'it returns false'. Refute it at one input. -/
def devSafeWrong : ChangeSpec := { name := "devSafe", fn := fun _ => fun
  | [d1, d2, d3] => { results := [.lit (.bool false)], args := [d1, d2, d3] }
  | _ => none }
def DevSafeWrongFalsely : Prop := devSafeRow.holds Try.pinned (OpenSpec.ofChange devSafeWrong)

/-- 'craquelurelaw05.DevSteps': WHATEVER THE INPUT: true; the input reads as it did. -/
def devStepsSpec : ChangeSpec := { name := "devSteps", fn := fun _ => fun
  | [d1, d2] => { results := [.lit (.bool true)], args := [d1, d2] }
  | _ => none }
def devStepsRow : OpenClaim := { program := "ytdknolnoimpgeaa", sum := "e42161f3615f3c9c964489aa7be56dbddc2c35b914a6d8c14788d6bac73b0f2b", func := "craquelure/craquelurelaw05.DevSteps", spec := "devSteps", inPlace := ["internal/bytealg.MakeNoZero"], unfollowed := true, recurses := true, apart := false }
def DevStepsSaid : Prop := devStepsRow.holds Try.pinned (OpenSpec.ofChange devStepsSpec)

/-- ITS FALSE NEIGHBOUR: 'it returns false'. Refute it at one input. -/
def devStepsWrong : ChangeSpec := { name := "devSteps", fn := fun _ => fun
  | [d1, d2] => { results := [.lit (.bool false)], args := [d1, d2] }
  | _ => none }
def DevStepsWrongFalsely : Prop := devStepsRow.holds Try.pinned (OpenSpec.ofChange devStepsWrong)

/- THE SECOND FORM. 'bulk': how many values and letters a reading holds, each counted each time it is reached (what is shared counts as often as it is met; a slice's spare places count too). A statement '..UptoSaid' is the law's where the arguments, and the package variables that the reading takes, are together of bulk at most 1048576: NARROWER than '..Said'. Prove '..Said' where nothing that the law and all that it calls make is longer than what came in: it says more and counts as full. Else prove '..UptoSaid'. A law counts once. -/
mutual
def uptoBulk {H : Type} : DataW H → Nat
  | .lit (.string bytes) => bytes.length + 1
  | .lit _ => 1
  | .nil => 1
  | .ptr d => uptoBulk d + 1
  | .slice elems spare => uptoBulkAll elems + uptoBulkAll spare + 1
  | .agg parts => uptoBulkAll parts + 1
  | .iface _ d => uptoBulk d + 1
  | .map entries => uptoBulkEntries entries + 1
  | .held _ => 1
def uptoBulkAll {H : Type} : List (DataW H) → Nat
  | [] => 0
  | d :: r => uptoBulk d + uptoBulkAll r
def uptoBulkEntries {H : Type} : List (Lit × DataW H) → Nat
  | [] => 0
  | x :: r => uptoBulkEntry x + uptoBulkEntries r
def uptoBulkEntry {H : Type} : Lit × DataW H → Nat
  | (.string bytes, d) => bytes.length + uptoBulk d + 1
  | (_, d) => uptoBulk d + 1
 end
def uptoSmall : (H : Type) → List (DataW H) → Bool := fun _ ds => decide (uptoBulkAll ds ≤ 1048576)
def OpenSpec.upto (s : _root_.Go.ChangeSpec) : _root_.Go.OpenSpec := { _root_.Go.OpenSpec.ofChange s with cond := some uptoSmall }

/-- 'craquelurelaw06.GeoBytes', WHERE WHAT IT READS IS OF BULK AT MOST 1048576: true; the input reads as it did. -/
def geoBytesUptoRow : OpenClaim := { program := "ytdknolnoimpgeaa", sum := "e42161f3615f3c9c964489aa7be56dbddc2c35b914a6d8c14788d6bac73b0f2b", func := "craquelure/craquelurelaw06.GeoBytes", spec := "geoBytes", apart := false, narrowed := true }
def GeoBytesUptoSaid : Prop := geoBytesUptoRow.holds Try.pinned (OpenSpec.upto geoBytesSpec)

/-- 'craquelurelaw09.AttrPuts', WHERE WHAT IT READS IS OF BULK AT MOST 1048576: true; the input reads as it did. -/
def attrPutsUptoRow : OpenClaim := { program := "ytdknolnoimpgeaa", sum := "e42161f3615f3c9c964489aa7be56dbddc2c35b914a6d8c14788d6bac73b0f2b", func := "craquelure/craquelurelaw09.AttrPuts", spec := "attrPuts", apart := false, narrowed := true }
def AttrPutsUptoSaid : Prop := attrPutsUptoRow.holds Try.pinned (OpenSpec.upto attrPutsSpec)

/-- 'craquelurelaw09.AttrDrops', WHERE WHAT IT READS IS OF BULK AT MOST 1048576: true; the input reads as it did. -/
def attrDropsUptoRow : OpenClaim := { program := "ytdknolnoimpgeaa", sum := "e42161f3615f3c9c964489aa7be56dbddc2c35b914a6d8c14788d6bac73b0f2b", func := "craquelure/craquelurelaw09.AttrDrops", spec := "attrDrops", apart := false, narrowed := true }
def AttrDropsUptoSaid : Prop := attrDropsUptoRow.holds Try.pinned (OpenSpec.upto attrDropsSpec)

/-- 'craquelurelaw06.GeoPlaces', WHERE WHAT IT READS IS OF BULK AT MOST 1048576: true; the input reads as it did. -/
def geoPlacesUptoRow : OpenClaim := { program := "ytdknolnoimpgeaa", sum := "e42161f3615f3c9c964489aa7be56dbddc2c35b914a6d8c14788d6bac73b0f2b", func := "craquelure/craquelurelaw06.GeoPlaces", spec := "geoPlaces", apart := false, narrowed := true }
def GeoPlacesUptoSaid : Prop := geoPlacesUptoRow.holds Try.pinned (OpenSpec.upto geoPlacesSpec)

/-- 'craquelurelaw06.GeoApart', WHERE WHAT IT READS IS OF BULK AT MOST 1048576: true; the input reads as it did. -/
def geoApartUptoRow : OpenClaim := { program := "ytdknolnoimpgeaa", sum := "e42161f3615f3c9c964489aa7be56dbddc2c35b914a6d8c14788d6bac73b0f2b", func := "craquelure/craquelurelaw06.GeoApart", spec := "geoApart", apart := false, narrowed := true }
def GeoApartUptoSaid : Prop := geoApartUptoRow.holds Try.pinned (OpenSpec.upto geoApartSpec)

/-- 'craquelurelaw07.InodePuts', WHERE WHAT IT READS IS OF BULK AT MOST 1048576: true; the input reads as it did. -/
def inodePutsUptoRow : OpenClaim := { program := "ytdknolnoimpgeaa", sum := "e42161f3615f3c9c964489aa7be56dbddc2c35b914a6d8c14788d6bac73b0f2b", func := "craquelure/craquelurelaw07.InodePuts", spec := "inodePuts", apart := false, narrowed := true }
def InodePutsUptoSaid : Prop := inodePutsUptoRow.holds Try.pinned (OpenSpec.upto inodePutsSpec)

/-- 'craquelurelaw07.InodeGets', WHERE WHAT IT READS IS OF BULK AT MOST 1048576: true; the input reads as it did. -/
def inodeGetsUptoRow : OpenClaim := { program := "ytdknolnoimpgeaa", sum := "e42161f3615f3c9c964489aa7be56dbddc2c35b914a6d8c14788d6bac73b0f2b", func := "craquelure/craquelurelaw07.InodeGets", spec := "inodeGets", apart := false, narrowed := true }
def InodeGetsUptoSaid : Prop := inodeGetsUptoRow.holds Try.pinned (OpenSpec.upto inodeGetsSpec)

/-- 'craquelurelaw08.EntryPuts', WHERE WHAT IT READS IS OF BULK AT MOST 1048576: true; the input reads as it did. -/
def entryPutsUptoRow : OpenClaim := { program := "ytdknolnoimpgeaa", sum := "e42161f3615f3c9c964489aa7be56dbddc2c35b914a6d8c14788d6bac73b0f2b", func := "craquelure/craquelurelaw08.EntryPuts", spec := "entryPuts", unfollowed := true, recurses := true, apart := false, narrowed := true }
def EntryPutsUptoSaid : Prop := entryPutsUptoRow.holds Try.pinned (OpenSpec.upto entryPutsSpec)

/-- 'craquelurelaw08.EntryBack', WHERE WHAT IT READS IS OF BULK AT MOST 1048576: true; the input reads as it did. -/
def entryBackUptoRow : OpenClaim := { program := "ytdknolnoimpgeaa", sum := "e42161f3615f3c9c964489aa7be56dbddc2c35b914a6d8c14788d6bac73b0f2b", func := "craquelure/craquelurelaw08.EntryBack", spec := "entryBack", unfollowed := true, recurses := true, apart := false, narrowed := true }
def EntryBackUptoSaid : Prop := entryBackUptoRow.holds Try.pinned (OpenSpec.upto entryBackSpec)

/-- 'craquelurelaw05.DevNil', WHERE WHAT IT READS IS OF BULK AT MOST 1048576: true; the input reads as it did. -/
def devNilUptoRow : OpenClaim := { program := "ytdknolnoimpgeaa", sum := "e42161f3615f3c9c964489aa7be56dbddc2c35b914a6d8c14788d6bac73b0f2b", func := "craquelure/craquelurelaw05.DevNil", spec := "devNil", inPlace := ["internal/bytealg.MakeNoZero"], apart := false, narrowed := true }
def DevNilUptoSaid : Prop := devNilUptoRow.holds Try.pinned (OpenSpec.upto devNilSpec)

/-- 'craquelurelaw05.DevSafe', WHERE WHAT IT READS IS OF BULK AT MOST 1048576: true; the input reads as it did. -/
def devSafeUptoRow : OpenClaim := { program := "ytdknolnoimpgeaa", sum := "e42161f3615f3c9c964489aa7be56dbddc2c35b914a6d8c14788d6bac73b0f2b", func := "craquelure/craquelurelaw05.DevSafe", spec := "devSafe", inPlace := ["internal/bytealg.MakeNoZero"], unfollowed := true, recurses := true, apart := false, narrowed := true }
def DevSafeUptoSaid : Prop := devSafeUptoRow.holds Try.pinned (OpenSpec.upto devSafeSpec)

/-- 'craquelurelaw05.DevSteps', WHERE WHAT IT READS IS OF BULK AT MOST 1048576: true; the input reads as it did. -/
def devStepsUptoRow : OpenClaim := { program := "ytdknolnoimpgeaa", sum := "e42161f3615f3c9c964489aa7be56dbddc2c35b914a6d8c14788d6bac73b0f2b", func := "craquelure/craquelurelaw05.DevSteps", spec := "devSteps", inPlace := ["internal/bytealg.MakeNoZero"], unfollowed := true, recurses := true, apart := false, narrowed := true }
def DevStepsUptoSaid : Prop := devStepsUptoRow.holds Try.pinned (OpenSpec.upto devStepsSpec)

end Rows
end Go.Proofs.Ytdknolnoimpgeaa
