/-
  No cell of these rows narrows 'for every input' (looked for: loops, veiled, ifaces, maps, wideKeys, modest, calm, conditions, laid).
  DERIVED. THE GIVEN ROWS OF THIS SEAT. 12 by the template 'for every input the law returns true; each argument reads behind the call as it read before'; 0 by the template 'total and deterministic' (their statements: YtjcofbjfolaoiaaTotals.lean).
  GIVEN WITH THE SEED: the statements are not yours to turn. If you find one false, say at which input.
  Laid BY PROGRAM, IN A SANDBOX (cutbox-rows.mjs): the forced cells as the released guide's own fill.sh prints them over the translation 02a120a1dd0d1d90… (all of the seat's roots in one cut). By AI agents, Wed Nov 11 2026. No macro, syntax, notation, axiom, sorry.
-/
import Derived.Test.YtjcofbjfolaoiaaChecked
import GoSem.Claim
import GoSem.ClaimJoined
import GoSem.ClaimMapViews
import Derived.JoinedTies
import Derived.KernelRfl
namespace Go.Proofs.Ytjcofbjfolaoiaa
/- THE CELL 'sum', in the pinned program and in every row, IS THE sha256 OF THE DUMP (.gsa) THAT YtjcofbjfolaoiaaProg.lean LOADS. Nothing in Lean hashes anything: it is a label: what it is worth is what the hold of that sum in a sandbox is worth. -/
noncomputable def Try.pinned : Pinned := { name := "ytjcofbjfolaoiaa", sum := "02a120a1dd0d1d90bcb5ebb12c58579a4d7fcb6cfa8ab97b6eaa27dfd2c629ca", checked := Try.checked }
namespace Rows
def none {H : Type} : Left H := { results := [], args := [] }

/-- 'chatelainelaw13.DiskPlays': WHATEVER THE INPUT: true; the input reads as it did. -/
def diskPlaysSpec : ChangeSpec := { name := "diskPlays", fn := fun _ => fun
  | [d1, d2, d3] => { results := [.lit (.bool true)], args := [d1, d2, d3] }
  | _ => none }
def diskPlaysRow : OpenClaim := { program := "ytjcofbjfolaoiaa", sum := "02a120a1dd0d1d90bcb5ebb12c58579a4d7fcb6cfa8ab97b6eaa27dfd2c629ca", func := "chatelaine/chatelainelaw13.DiskPlays", spec := "diskPlays", unfollowed := true, recurses := true, apart := false }
def DiskPlaysSaid : Prop := diskPlaysRow.holds Try.pinned (OpenSpec.ofChange diskPlaysSpec)

/-- ITS FALSE NEIGHBOUR: 'it returns false'. Refute it at one input. -/
def diskPlaysWrong : ChangeSpec := { name := "diskPlays", fn := fun _ => fun
  | [d1, d2, d3] => { results := [.lit (.bool false)], args := [d1, d2, d3] }
  | _ => none }
def DiskPlaysWrongFalsely : Prop := diskPlaysRow.holds Try.pinned (OpenSpec.ofChange diskPlaysWrong)

/-- 'chatelainelaw13.DiskKeeps': WHATEVER THE INPUT: true; the input reads as it did. -/
def diskKeepsSpec : ChangeSpec := { name := "diskKeeps", fn := fun _ => fun
  | [d1, d2] => { results := [.lit (.bool true)], args := [d1, d2] }
  | _ => none }
def diskKeepsRow : OpenClaim := { program := "ytjcofbjfolaoiaa", sum := "02a120a1dd0d1d90bcb5ebb12c58579a4d7fcb6cfa8ab97b6eaa27dfd2c629ca", func := "chatelaine/chatelainelaw13.DiskKeeps", spec := "diskKeeps", unfollowed := true, recurses := true, apart := false }
def DiskKeepsSaid : Prop := diskKeepsRow.holds Try.pinned (OpenSpec.ofChange diskKeepsSpec)

/-- ITS FALSE NEIGHBOUR: 'it returns false'. Refute it at one input. -/
def diskKeepsWrong : ChangeSpec := { name := "diskKeeps", fn := fun _ => fun
  | [d1, d2] => { results := [.lit (.bool false)], args := [d1, d2] }
  | _ => none }
def DiskKeepsWrongFalsely : Prop := diskKeepsRow.holds Try.pinned (OpenSpec.ofChange diskKeepsWrong)

/-- 'chatelainelaw18.SuperLays': WHATEVER THE INPUT: true; the input reads as it did. -/
def superLaysSpec : ChangeSpec := { name := "superLays", fn := fun _ => fun
  | [d1, d2] => { results := [.lit (.bool true)], args := [d1, d2] }
  | _ => none }
def superLaysRow : OpenClaim := { program := "ytjcofbjfolaoiaa", sum := "02a120a1dd0d1d90bcb5ebb12c58579a4d7fcb6cfa8ab97b6eaa27dfd2c629ca", func := "chatelaine/chatelainelaw18.SuperLays", spec := "superLays", unfollowed := true, recurses := true, apart := false }
def SuperLaysSaid : Prop := superLaysRow.holds Try.pinned (OpenSpec.ofChange superLaysSpec)

/-- ITS FALSE NEIGHBOUR: 'it returns false'. Refute it at one input. -/
def superLaysWrong : ChangeSpec := { name := "superLays", fn := fun _ => fun
  | [d1, d2] => { results := [.lit (.bool false)], args := [d1, d2] }
  | _ => none }
def SuperLaysWrongFalsely : Prop := superLaysRow.holds Try.pinned (OpenSpec.ofChange superLaysWrong)

/-- 'chatelainelaw18.SuperTakes': WHATEVER THE INPUT: true; the input reads as it did. -/
def superTakesSpec : ChangeSpec := { name := "superTakes", fn := fun _ => fun
  | [d1, d2] => { results := [.lit (.bool true)], args := [d1, d2] }
  | _ => none }
def superTakesRow : OpenClaim := { program := "ytjcofbjfolaoiaa", sum := "02a120a1dd0d1d90bcb5ebb12c58579a4d7fcb6cfa8ab97b6eaa27dfd2c629ca", func := "chatelaine/chatelainelaw18.SuperTakes", spec := "superTakes", unfollowed := true, recurses := true, apart := false }
def SuperTakesSaid : Prop := superTakesRow.holds Try.pinned (OpenSpec.ofChange superTakesSpec)

/-- ITS FALSE NEIGHBOUR: 'it returns false'. Refute it at one input. -/
def superTakesWrong : ChangeSpec := { name := "superTakes", fn := fun _ => fun
  | [d1, d2] => { results := [.lit (.bool false)], args := [d1, d2] }
  | _ => none }
def SuperTakesWrongFalsely : Prop := superTakesRow.holds Try.pinned (OpenSpec.ofChange superTakesWrong)

/-- 'chatelainelaw18.SuperBack': WHATEVER THE INPUT: true; the input reads as it did. -/
def superBackSpec : ChangeSpec := { name := "superBack", fn := fun _ => fun
  | [d1, d2] => { results := [.lit (.bool true)], args := [d1, d2] }
  | _ => none }
def superBackRow : OpenClaim := { program := "ytjcofbjfolaoiaa", sum := "02a120a1dd0d1d90bcb5ebb12c58579a4d7fcb6cfa8ab97b6eaa27dfd2c629ca", func := "chatelaine/chatelainelaw18.SuperBack", spec := "superBack", unfollowed := true, recurses := true, apart := false }
def SuperBackSaid : Prop := superBackRow.holds Try.pinned (OpenSpec.ofChange superBackSpec)

/-- ITS FALSE NEIGHBOUR: 'it returns false'. Refute it at one input. -/
def superBackWrong : ChangeSpec := { name := "superBack", fn := fun _ => fun
  | [d1, d2] => { results := [.lit (.bool false)], args := [d1, d2] }
  | _ => none }
def SuperBackWrongFalsely : Prop := superBackRow.holds Try.pinned (OpenSpec.ofChange superBackWrong)

/-- 'chatelainelaw17.JournalPacks': WHATEVER THE INPUT: true; the input reads as it did. -/
def journalPacksSpec : ChangeSpec := { name := "journalPacks", fn := fun _ => fun
  | [d1, d2, d3] => { results := [.lit (.bool true)], args := [d1, d2, d3] }
  | _ => none }
def journalPacksRow : OpenClaim := { program := "ytjcofbjfolaoiaa", sum := "02a120a1dd0d1d90bcb5ebb12c58579a4d7fcb6cfa8ab97b6eaa27dfd2c629ca", func := "chatelaine/chatelainelaw17.JournalPacks", spec := "journalPacks", unfollowed := true, recurses := true, apart := false }
def JournalPacksSaid : Prop := journalPacksRow.holds Try.pinned (OpenSpec.ofChange journalPacksSpec)

/-- ITS FALSE NEIGHBOUR: 'it returns false'. Refute it at one input. -/
def journalPacksWrong : ChangeSpec := { name := "journalPacks", fn := fun _ => fun
  | [d1, d2, d3] => { results := [.lit (.bool false)], args := [d1, d2, d3] }
  | _ => none }
def JournalPacksWrongFalsely : Prop := journalPacksRow.holds Try.pinned (OpenSpec.ofChange journalPacksWrong)

/-- 'chatelainelaw17.JournalUnpacks': WHATEVER THE INPUT: true; the input reads as it did. -/
def journalUnpacksSpec : ChangeSpec := { name := "journalUnpacks", fn := fun _ => fun
  | [d1, d2] => { results := [.lit (.bool true)], args := [d1, d2] }
  | _ => none }
def journalUnpacksRow : OpenClaim := { program := "ytjcofbjfolaoiaa", sum := "02a120a1dd0d1d90bcb5ebb12c58579a4d7fcb6cfa8ab97b6eaa27dfd2c629ca", func := "chatelaine/chatelainelaw17.JournalUnpacks", spec := "journalUnpacks", unfollowed := true, recurses := true, apart := false }
def JournalUnpacksSaid : Prop := journalUnpacksRow.holds Try.pinned (OpenSpec.ofChange journalUnpacksSpec)

/-- ITS FALSE NEIGHBOUR: 'it returns false'. Refute it at one input. -/
def journalUnpacksWrong : ChangeSpec := { name := "journalUnpacks", fn := fun _ => fun
  | [d1, d2] => { results := [.lit (.bool false)], args := [d1, d2] }
  | _ => none }
def JournalUnpacksWrongFalsely : Prop := journalUnpacksRow.holds Try.pinned (OpenSpec.ofChange journalUnpacksWrong)

/-- 'chatelainelaw17.JournalBack': WHATEVER THE INPUT: true; the input reads as it did. -/
def journalBackSpec : ChangeSpec := { name := "journalBack", fn := fun _ => fun
  | [d1, d2, d3] => { results := [.lit (.bool true)], args := [d1, d2, d3] }
  | _ => none }
def journalBackRow : OpenClaim := { program := "ytjcofbjfolaoiaa", sum := "02a120a1dd0d1d90bcb5ebb12c58579a4d7fcb6cfa8ab97b6eaa27dfd2c629ca", func := "chatelaine/chatelainelaw17.JournalBack", spec := "journalBack", unfollowed := true, recurses := true, apart := false }
def JournalBackSaid : Prop := journalBackRow.holds Try.pinned (OpenSpec.ofChange journalBackSpec)

/-- ITS FALSE NEIGHBOUR: 'it returns false'. Refute it at one input. -/
def journalBackWrong : ChangeSpec := { name := "journalBack", fn := fun _ => fun
  | [d1, d2, d3] => { results := [.lit (.bool false)], args := [d1, d2, d3] }
  | _ => none }
def JournalBackWrongFalsely : Prop := journalBackRow.holds Try.pinned (OpenSpec.ofChange journalBackWrong)

/-- 'chatelainelaw26.AdminlogBinds': WHATEVER THE INPUT: true; the input reads as it did. -/
def adminlogBindsSpec : ChangeSpec := { name := "adminlogBinds", fn := fun _ => fun
  | [d1, d2, d3] => { results := [.lit (.bool true)], args := [d1, d2, d3] }
  | _ => none }
def adminlogBindsRow : OpenClaim := { program := "ytjcofbjfolaoiaa", sum := "02a120a1dd0d1d90bcb5ebb12c58579a4d7fcb6cfa8ab97b6eaa27dfd2c629ca", func := "chatelaine/chatelainelaw26.AdminlogBinds", spec := "adminlogBinds", inPlace := ["internal/bytealg.IndexByteString"], unfollowed := true, recurses := true, apart := false }
def AdminlogBindsSaid : Prop := adminlogBindsRow.holds Try.pinned (OpenSpec.ofChange adminlogBindsSpec)

/-- ITS FALSE NEIGHBOUR: 'it returns false'. Refute it at one input. -/
def adminlogBindsWrong : ChangeSpec := { name := "adminlogBinds", fn := fun _ => fun
  | [d1, d2, d3] => { results := [.lit (.bool false)], args := [d1, d2, d3] }
  | _ => none }
def AdminlogBindsWrongFalsely : Prop := adminlogBindsRow.holds Try.pinned (OpenSpec.ofChange adminlogBindsWrong)

/-- 'chatelainelaw26.AdminlogHeads': WHATEVER THE INPUT: true; the input reads as it did. -/
def adminlogHeadsSpec : ChangeSpec := { name := "adminlogHeads", fn := fun _ => fun
  | [d1, d2, d3] => { results := [.lit (.bool true)], args := [d1, d2, d3] }
  | _ => none }
def adminlogHeadsRow : OpenClaim := { program := "ytjcofbjfolaoiaa", sum := "02a120a1dd0d1d90bcb5ebb12c58579a4d7fcb6cfa8ab97b6eaa27dfd2c629ca", func := "chatelaine/chatelainelaw26.AdminlogHeads", spec := "adminlogHeads", inPlace := ["internal/bytealg.IndexByteString"], unfollowed := true, recurses := true, apart := false }
def AdminlogHeadsSaid : Prop := adminlogHeadsRow.holds Try.pinned (OpenSpec.ofChange adminlogHeadsSpec)

/-- ITS FALSE NEIGHBOUR: 'it returns false'. Refute it at one input. -/
def adminlogHeadsWrong : ChangeSpec := { name := "adminlogHeads", fn := fun _ => fun
  | [d1, d2, d3] => { results := [.lit (.bool false)], args := [d1, d2, d3] }
  | _ => none }
def AdminlogHeadsWrongFalsely : Prop := adminlogHeadsRow.holds Try.pinned (OpenSpec.ofChange adminlogHeadsWrong)

/-- 'chatelainelaw26.AdminlogBytes': WHATEVER THE INPUT: true; the input reads as it did. -/
def adminlogBytesSpec : ChangeSpec := { name := "adminlogBytes", fn := fun _ => fun
  | [d1, d2] => { results := [.lit (.bool true)], args := [d1, d2] }
  | _ => none }
def adminlogBytesRow : OpenClaim := { program := "ytjcofbjfolaoiaa", sum := "02a120a1dd0d1d90bcb5ebb12c58579a4d7fcb6cfa8ab97b6eaa27dfd2c629ca", func := "chatelaine/chatelainelaw26.AdminlogBytes", spec := "adminlogBytes", inPlace := ["internal/bytealg.IndexByteString"], unfollowed := true, recurses := true, apart := false }
def AdminlogBytesSaid : Prop := adminlogBytesRow.holds Try.pinned (OpenSpec.ofChange adminlogBytesSpec)

/-- ITS FALSE NEIGHBOUR: 'it returns false'. Refute it at one input. -/
def adminlogBytesWrong : ChangeSpec := { name := "adminlogBytes", fn := fun _ => fun
  | [d1, d2] => { results := [.lit (.bool false)], args := [d1, d2] }
  | _ => none }
def AdminlogBytesWrongFalsely : Prop := adminlogBytesRow.holds Try.pinned (OpenSpec.ofChange adminlogBytesWrong)

/-- 'chatelainelaw41.BoundTells': WHATEVER THE INPUT: true; the input reads as it did. -/
def boundTellsSpec : ChangeSpec := { name := "boundTells", fn := fun _ => fun
  | [d1, d2, d3] => { results := [.lit (.bool true)], args := [d1, d2, d3] }
  | _ => none }
def boundTellsRow : OpenClaim := { program := "ytjcofbjfolaoiaa", sum := "02a120a1dd0d1d90bcb5ebb12c58579a4d7fcb6cfa8ab97b6eaa27dfd2c629ca", func := "chatelaine/chatelainelaw41.BoundTells", spec := "boundTells", unfollowed := true, recurses := true, apart := false }
def BoundTellsSaid : Prop := boundTellsRow.holds Try.pinned (OpenSpec.ofChange boundTellsSpec)

/-- ITS FALSE NEIGHBOUR: 'it returns false'. Refute it at one input. -/
def boundTellsWrong : ChangeSpec := { name := "boundTells", fn := fun _ => fun
  | [d1, d2, d3] => { results := [.lit (.bool false)], args := [d1, d2, d3] }
  | _ => none }
def BoundTellsWrongFalsely : Prop := boundTellsRow.holds Try.pinned (OpenSpec.ofChange boundTellsWrong)

/- THE SECOND FORM. 'bulk': how many values and letters a reading holds, each counted each time it is reached (what is shared counts as often as it is met; a slice's spare places count too). A statement '..UptoSaid' is the law's where the arguments, and the package variables that the reading takes, are together of bulk at most 1048576: NARROWER than '..Said'. Prove '..Said' where nothing that the law and all that it calls make is longer than what came in: it says more and counts as full. Else prove '..UptoSaid'. A law counts once. -/
mutual
def uptoBulk {H : Type} : DataW H → Nat
  | .lit (.string bytes) => bytes.length + 1
  | .lit _ => 1
  | .nil => 1
  | .ptr d => uptoBulk d + 1
  | .slice elems spare => uptoBulkAll elems + uptoBulkAll spare + 1
  | .agg parts => uptoBulkAll parts + 1
  | .iface _ d => uptoBulk d + 1
  | .map entries => uptoBulkEntries entries + 1
  | .held _ => 1
def uptoBulkAll {H : Type} : List (DataW H) → Nat
  | [] => 0
  | d :: r => uptoBulk d + uptoBulkAll r
def uptoBulkEntries {H : Type} : List (Lit × DataW H) → Nat
  | [] => 0
  | x :: r => uptoBulkEntry x + uptoBulkEntries r
def uptoBulkEntry {H : Type} : Lit × DataW H → Nat
  | (.string bytes, d) => bytes.length + uptoBulk d + 1
  | (_, d) => uptoBulk d + 1
 end
def uptoSmall : (H : Type) → List (DataW H) → Bool := fun _ ds => decide (uptoBulkAll ds ≤ 1048576)
def OpenSpec.upto (s : _root_.Go.ChangeSpec) : _root_.Go.OpenSpec := { _root_.Go.OpenSpec.ofChange s with cond := some uptoSmall }

/-- 'chatelainelaw13.DiskPlays', WHERE WHAT IT READS IS OF BULK AT MOST 1048576: true; the input reads as it did. -/
def diskPlaysUptoRow : OpenClaim := { program := "ytjcofbjfolaoiaa", sum := "02a120a1dd0d1d90bcb5ebb12c58579a4d7fcb6cfa8ab97b6eaa27dfd2c629ca", func := "chatelaine/chatelainelaw13.DiskPlays", spec := "diskPlays", unfollowed := true, recurses := true, apart := false, narrowed := true }
def DiskPlaysUptoSaid : Prop := diskPlaysUptoRow.holds Try.pinned (OpenSpec.upto diskPlaysSpec)

/-- 'chatelainelaw13.DiskKeeps', WHERE WHAT IT READS IS OF BULK AT MOST 1048576: true; the input reads as it did. -/
def diskKeepsUptoRow : OpenClaim := { program := "ytjcofbjfolaoiaa", sum := "02a120a1dd0d1d90bcb5ebb12c58579a4d7fcb6cfa8ab97b6eaa27dfd2c629ca", func := "chatelaine/chatelainelaw13.DiskKeeps", spec := "diskKeeps", unfollowed := true, recurses := true, apart := false, narrowed := true }
def DiskKeepsUptoSaid : Prop := diskKeepsUptoRow.holds Try.pinned (OpenSpec.upto diskKeepsSpec)

/-- 'chatelainelaw18.SuperLays', WHERE WHAT IT READS IS OF BULK AT MOST 1048576: true; the input reads as it did. -/
def superLaysUptoRow : OpenClaim := { program := "ytjcofbjfolaoiaa", sum := "02a120a1dd0d1d90bcb5ebb12c58579a4d7fcb6cfa8ab97b6eaa27dfd2c629ca", func := "chatelaine/chatelainelaw18.SuperLays", spec := "superLays", unfollowed := true, recurses := true, apart := false, narrowed := true }
def SuperLaysUptoSaid : Prop := superLaysUptoRow.holds Try.pinned (OpenSpec.upto superLaysSpec)

/-- 'chatelainelaw18.SuperTakes', WHERE WHAT IT READS IS OF BULK AT MOST 1048576: true; the input reads as it did. -/
def superTakesUptoRow : OpenClaim := { program := "ytjcofbjfolaoiaa", sum := "02a120a1dd0d1d90bcb5ebb12c58579a4d7fcb6cfa8ab97b6eaa27dfd2c629ca", func := "chatelaine/chatelainelaw18.SuperTakes", spec := "superTakes", unfollowed := true, recurses := true, apart := false, narrowed := true }
def SuperTakesUptoSaid : Prop := superTakesUptoRow.holds Try.pinned (OpenSpec.upto superTakesSpec)

/-- 'chatelainelaw18.SuperBack', WHERE WHAT IT READS IS OF BULK AT MOST 1048576: true; the input reads as it did. -/
def superBackUptoRow : OpenClaim := { program := "ytjcofbjfolaoiaa", sum := "02a120a1dd0d1d90bcb5ebb12c58579a4d7fcb6cfa8ab97b6eaa27dfd2c629ca", func := "chatelaine/chatelainelaw18.SuperBack", spec := "superBack", unfollowed := true, recurses := true, apart := false, narrowed := true }
def SuperBackUptoSaid : Prop := superBackUptoRow.holds Try.pinned (OpenSpec.upto superBackSpec)

/-- 'chatelainelaw17.JournalPacks', WHERE WHAT IT READS IS OF BULK AT MOST 1048576: true; the input reads as it did. -/
def journalPacksUptoRow : OpenClaim := { program := "ytjcofbjfolaoiaa", sum := "02a120a1dd0d1d90bcb5ebb12c58579a4d7fcb6cfa8ab97b6eaa27dfd2c629ca", func := "chatelaine/chatelainelaw17.JournalPacks", spec := "journalPacks", unfollowed := true, recurses := true, apart := false, narrowed := true }
def JournalPacksUptoSaid : Prop := journalPacksUptoRow.holds Try.pinned (OpenSpec.upto journalPacksSpec)

/-- 'chatelainelaw17.JournalUnpacks', WHERE WHAT IT READS IS OF BULK AT MOST 1048576: true; the input reads as it did. -/
def journalUnpacksUptoRow : OpenClaim := { program := "ytjcofbjfolaoiaa", sum := "02a120a1dd0d1d90bcb5ebb12c58579a4d7fcb6cfa8ab97b6eaa27dfd2c629ca", func := "chatelaine/chatelainelaw17.JournalUnpacks", spec := "journalUnpacks", unfollowed := true, recurses := true, apart := false, narrowed := true }
def JournalUnpacksUptoSaid : Prop := journalUnpacksUptoRow.holds Try.pinned (OpenSpec.upto journalUnpacksSpec)

/-- 'chatelainelaw17.JournalBack', WHERE WHAT IT READS IS OF BULK AT MOST 1048576: true; the input reads as it did. -/
def journalBackUptoRow : OpenClaim := { program := "ytjcofbjfolaoiaa", sum := "02a120a1dd0d1d90bcb5ebb12c58579a4d7fcb6cfa8ab97b6eaa27dfd2c629ca", func := "chatelaine/chatelainelaw17.JournalBack", spec := "journalBack", unfollowed := true, recurses := true, apart := false, narrowed := true }
def JournalBackUptoSaid : Prop := journalBackUptoRow.holds Try.pinned (OpenSpec.upto journalBackSpec)

/-- 'chatelainelaw26.AdminlogBinds', WHERE WHAT IT READS IS OF BULK AT MOST 1048576: true; the input reads as it did. -/
def adminlogBindsUptoRow : OpenClaim := { program := "ytjcofbjfolaoiaa", sum := "02a120a1dd0d1d90bcb5ebb12c58579a4d7fcb6cfa8ab97b6eaa27dfd2c629ca", func := "chatelaine/chatelainelaw26.AdminlogBinds", spec := "adminlogBinds", inPlace := ["internal/bytealg.IndexByteString"], unfollowed := true, recurses := true, apart := false, narrowed := true }
def AdminlogBindsUptoSaid : Prop := adminlogBindsUptoRow.holds Try.pinned (OpenSpec.upto adminlogBindsSpec)

/-- 'chatelainelaw26.AdminlogHeads', WHERE WHAT IT READS IS OF BULK AT MOST 1048576: true; the input reads as it did. -/
def adminlogHeadsUptoRow : OpenClaim := { program := "ytjcofbjfolaoiaa", sum := "02a120a1dd0d1d90bcb5ebb12c58579a4d7fcb6cfa8ab97b6eaa27dfd2c629ca", func := "chatelaine/chatelainelaw26.AdminlogHeads", spec := "adminlogHeads", inPlace := ["internal/bytealg.IndexByteString"], unfollowed := true, recurses := true, apart := false, narrowed := true }
def AdminlogHeadsUptoSaid : Prop := adminlogHeadsUptoRow.holds Try.pinned (OpenSpec.upto adminlogHeadsSpec)

/-- 'chatelainelaw26.AdminlogBytes', WHERE WHAT IT READS IS OF BULK AT MOST 1048576: true; the input reads as it did. -/
def adminlogBytesUptoRow : OpenClaim := { program := "ytjcofbjfolaoiaa", sum := "02a120a1dd0d1d90bcb5ebb12c58579a4d7fcb6cfa8ab97b6eaa27dfd2c629ca", func := "chatelaine/chatelainelaw26.AdminlogBytes", spec := "adminlogBytes", inPlace := ["internal/bytealg.IndexByteString"], unfollowed := true, recurses := true, apart := false, narrowed := true }
def AdminlogBytesUptoSaid : Prop := adminlogBytesUptoRow.holds Try.pinned (OpenSpec.upto adminlogBytesSpec)

/-- 'chatelainelaw41.BoundTells', WHERE WHAT IT READS IS OF BULK AT MOST 1048576: true; the input reads as it did. -/
def boundTellsUptoRow : OpenClaim := { program := "ytjcofbjfolaoiaa", sum := "02a120a1dd0d1d90bcb5ebb12c58579a4d7fcb6cfa8ab97b6eaa27dfd2c629ca", func := "chatelaine/chatelainelaw41.BoundTells", spec := "boundTells", unfollowed := true, recurses := true, apart := false, narrowed := true }
def BoundTellsUptoSaid : Prop := boundTellsUptoRow.holds Try.pinned (OpenSpec.upto boundTellsSpec)

end Rows
end Go.Proofs.Ytjcofbjfolaoiaa
