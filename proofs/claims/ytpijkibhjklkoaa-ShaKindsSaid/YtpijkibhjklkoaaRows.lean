/-
  No cell of these rows narrows 'for every input' (looked for: loops, veiled, ifaces, maps, wideKeys, modest, calm, conditions, laid).
  DERIVED. THE GIVEN ROWS OF THIS SEAT. 12 by the template 'for every input the law returns true; each argument reads behind the call as it read before'; 0 by the template 'total and deterministic' (their statements: YtpijkibhjklkoaaTotals.lean).
  GIVEN WITH THE SEED: the statements are not yours to turn. If you find one false, say at which input.
  Laid BY PROGRAM, IN A SANDBOX (cutbox-rows.mjs): the forced cells as the released guide's own fill.sh prints them over the translation 20ca3863455c302f… (all of the seat's roots in one cut). By AI agents, Wed Nov 11 2026. No macro, syntax, notation, axiom, sorry.
-/
import Derived.Test.YtpijkibhjklkoaaChecked
import GoSem.Claim
import GoSem.ClaimJoined
import GoSem.ClaimMapViews
import Derived.JoinedTies
import Derived.KernelRfl
namespace Go.Proofs.Ytpijkibhjklkoaa
/- THE CELL 'sum', in the pinned program and in every row, IS THE sha256 OF THE DUMP (.gsa) THAT YtpijkibhjklkoaaProg.lean LOADS. Nothing in Lean hashes anything: it is a label: what it is worth is what the hold of that sum in a sandbox is worth. -/
noncomputable def Try.pinned : Pinned := { name := "ytpijkibhjklkoaa", sum := "20ca3863455c302f4569a11dd73a69e07bfa3da4ba8a7786c9a99a1e7e422342", checked := Try.checked }
namespace Rows
def none {H : Type} : Left H := { results := [], args := [] }

/-- 'chatelainelaw07.SameLess': WHATEVER THE INPUT: true; the input reads as it did. -/
def sameLessSpec : ChangeSpec := { name := "sameLess", fn := fun _ => fun
  | [d1, d2] => { results := [.lit (.bool true)], args := [d1, d2] }
  | _ => none }
def sameLessRow : OpenClaim := { program := "ytpijkibhjklkoaa", sum := "20ca3863455c302f4569a11dd73a69e07bfa3da4ba8a7786c9a99a1e7e422342", func := "chatelaine/chatelainelaw07.SameLess", spec := "sameLess", apart := false }
def SameLessSaid : Prop := sameLessRow.holds Try.pinned (OpenSpec.ofChange sameLessSpec)

/-- ITS FALSE NEIGHBOUR: 'it returns false'. Refute it at one input. -/
def sameLessWrong : ChangeSpec := { name := "sameLess", fn := fun _ => fun
  | [d1, d2] => { results := [.lit (.bool false)], args := [d1, d2] }
  | _ => none }
def SameLessWrongFalsely : Prop := sameLessRow.holds Try.pinned (OpenSpec.ofChange sameLessWrong)

/-- 'chatelainelaw07.SameBytes': WHATEVER THE INPUT: true; the input reads as it did. -/
def sameBytesSpec : ChangeSpec := { name := "sameBytes", fn := fun _ => fun
  | [d1, d2] => { results := [.lit (.bool true)], args := [d1, d2] }
  | _ => none }
def sameBytesRow : OpenClaim := { program := "ytpijkibhjklkoaa", sum := "20ca3863455c302f4569a11dd73a69e07bfa3da4ba8a7786c9a99a1e7e422342", func := "chatelaine/chatelainelaw07.SameBytes", spec := "sameBytes", apart := false }
def SameBytesSaid : Prop := sameBytesRow.holds Try.pinned (OpenSpec.ofChange sameBytesSpec)

/-- ITS FALSE NEIGHBOUR: 'it returns false'. Refute it at one input. -/
def sameBytesWrong : ChangeSpec := { name := "sameBytes", fn := fun _ => fun
  | [d1, d2] => { results := [.lit (.bool false)], args := [d1, d2] }
  | _ => none }
def SameBytesWrongFalsely : Prop := sameBytesRow.holds Try.pinned (OpenSpec.ofChange sameBytesWrong)

/-- 'chatelainelaw11.TapeDraws': WHATEVER THE INPUT: true; the input reads as it did. -/
def tapeDrawsSpec : ChangeSpec := { name := "tapeDraws", fn := fun _ => fun
  | [d1, d2] => { results := [.lit (.bool true)], args := [d1, d2] }
  | _ => none }
def tapeDrawsRow : OpenClaim := { program := "ytpijkibhjklkoaa", sum := "20ca3863455c302f4569a11dd73a69e07bfa3da4ba8a7786c9a99a1e7e422342", func := "chatelaine/chatelainelaw11.TapeDraws", spec := "tapeDraws", apart := false }
def TapeDrawsSaid : Prop := tapeDrawsRow.holds Try.pinned (OpenSpec.ofChange tapeDrawsSpec)

/-- ITS FALSE NEIGHBOUR: 'it returns false'. Refute it at one input. -/
def tapeDrawsWrong : ChangeSpec := { name := "tapeDraws", fn := fun _ => fun
  | [d1, d2] => { results := [.lit (.bool false)], args := [d1, d2] }
  | _ => none }
def TapeDrawsWrongFalsely : Prop := tapeDrawsRow.holds Try.pinned (OpenSpec.ofChange tapeDrawsWrong)

/-- 'chatelainelaw07.SameChooses': WHATEVER THE INPUT: true; the input reads as it did. -/
def sameChoosesSpec : ChangeSpec := { name := "sameChooses", fn := fun _ => fun
  | [d1, d2, d3] => { results := [.lit (.bool true)], args := [d1, d2, d3] }
  | _ => none }
def sameChoosesRow : OpenClaim := { program := "ytpijkibhjklkoaa", sum := "20ca3863455c302f4569a11dd73a69e07bfa3da4ba8a7786c9a99a1e7e422342", func := "chatelaine/chatelainelaw07.SameChooses", spec := "sameChooses", apart := false }
def SameChoosesSaid : Prop := sameChoosesRow.holds Try.pinned (OpenSpec.ofChange sameChoosesSpec)

/-- ITS FALSE NEIGHBOUR: 'it returns false'. Refute it at one input. -/
def sameChoosesWrong : ChangeSpec := { name := "sameChooses", fn := fun _ => fun
  | [d1, d2, d3] => { results := [.lit (.bool false)], args := [d1, d2, d3] }
  | _ => none }
def SameChoosesWrongFalsely : Prop := sameChoosesRow.holds Try.pinned (OpenSpec.ofChange sameChoosesWrong)

/-- 'chatelainelaw11.TapeKeys': WHATEVER THE INPUT: true; the input reads as it did. -/
def tapeKeysSpec : ChangeSpec := { name := "tapeKeys", fn := fun _ => fun
  | [d1, d2, d3] => { results := [.lit (.bool true)], args := [d1, d2, d3] }
  | _ => none }
def tapeKeysRow : OpenClaim := { program := "ytpijkibhjklkoaa", sum := "20ca3863455c302f4569a11dd73a69e07bfa3da4ba8a7786c9a99a1e7e422342", func := "chatelaine/chatelainelaw11.TapeKeys", spec := "tapeKeys", unfollowed := true, recurses := true, apart := false }
def TapeKeysSaid : Prop := tapeKeysRow.holds Try.pinned (OpenSpec.ofChange tapeKeysSpec)

/-- ITS FALSE NEIGHBOUR: 'it returns false'. Refute it at one input. -/
def tapeKeysWrong : ChangeSpec := { name := "tapeKeys", fn := fun _ => fun
  | [d1, d2, d3] => { results := [.lit (.bool false)], args := [d1, d2, d3] }
  | _ => none }
def TapeKeysWrongFalsely : Prop := tapeKeysRow.holds Try.pinned (OpenSpec.ofChange tapeKeysWrong)

/-- 'chatelainelaw05.ShaSums': WHATEVER THE INPUT: true; the input reads as it did. -/
def shaSumsSpec : ChangeSpec := { name := "shaSums", fn := fun _ => fun
  | [d] => { results := [.lit (.bool true)], args := [d] }
  | _ => none }
def shaSumsRow : OpenClaim := { program := "ytpijkibhjklkoaa", sum := "20ca3863455c302f4569a11dd73a69e07bfa3da4ba8a7786c9a99a1e7e422342", func := "chatelaine/chatelainelaw05.ShaSums", spec := "shaSums", unfollowed := true, recurses := true, apart := false }
def ShaSumsSaid : Prop := shaSumsRow.holds Try.pinned (OpenSpec.ofChange shaSumsSpec)

/-- ITS FALSE NEIGHBOUR: 'it returns false'. Refute it at one input. -/
def shaSumsWrong : ChangeSpec := { name := "shaSums", fn := fun _ => fun
  | [d] => { results := [.lit (.bool false)], args := [d] }
  | _ => none }
def ShaSumsWrongFalsely : Prop := shaSumsRow.holds Try.pinned (OpenSpec.ofChange shaSumsWrong)

/-- 'chatelainelaw05.ShaParts': WHATEVER THE INPUT: true; the input reads as it did. -/
def shaPartsSpec : ChangeSpec := { name := "shaParts", fn := fun _ => fun
  | [d1, d2, d3] => { results := [.lit (.bool true)], args := [d1, d2, d3] }
  | _ => none }
def shaPartsRow : OpenClaim := { program := "ytpijkibhjklkoaa", sum := "20ca3863455c302f4569a11dd73a69e07bfa3da4ba8a7786c9a99a1e7e422342", func := "chatelaine/chatelainelaw05.ShaParts", spec := "shaParts", unfollowed := true, recurses := true, apart := false }
def ShaPartsSaid : Prop := shaPartsRow.holds Try.pinned (OpenSpec.ofChange shaPartsSpec)

/-- ITS FALSE NEIGHBOUR: 'it returns false'. Refute it at one input. -/
def shaPartsWrong : ChangeSpec := { name := "shaParts", fn := fun _ => fun
  | [d1, d2, d3] => { results := [.lit (.bool false)], args := [d1, d2, d3] }
  | _ => none }
def ShaPartsWrongFalsely : Prop := shaPartsRow.holds Try.pinned (OpenSpec.ofChange shaPartsWrong)

/-- 'chatelainelaw05.ShaKinds': WHATEVER THE INPUT: true; the input reads as it did. -/
def shaKindsSpec : ChangeSpec := { name := "shaKinds", fn := fun _ => fun
  | [d1, d2] => { results := [.lit (.bool true)], args := [d1, d2] }
  | _ => none }
def shaKindsRow : OpenClaim := { program := "ytpijkibhjklkoaa", sum := "20ca3863455c302f4569a11dd73a69e07bfa3da4ba8a7786c9a99a1e7e422342", func := "chatelaine/chatelainelaw05.ShaKinds", spec := "shaKinds", unfollowed := true, recurses := true, apart := false }
def ShaKindsSaid : Prop := shaKindsRow.holds Try.pinned (OpenSpec.ofChange shaKindsSpec)

/-- ITS FALSE NEIGHBOUR: 'it returns false'. Refute it at one input. -/
def shaKindsWrong : ChangeSpec := { name := "shaKinds", fn := fun _ => fun
  | [d1, d2] => { results := [.lit (.bool false)], args := [d1, d2] }
  | _ => none }
def ShaKindsWrongFalsely : Prop := shaKindsRow.holds Try.pinned (OpenSpec.ofChange shaKindsWrong)

/-- 'chatelainelaw06.HmacTags': WHATEVER THE INPUT: true; the input reads as it did. -/
def hmacTagsSpec : ChangeSpec := { name := "hmacTags", fn := fun _ => fun
  | [d1, d2, d3] => { results := [.lit (.bool true)], args := [d1, d2, d3] }
  | _ => none }
def hmacTagsRow : OpenClaim := { program := "ytpijkibhjklkoaa", sum := "20ca3863455c302f4569a11dd73a69e07bfa3da4ba8a7786c9a99a1e7e422342", func := "chatelaine/chatelainelaw06.HmacTags", spec := "hmacTags", unfollowed := true, recurses := true, apart := false }
def HmacTagsSaid : Prop := hmacTagsRow.holds Try.pinned (OpenSpec.ofChange hmacTagsSpec)

/-- ITS FALSE NEIGHBOUR: 'it returns false'. Refute it at one input. -/
def hmacTagsWrong : ChangeSpec := { name := "hmacTags", fn := fun _ => fun
  | [d1, d2, d3] => { results := [.lit (.bool false)], args := [d1, d2, d3] }
  | _ => none }
def HmacTagsWrongFalsely : Prop := hmacTagsRow.holds Try.pinned (OpenSpec.ofChange hmacTagsWrong)

/-- 'chatelainelaw06.HmacKeys': WHATEVER THE INPUT: true; the input reads as it did. -/
def hmacKeysSpec : ChangeSpec := { name := "hmacKeys", fn := fun _ => fun
  | [d1, d2, d3] => { results := [.lit (.bool true)], args := [d1, d2, d3] }
  | _ => none }
def hmacKeysRow : OpenClaim := { program := "ytpijkibhjklkoaa", sum := "20ca3863455c302f4569a11dd73a69e07bfa3da4ba8a7786c9a99a1e7e422342", func := "chatelaine/chatelainelaw06.HmacKeys", spec := "hmacKeys", unfollowed := true, recurses := true, apart := false }
def HmacKeysSaid : Prop := hmacKeysRow.holds Try.pinned (OpenSpec.ofChange hmacKeysSpec)

/-- ITS FALSE NEIGHBOUR: 'it returns false'. Refute it at one input. -/
def hmacKeysWrong : ChangeSpec := { name := "hmacKeys", fn := fun _ => fun
  | [d1, d2, d3] => { results := [.lit (.bool false)], args := [d1, d2, d3] }
  | _ => none }
def HmacKeysWrongFalsely : Prop := hmacKeysRow.holds Try.pinned (OpenSpec.ofChange hmacKeysWrong)

/-- 'chatelainelaw06.HmacChains': WHATEVER THE INPUT: true; the input reads as it did. -/
def hmacChainsSpec : ChangeSpec := { name := "hmacChains", fn := fun _ => fun
  | [d1, d2, d3] => { results := [.lit (.bool true)], args := [d1, d2, d3] }
  | _ => none }
def hmacChainsRow : OpenClaim := { program := "ytpijkibhjklkoaa", sum := "20ca3863455c302f4569a11dd73a69e07bfa3da4ba8a7786c9a99a1e7e422342", func := "chatelaine/chatelainelaw06.HmacChains", spec := "hmacChains", unfollowed := true, recurses := true, apart := false }
def HmacChainsSaid : Prop := hmacChainsRow.holds Try.pinned (OpenSpec.ofChange hmacChainsSpec)

/-- ITS FALSE NEIGHBOUR: 'it returns false'. Refute it at one input. -/
def hmacChainsWrong : ChangeSpec := { name := "hmacChains", fn := fun _ => fun
  | [d1, d2, d3] => { results := [.lit (.bool false)], args := [d1, d2, d3] }
  | _ => none }
def HmacChainsWrongFalsely : Prop := hmacChainsRow.holds Try.pinned (OpenSpec.ofChange hmacChainsWrong)

/-- 'chatelainelaw11.TapeStretches': WHATEVER THE INPUT: true; the input reads as it did. -/
def tapeStretchesSpec : ChangeSpec := { name := "tapeStretches", fn := fun _ => fun
  | [d1, d2, d3] => { results := [.lit (.bool true)], args := [d1, d2, d3] }
  | _ => none }
def tapeStretchesRow : OpenClaim := { program := "ytpijkibhjklkoaa", sum := "20ca3863455c302f4569a11dd73a69e07bfa3da4ba8a7786c9a99a1e7e422342", func := "chatelaine/chatelainelaw11.TapeStretches", spec := "tapeStretches", unfollowed := true, recurses := true, apart := false }
def TapeStretchesSaid : Prop := tapeStretchesRow.holds Try.pinned (OpenSpec.ofChange tapeStretchesSpec)

/-- ITS FALSE NEIGHBOUR: 'it returns false'. Refute it at one input. -/
def tapeStretchesWrong : ChangeSpec := { name := "tapeStretches", fn := fun _ => fun
  | [d1, d2, d3] => { results := [.lit (.bool false)], args := [d1, d2, d3] }
  | _ => none }
def TapeStretchesWrongFalsely : Prop := tapeStretchesRow.holds Try.pinned (OpenSpec.ofChange tapeStretchesWrong)

/- THE SECOND FORM. 'bulk': how many values and letters a reading holds, each counted each time it is reached (what is shared counts as often as it is met; a slice's spare places count too). A statement '..UptoSaid' is the law's where the arguments, and the package variables that the reading takes, are together of bulk at most 1048576: NARROWER than '..Said'. Prove '..Said' where nothing that the law and all that it calls make is longer than what came in: it says more and counts as full. Else prove '..UptoSaid'. A law counts once. -/
mutual
def uptoBulk {H : Type} : DataW H → Nat
  | .lit (.string bytes) => bytes.length + 1
  | .lit _ => 1
  | .nil => 1
  | .ptr d => uptoBulk d + 1
  | .slice elems spare => uptoBulkAll elems + uptoBulkAll spare + 1
  | .agg parts => uptoBulkAll parts + 1
  | .iface _ d => uptoBulk d + 1
  | .map entries => uptoBulkEntries entries + 1
  | .held _ => 1
def uptoBulkAll {H : Type} : List (DataW H) → Nat
  | [] => 0
  | d :: r => uptoBulk d + uptoBulkAll r
def uptoBulkEntries {H : Type} : List (Lit × DataW H) → Nat
  | [] => 0
  | x :: r => uptoBulkEntry x + uptoBulkEntries r
def uptoBulkEntry {H : Type} : Lit × DataW H → Nat
  | (.string bytes, d) => bytes.length + uptoBulk d + 1
  | (_, d) => uptoBulk d + 1
 end
def uptoSmall : (H : Type) → List (DataW H) → Bool := fun _ ds => decide (uptoBulkAll ds ≤ 1048576)
def OpenSpec.upto (s : _root_.Go.ChangeSpec) : _root_.Go.OpenSpec := { _root_.Go.OpenSpec.ofChange s with cond := some uptoSmall }

/-- 'chatelainelaw07.SameLess', WHERE WHAT IT READS IS OF BULK AT MOST 1048576: true; the input reads as it did. -/
def sameLessUptoRow : OpenClaim := { program := "ytpijkibhjklkoaa", sum := "20ca3863455c302f4569a11dd73a69e07bfa3da4ba8a7786c9a99a1e7e422342", func := "chatelaine/chatelainelaw07.SameLess", spec := "sameLess", apart := false, narrowed := true }
def SameLessUptoSaid : Prop := sameLessUptoRow.holds Try.pinned (OpenSpec.upto sameLessSpec)

/-- 'chatelainelaw07.SameBytes', WHERE WHAT IT READS IS OF BULK AT MOST 1048576: true; the input reads as it did. -/
def sameBytesUptoRow : OpenClaim := { program := "ytpijkibhjklkoaa", sum := "20ca3863455c302f4569a11dd73a69e07bfa3da4ba8a7786c9a99a1e7e422342", func := "chatelaine/chatelainelaw07.SameBytes", spec := "sameBytes", apart := false, narrowed := true }
def SameBytesUptoSaid : Prop := sameBytesUptoRow.holds Try.pinned (OpenSpec.upto sameBytesSpec)

/-- 'chatelainelaw11.TapeDraws', WHERE WHAT IT READS IS OF BULK AT MOST 1048576: true; the input reads as it did. -/
def tapeDrawsUptoRow : OpenClaim := { program := "ytpijkibhjklkoaa", sum := "20ca3863455c302f4569a11dd73a69e07bfa3da4ba8a7786c9a99a1e7e422342", func := "chatelaine/chatelainelaw11.TapeDraws", spec := "tapeDraws", apart := false, narrowed := true }
def TapeDrawsUptoSaid : Prop := tapeDrawsUptoRow.holds Try.pinned (OpenSpec.upto tapeDrawsSpec)

/-- 'chatelainelaw07.SameChooses', WHERE WHAT IT READS IS OF BULK AT MOST 1048576: true; the input reads as it did. -/
def sameChoosesUptoRow : OpenClaim := { program := "ytpijkibhjklkoaa", sum := "20ca3863455c302f4569a11dd73a69e07bfa3da4ba8a7786c9a99a1e7e422342", func := "chatelaine/chatelainelaw07.SameChooses", spec := "sameChooses", apart := false, narrowed := true }
def SameChoosesUptoSaid : Prop := sameChoosesUptoRow.holds Try.pinned (OpenSpec.upto sameChoosesSpec)

/-- 'chatelainelaw11.TapeKeys', WHERE WHAT IT READS IS OF BULK AT MOST 1048576: true; the input reads as it did. -/
def tapeKeysUptoRow : OpenClaim := { program := "ytpijkibhjklkoaa", sum := "20ca3863455c302f4569a11dd73a69e07bfa3da4ba8a7786c9a99a1e7e422342", func := "chatelaine/chatelainelaw11.TapeKeys", spec := "tapeKeys", unfollowed := true, recurses := true, apart := false, narrowed := true }
def TapeKeysUptoSaid : Prop := tapeKeysUptoRow.holds Try.pinned (OpenSpec.upto tapeKeysSpec)

/-- 'chatelainelaw05.ShaSums', WHERE WHAT IT READS IS OF BULK AT MOST 1048576: true; the input reads as it did. -/
def shaSumsUptoRow : OpenClaim := { program := "ytpijkibhjklkoaa", sum := "20ca3863455c302f4569a11dd73a69e07bfa3da4ba8a7786c9a99a1e7e422342", func := "chatelaine/chatelainelaw05.ShaSums", spec := "shaSums", unfollowed := true, recurses := true, apart := false, narrowed := true }
def ShaSumsUptoSaid : Prop := shaSumsUptoRow.holds Try.pinned (OpenSpec.upto shaSumsSpec)

/-- 'chatelainelaw05.ShaParts', WHERE WHAT IT READS IS OF BULK AT MOST 1048576: true; the input reads as it did. -/
def shaPartsUptoRow : OpenClaim := { program := "ytpijkibhjklkoaa", sum := "20ca3863455c302f4569a11dd73a69e07bfa3da4ba8a7786c9a99a1e7e422342", func := "chatelaine/chatelainelaw05.ShaParts", spec := "shaParts", unfollowed := true, recurses := true, apart := false, narrowed := true }
def ShaPartsUptoSaid : Prop := shaPartsUptoRow.holds Try.pinned (OpenSpec.upto shaPartsSpec)

/-- 'chatelainelaw05.ShaKinds', WHERE WHAT IT READS IS OF BULK AT MOST 1048576: true; the input reads as it did. -/
def shaKindsUptoRow : OpenClaim := { program := "ytpijkibhjklkoaa", sum := "20ca3863455c302f4569a11dd73a69e07bfa3da4ba8a7786c9a99a1e7e422342", func := "chatelaine/chatelainelaw05.ShaKinds", spec := "shaKinds", unfollowed := true, recurses := true, apart := false, narrowed := true }
def ShaKindsUptoSaid : Prop := shaKindsUptoRow.holds Try.pinned (OpenSpec.upto shaKindsSpec)

/-- 'chatelainelaw06.HmacTags', WHERE WHAT IT READS IS OF BULK AT MOST 1048576: true; the input reads as it did. -/
def hmacTagsUptoRow : OpenClaim := { program := "ytpijkibhjklkoaa", sum := "20ca3863455c302f4569a11dd73a69e07bfa3da4ba8a7786c9a99a1e7e422342", func := "chatelaine/chatelainelaw06.HmacTags", spec := "hmacTags", unfollowed := true, recurses := true, apart := false, narrowed := true }
def HmacTagsUptoSaid : Prop := hmacTagsUptoRow.holds Try.pinned (OpenSpec.upto hmacTagsSpec)

/-- 'chatelainelaw06.HmacKeys', WHERE WHAT IT READS IS OF BULK AT MOST 1048576: true; the input reads as it did. -/
def hmacKeysUptoRow : OpenClaim := { program := "ytpijkibhjklkoaa", sum := "20ca3863455c302f4569a11dd73a69e07bfa3da4ba8a7786c9a99a1e7e422342", func := "chatelaine/chatelainelaw06.HmacKeys", spec := "hmacKeys", unfollowed := true, recurses := true, apart := false, narrowed := true }
def HmacKeysUptoSaid : Prop := hmacKeysUptoRow.holds Try.pinned (OpenSpec.upto hmacKeysSpec)

/-- 'chatelainelaw06.HmacChains', WHERE WHAT IT READS IS OF BULK AT MOST 1048576: true; the input reads as it did. -/
def hmacChainsUptoRow : OpenClaim := { program := "ytpijkibhjklkoaa", sum := "20ca3863455c302f4569a11dd73a69e07bfa3da4ba8a7786c9a99a1e7e422342", func := "chatelaine/chatelainelaw06.HmacChains", spec := "hmacChains", unfollowed := true, recurses := true, apart := false, narrowed := true }
def HmacChainsUptoSaid : Prop := hmacChainsUptoRow.holds Try.pinned (OpenSpec.upto hmacChainsSpec)

/-- 'chatelainelaw11.TapeStretches', WHERE WHAT IT READS IS OF BULK AT MOST 1048576: true; the input reads as it did. -/
def tapeStretchesUptoRow : OpenClaim := { program := "ytpijkibhjklkoaa", sum := "20ca3863455c302f4569a11dd73a69e07bfa3da4ba8a7786c9a99a1e7e422342", func := "chatelaine/chatelainelaw11.TapeStretches", spec := "tapeStretches", unfollowed := true, recurses := true, apart := false, narrowed := true }
def TapeStretchesUptoSaid : Prop := tapeStretchesUptoRow.holds Try.pinned (OpenSpec.upto tapeStretchesSpec)

end Rows
end Go.Proofs.Ytpijkibhjklkoaa
