/-
  No cell of these rows narrows 'for every input' (looked for: loops, veiled, ifaces, maps, wideKeys, modest, calm, conditions, laid).
  DERIVED. THE GIVEN ROWS OF THIS SEAT. 10 by the template 'for every input the law returns true; each argument reads behind the call as it read before'; 0 by the template 'total and deterministic' (their statements: YtcbfdofeedlajaaTotals.lean).
  GIVEN WITH THE SEED: the statements are not yours to turn. If you find one false, say at which input.
  Laid BY PROGRAM, IN A SANDBOX (cutbox-rows.mjs): the forced cells as the released guide's own fill.sh prints them over the translation d8f183f8a5380eb5… (all of the seat's roots in one cut). By AI agents, Wed Nov 11 2026. No macro, syntax, notation, axiom, sorry.
-/
import Derived.Test.YtcbfdofeedlajaaChecked
import GoSem.Claim
import GoSem.ClaimJoined
import GoSem.ClaimMapViews
import Derived.JoinedTies
import Derived.KernelRfl
namespace Go.Proofs.Ytcbfdofeedlajaa
/- THE CELL 'sum', in the pinned program and in every row, IS THE sha256 OF THE DUMP (.gsa) THAT YtcbfdofeedlajaaProg.lean LOADS. Nothing in Lean hashes anything: it is a label: what it is worth is what the hold of that sum in a sandbox is worth. -/
noncomputable def Try.pinned : Pinned := { name := "ytcbfdofeedlajaa", sum := "d8f183f8a5380eb5526d32cdb03366ed59f96ab2b70f5bda4597d4dc86082a51", checked := Try.checked }
namespace Rows
def none {H : Type} : Left H := { results := [], args := [] }

/-- 'chatelainelaw47.GrantNarrows': WHATEVER THE INPUT: true; the input reads as it did. -/
def grantNarrowsSpec : ChangeSpec := { name := "grantNarrows", fn := fun _ => fun
  | [d1, d2] => { results := [.lit (.bool true)], args := [d1, d2] }
  | _ => none }
def grantNarrowsRow : OpenClaim := { program := "ytcbfdofeedlajaa", sum := "d8f183f8a5380eb5526d32cdb03366ed59f96ab2b70f5bda4597d4dc86082a51", func := "chatelaine/chatelainelaw47.GrantNarrows", spec := "grantNarrows", inPlace := ["internal/bytealg.IndexByteString"], unfollowed := true, recurses := true, apart := false }
def GrantNarrowsSaid : Prop := grantNarrowsRow.holds Try.pinned (OpenSpec.ofChange grantNarrowsSpec)

/-- ITS FALSE NEIGHBOUR: 'it returns false'. Refute it at one input. -/
def grantNarrowsWrong : ChangeSpec := { name := "grantNarrows", fn := fun _ => fun
  | [d1, d2] => { results := [.lit (.bool false)], args := [d1, d2] }
  | _ => none }
def GrantNarrowsWrongFalsely : Prop := grantNarrowsRow.holds Try.pinned (OpenSpec.ofChange grantNarrowsWrong)

/-- 'chatelainelaw47.GrantTokens': WHATEVER THE INPUT: true; the input reads as it did. -/
def grantTokensSpec : ChangeSpec := { name := "grantTokens", fn := fun _ => fun
  | [d1, d2] => { results := [.lit (.bool true)], args := [d1, d2] }
  | _ => none }
def grantTokensRow : OpenClaim := { program := "ytcbfdofeedlajaa", sum := "d8f183f8a5380eb5526d32cdb03366ed59f96ab2b70f5bda4597d4dc86082a51", func := "chatelaine/chatelainelaw47.GrantTokens", spec := "grantTokens", inPlace := ["internal/bytealg.IndexByteString"], unfollowed := true, recurses := true, apart := false }
def GrantTokensSaid : Prop := grantTokensRow.holds Try.pinned (OpenSpec.ofChange grantTokensSpec)

/-- ITS FALSE NEIGHBOUR: 'it returns false'. Refute it at one input. -/
def grantTokensWrong : ChangeSpec := { name := "grantTokens", fn := fun _ => fun
  | [d1, d2] => { results := [.lit (.bool false)], args := [d1, d2] }
  | _ => none }
def GrantTokensWrongFalsely : Prop := grantTokensRow.holds Try.pinned (OpenSpec.ofChange grantTokensWrong)

/-- 'chatelainelaw25.QuotaMoves': WHATEVER THE INPUT: true; the input reads as it did. -/
def quotaMovesSpec : ChangeSpec := { name := "quotaMoves", fn := fun _ => fun
  | [d1, d2, d3] => { results := [.lit (.bool true)], args := [d1, d2, d3] }
  | _ => none }
def quotaMovesRow : OpenClaim := { program := "ytcbfdofeedlajaa", sum := "d8f183f8a5380eb5526d32cdb03366ed59f96ab2b70f5bda4597d4dc86082a51", func := "chatelaine/chatelainelaw25.QuotaMoves", spec := "quotaMoves", unfollowed := true, recurses := true, apart := false }
def QuotaMovesSaid : Prop := quotaMovesRow.holds Try.pinned (OpenSpec.ofChange quotaMovesSpec)

/-- ITS FALSE NEIGHBOUR: 'it returns false'. Refute it at one input. -/
def quotaMovesWrong : ChangeSpec := { name := "quotaMoves", fn := fun _ => fun
  | [d1, d2, d3] => { results := [.lit (.bool false)], args := [d1, d2, d3] }
  | _ => none }
def QuotaMovesWrongFalsely : Prop := quotaMovesRow.holds Try.pinned (OpenSpec.ofChange quotaMovesWrong)

/-- 'chatelainelaw25.QuotaJoins': WHATEVER THE INPUT: true; the input reads as it did. -/
def quotaJoinsSpec : ChangeSpec := { name := "quotaJoins", fn := fun _ => fun
  | [d1, d2, d3] => { results := [.lit (.bool true)], args := [d1, d2, d3] }
  | _ => none }
def quotaJoinsRow : OpenClaim := { program := "ytcbfdofeedlajaa", sum := "d8f183f8a5380eb5526d32cdb03366ed59f96ab2b70f5bda4597d4dc86082a51", func := "chatelaine/chatelainelaw25.QuotaJoins", spec := "quotaJoins", unfollowed := true, recurses := true, apart := false }
def QuotaJoinsSaid : Prop := quotaJoinsRow.holds Try.pinned (OpenSpec.ofChange quotaJoinsSpec)

/-- ITS FALSE NEIGHBOUR: 'it returns false'. Refute it at one input. -/
def quotaJoinsWrong : ChangeSpec := { name := "quotaJoins", fn := fun _ => fun
  | [d1, d2, d3] => { results := [.lit (.bool false)], args := [d1, d2, d3] }
  | _ => none }
def QuotaJoinsWrongFalsely : Prop := quotaJoinsRow.holds Try.pinned (OpenSpec.ofChange quotaJoinsWrong)

/-- 'chatelainelaw25.QuotaStays': WHATEVER THE INPUT: true; the input reads as it did. -/
def quotaStaysSpec : ChangeSpec := { name := "quotaStays", fn := fun _ => fun
  | [d1, d2] => { results := [.lit (.bool true)], args := [d1, d2] }
  | _ => none }
def quotaStaysRow : OpenClaim := { program := "ytcbfdofeedlajaa", sum := "d8f183f8a5380eb5526d32cdb03366ed59f96ab2b70f5bda4597d4dc86082a51", func := "chatelaine/chatelainelaw25.QuotaStays", spec := "quotaStays", unfollowed := true, recurses := true, apart := false }
def QuotaStaysSaid : Prop := quotaStaysRow.holds Try.pinned (OpenSpec.ofChange quotaStaysSpec)

/-- ITS FALSE NEIGHBOUR: 'it returns false'. Refute it at one input. -/
def quotaStaysWrong : ChangeSpec := { name := "quotaStays", fn := fun _ => fun
  | [d1, d2] => { results := [.lit (.bool false)], args := [d1, d2] }
  | _ => none }
def QuotaStaysWrongFalsely : Prop := quotaStaysRow.holds Try.pinned (OpenSpec.ofChange quotaStaysWrong)

/-- 'chatelainelaw14.ExtentSets': WHATEVER THE INPUT: true; the input reads as it did. -/
def extentSetsSpec : ChangeSpec := { name := "extentSets", fn := fun _ => fun
  | [d1, d2] => { results := [.lit (.bool true)], args := [d1, d2] }
  | _ => none }
def extentSetsRow : OpenClaim := { program := "ytcbfdofeedlajaa", sum := "d8f183f8a5380eb5526d32cdb03366ed59f96ab2b70f5bda4597d4dc86082a51", func := "chatelaine/chatelainelaw14.ExtentSets", spec := "extentSets", unfollowed := true, recurses := true, apart := false }
def ExtentSetsSaid : Prop := extentSetsRow.holds Try.pinned (OpenSpec.ofChange extentSetsSpec)

/-- ITS FALSE NEIGHBOUR: 'it returns false'. Refute it at one input. -/
def extentSetsWrong : ChangeSpec := { name := "extentSets", fn := fun _ => fun
  | [d1, d2] => { results := [.lit (.bool false)], args := [d1, d2] }
  | _ => none }
def ExtentSetsWrongFalsely : Prop := extentSetsRow.holds Try.pinned (OpenSpec.ofChange extentSetsWrong)

/-- 'chatelainelaw14.ExtentBack': WHATEVER THE INPUT: true; the input reads as it did. -/
def extentBackSpec : ChangeSpec := { name := "extentBack", fn := fun _ => fun
  | [d1, d2] => { results := [.lit (.bool true)], args := [d1, d2] }
  | _ => none }
def extentBackRow : OpenClaim := { program := "ytcbfdofeedlajaa", sum := "d8f183f8a5380eb5526d32cdb03366ed59f96ab2b70f5bda4597d4dc86082a51", func := "chatelaine/chatelainelaw14.ExtentBack", spec := "extentBack", unfollowed := true, recurses := true, apart := false }
def ExtentBackSaid : Prop := extentBackRow.holds Try.pinned (OpenSpec.ofChange extentBackSpec)

/-- ITS FALSE NEIGHBOUR: 'it returns false'. Refute it at one input. -/
def extentBackWrong : ChangeSpec := { name := "extentBack", fn := fun _ => fun
  | [d1, d2] => { results := [.lit (.bool false)], args := [d1, d2] }
  | _ => none }
def ExtentBackWrongFalsely : Prop := extentBackRow.holds Try.pinned (OpenSpec.ofChange extentBackWrong)

/-- 'chatelainelaw14.ExtentChains': WHATEVER THE INPUT: true; the input reads as it did. -/
def extentChainsSpec : ChangeSpec := { name := "extentChains", fn := fun _ => fun
  | [d1, d2, d3] => { results := [.lit (.bool true)], args := [d1, d2, d3] }
  | _ => none }
def extentChainsRow : OpenClaim := { program := "ytcbfdofeedlajaa", sum := "d8f183f8a5380eb5526d32cdb03366ed59f96ab2b70f5bda4597d4dc86082a51", func := "chatelaine/chatelainelaw14.ExtentChains", spec := "extentChains", unfollowed := true, recurses := true, apart := false }
def ExtentChainsSaid : Prop := extentChainsRow.holds Try.pinned (OpenSpec.ofChange extentChainsSpec)

/-- ITS FALSE NEIGHBOUR: 'it returns false'. Refute it at one input. -/
def extentChainsWrong : ChangeSpec := { name := "extentChains", fn := fun _ => fun
  | [d1, d2, d3] => { results := [.lit (.bool false)], args := [d1, d2, d3] }
  | _ => none }
def ExtentChainsWrongFalsely : Prop := extentChainsRow.holds Try.pinned (OpenSpec.ofChange extentChainsWrong)

/-- 'chatelainelaw15.AllocOnce': WHATEVER THE INPUT: true; the input reads as it did. -/
def allocOnceSpec : ChangeSpec := { name := "allocOnce", fn := fun _ => fun
  | [d1, d2] => { results := [.lit (.bool true)], args := [d1, d2] }
  | _ => none }
def allocOnceRow : OpenClaim := { program := "ytcbfdofeedlajaa", sum := "d8f183f8a5380eb5526d32cdb03366ed59f96ab2b70f5bda4597d4dc86082a51", func := "chatelaine/chatelainelaw15.AllocOnce", spec := "allocOnce", unfollowed := true, recurses := true, apart := false }
def AllocOnceSaid : Prop := allocOnceRow.holds Try.pinned (OpenSpec.ofChange allocOnceSpec)

/-- ITS FALSE NEIGHBOUR: 'it returns false'. Refute it at one input. -/
def allocOnceWrong : ChangeSpec := { name := "allocOnce", fn := fun _ => fun
  | [d1, d2] => { results := [.lit (.bool false)], args := [d1, d2] }
  | _ => none }
def AllocOnceWrongFalsely : Prop := allocOnceRow.holds Try.pinned (OpenSpec.ofChange allocOnceWrong)

/-- 'chatelainelaw15.AllocPlays': WHATEVER THE INPUT: true; the input reads as it did. -/
def allocPlaysSpec : ChangeSpec := { name := "allocPlays", fn := fun _ => fun
  | [d1, d2, d3] => { results := [.lit (.bool true)], args := [d1, d2, d3] }
  | _ => none }
def allocPlaysRow : OpenClaim := { program := "ytcbfdofeedlajaa", sum := "d8f183f8a5380eb5526d32cdb03366ed59f96ab2b70f5bda4597d4dc86082a51", func := "chatelaine/chatelainelaw15.AllocPlays", spec := "allocPlays", unfollowed := true, recurses := true, apart := false }
def AllocPlaysSaid : Prop := allocPlaysRow.holds Try.pinned (OpenSpec.ofChange allocPlaysSpec)

/-- ITS FALSE NEIGHBOUR: 'it returns false'. Refute it at one input. -/
def allocPlaysWrong : ChangeSpec := { name := "allocPlays", fn := fun _ => fun
  | [d1, d2, d3] => { results := [.lit (.bool false)], args := [d1, d2, d3] }
  | _ => none }
def AllocPlaysWrongFalsely : Prop := allocPlaysRow.holds Try.pinned (OpenSpec.ofChange allocPlaysWrong)

/- THE SECOND FORM. 'bulk': how many values and letters a reading holds, each counted each time it is reached (what is shared counts as often as it is met; a slice's spare places count too). A statement '..UptoSaid' is the law's where the arguments, and the package variables that the reading takes, are together of bulk at most 1048576: NARROWER than '..Said'. Prove '..Said' where nothing that the law and all that it calls make is longer than what came in: it says more and counts as full. Else prove '..UptoSaid'. A law counts once. -/
mutual
def uptoBulk {H : Type} : DataW H → Nat
  | .lit (.string bytes) => bytes.length + 1
  | .lit _ => 1
  | .nil => 1
  | .ptr d => uptoBulk d + 1
  | .slice elems spare => uptoBulkAll elems + uptoBulkAll spare + 1
  | .agg parts => uptoBulkAll parts + 1
  | .iface _ d => uptoBulk d + 1
  | .map entries => uptoBulkEntries entries + 1
  | .held _ => 1
def uptoBulkAll {H : Type} : List (DataW H) → Nat
  | [] => 0
  | d :: r => uptoBulk d + uptoBulkAll r
def uptoBulkEntries {H : Type} : List (Lit × DataW H) → Nat
  | [] => 0
  | x :: r => uptoBulkEntry x + uptoBulkEntries r
def uptoBulkEntry {H : Type} : Lit × DataW H → Nat
  | (.string bytes, d) => bytes.length + uptoBulk d + 1
  | (_, d) => uptoBulk d + 1
 end
def uptoSmall : (H : Type) → List (DataW H) → Bool := fun _ ds => decide (uptoBulkAll ds ≤ 1048576)
def OpenSpec.upto (s : _root_.Go.ChangeSpec) : _root_.Go.OpenSpec := { _root_.Go.OpenSpec.ofChange s with cond := some uptoSmall }

/-- 'chatelainelaw47.GrantNarrows', WHERE WHAT IT READS IS OF BULK AT MOST 1048576: true; the input reads as it did. -/
def grantNarrowsUptoRow : OpenClaim := { program := "ytcbfdofeedlajaa", sum := "d8f183f8a5380eb5526d32cdb03366ed59f96ab2b70f5bda4597d4dc86082a51", func := "chatelaine/chatelainelaw47.GrantNarrows", spec := "grantNarrows", inPlace := ["internal/bytealg.IndexByteString"], unfollowed := true, recurses := true, apart := false, narrowed := true }
def GrantNarrowsUptoSaid : Prop := grantNarrowsUptoRow.holds Try.pinned (OpenSpec.upto grantNarrowsSpec)

/-- 'chatelainelaw47.GrantTokens', WHERE WHAT IT READS IS OF BULK AT MOST 1048576: true; the input reads as it did. -/
def grantTokensUptoRow : OpenClaim := { program := "ytcbfdofeedlajaa", sum := "d8f183f8a5380eb5526d32cdb03366ed59f96ab2b70f5bda4597d4dc86082a51", func := "chatelaine/chatelainelaw47.GrantTokens", spec := "grantTokens", inPlace := ["internal/bytealg.IndexByteString"], unfollowed := true, recurses := true, apart := false, narrowed := true }
def GrantTokensUptoSaid : Prop := grantTokensUptoRow.holds Try.pinned (OpenSpec.upto grantTokensSpec)

/-- 'chatelainelaw25.QuotaMoves', WHERE WHAT IT READS IS OF BULK AT MOST 1048576: true; the input reads as it did. -/
def quotaMovesUptoRow : OpenClaim := { program := "ytcbfdofeedlajaa", sum := "d8f183f8a5380eb5526d32cdb03366ed59f96ab2b70f5bda4597d4dc86082a51", func := "chatelaine/chatelainelaw25.QuotaMoves", spec := "quotaMoves", unfollowed := true, recurses := true, apart := false, narrowed := true }
def QuotaMovesUptoSaid : Prop := quotaMovesUptoRow.holds Try.pinned (OpenSpec.upto quotaMovesSpec)

/-- 'chatelainelaw25.QuotaJoins', WHERE WHAT IT READS IS OF BULK AT MOST 1048576: true; the input reads as it did. -/
def quotaJoinsUptoRow : OpenClaim := { program := "ytcbfdofeedlajaa", sum := "d8f183f8a5380eb5526d32cdb03366ed59f96ab2b70f5bda4597d4dc86082a51", func := "chatelaine/chatelainelaw25.QuotaJoins", spec := "quotaJoins", unfollowed := true, recurses := true, apart := false, narrowed := true }
def QuotaJoinsUptoSaid : Prop := quotaJoinsUptoRow.holds Try.pinned (OpenSpec.upto quotaJoinsSpec)

/-- 'chatelainelaw25.QuotaStays', WHERE WHAT IT READS IS OF BULK AT MOST 1048576: true; the input reads as it did. -/
def quotaStaysUptoRow : OpenClaim := { program := "ytcbfdofeedlajaa", sum := "d8f183f8a5380eb5526d32cdb03366ed59f96ab2b70f5bda4597d4dc86082a51", func := "chatelaine/chatelainelaw25.QuotaStays", spec := "quotaStays", unfollowed := true, recurses := true, apart := false, narrowed := true }
def QuotaStaysUptoSaid : Prop := quotaStaysUptoRow.holds Try.pinned (OpenSpec.upto quotaStaysSpec)

/-- 'chatelainelaw14.ExtentSets', WHERE WHAT IT READS IS OF BULK AT MOST 1048576: true; the input reads as it did. -/
def extentSetsUptoRow : OpenClaim := { program := "ytcbfdofeedlajaa", sum := "d8f183f8a5380eb5526d32cdb03366ed59f96ab2b70f5bda4597d4dc86082a51", func := "chatelaine/chatelainelaw14.ExtentSets", spec := "extentSets", unfollowed := true, recurses := true, apart := false, narrowed := true }
def ExtentSetsUptoSaid : Prop := extentSetsUptoRow.holds Try.pinned (OpenSpec.upto extentSetsSpec)

/-- 'chatelainelaw14.ExtentBack', WHERE WHAT IT READS IS OF BULK AT MOST 1048576: true; the input reads as it did. -/
def extentBackUptoRow : OpenClaim := { program := "ytcbfdofeedlajaa", sum := "d8f183f8a5380eb5526d32cdb03366ed59f96ab2b70f5bda4597d4dc86082a51", func := "chatelaine/chatelainelaw14.ExtentBack", spec := "extentBack", unfollowed := true, recurses := true, apart := false, narrowed := true }
def ExtentBackUptoSaid : Prop := extentBackUptoRow.holds Try.pinned (OpenSpec.upto extentBackSpec)

/-- 'chatelainelaw14.ExtentChains', WHERE WHAT IT READS IS OF BULK AT MOST 1048576: true; the input reads as it did. -/
def extentChainsUptoRow : OpenClaim := { program := "ytcbfdofeedlajaa", sum := "d8f183f8a5380eb5526d32cdb03366ed59f96ab2b70f5bda4597d4dc86082a51", func := "chatelaine/chatelainelaw14.ExtentChains", spec := "extentChains", unfollowed := true, recurses := true, apart := false, narrowed := true }
def ExtentChainsUptoSaid : Prop := extentChainsUptoRow.holds Try.pinned (OpenSpec.upto extentChainsSpec)

/-- 'chatelainelaw15.AllocOnce', WHERE WHAT IT READS IS OF BULK AT MOST 1048576: true; the input reads as it did. -/
def allocOnceUptoRow : OpenClaim := { program := "ytcbfdofeedlajaa", sum := "d8f183f8a5380eb5526d32cdb03366ed59f96ab2b70f5bda4597d4dc86082a51", func := "chatelaine/chatelainelaw15.AllocOnce", spec := "allocOnce", unfollowed := true, recurses := true, apart := false, narrowed := true }
def AllocOnceUptoSaid : Prop := allocOnceUptoRow.holds Try.pinned (OpenSpec.upto allocOnceSpec)

/-- 'chatelainelaw15.AllocPlays', WHERE WHAT IT READS IS OF BULK AT MOST 1048576: true; the input reads as it did. -/
def allocPlaysUptoRow : OpenClaim := { program := "ytcbfdofeedlajaa", sum := "d8f183f8a5380eb5526d32cdb03366ed59f96ab2b70f5bda4597d4dc86082a51", func := "chatelaine/chatelainelaw15.AllocPlays", spec := "allocPlays", unfollowed := true, recurses := true, apart := false, narrowed := true }
def AllocPlaysUptoSaid : Prop := allocPlaysUptoRow.holds Try.pinned (OpenSpec.upto allocPlaysSpec)

end Rows
end Go.Proofs.Ytcbfdofeedlajaa
