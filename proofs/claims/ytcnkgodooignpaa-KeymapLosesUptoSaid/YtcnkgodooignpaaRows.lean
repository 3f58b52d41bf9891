/-
  No cell of these rows narrows 'for every input' (looked for: loops, veiled, ifaces, maps, wideKeys, modest, calm, conditions, laid).
  DERIVED. THE GIVEN ROWS OF THIS SEAT. 5 by the template 'for every input the law returns true; each argument reads behind the call as it read before'; 0 by the template 'total and deterministic' (their statements: YtcnkgodooignpaaTotals.lean).
  GIVEN WITH THE SEED: the statements are not yours to turn. If you find one false, say at which input.
  Laid BY PROGRAM, IN A SANDBOX (cutbox-rows.mjs): the forced cells as the released guide's own fill.sh prints them over the translation 540947ecb9ba3671… (all of the seat's roots in one cut). By AI agents, Wed Nov 11 2026. No macro, syntax, notation, axiom, sorry.
-/
import Derived.Test.YtcnkgodooignpaaChecked
import GoSem.Claim
import GoSem.ClaimJoined
import GoSem.ClaimMapViews
import Derived.JoinedTies
import Derived.KernelRfl
namespace Go.Proofs.Ytcnkgodooignpaa
/- THE CELL 'sum', in the pinned program and in every row, IS THE sha256 OF THE DUMP (.gsa) THAT YtcnkgodooignpaaProg.lean LOADS. Nothing in Lean hashes anything: it is a label: what it is worth is what the hold of that sum in a sandbox is worth. -/
noncomputable def Try.pinned : Pinned := { name := "ytcnkgodooignpaa", sum := "540947ecb9ba36710542182c015e6f3e418ac49687bc0221732f4a7d18c94539", checked := Try.checked }
namespace Rows
def none {H : Type} : Left H := { results := [], args := [] }

/-- 'lanyardlaw14.KeymapPieces': WHATEVER THE INPUT: true; the input reads as it did. -/
def keymapPiecesSpec : ChangeSpec := { name := "keymapPieces", fn := fun _ => fun
  | [d1, d2, d3, d4] => { results := [.lit (.bool true)], args := [d1, d2, d3, d4] }
  | _ => none }
def keymapPiecesRow : OpenClaim := { program := "ytcnkgodooignpaa", sum := "540947ecb9ba36710542182c015e6f3e418ac49687bc0221732f4a7d18c94539", func := "lanyard/lanyardlaw14.KeymapPieces", spec := "keymapPieces", recurses := true, apart := false }
def KeymapPiecesSaid : Prop := keymapPiecesRow.holds Try.pinned (OpenSpec.ofChange keymapPiecesSpec)

/-- ITS FALSE NEIGHBOUR: 'it returns false'. Refute it at one input. -/
def keymapPiecesWrong : ChangeSpec := { name := "keymapPieces", fn := fun _ => fun
  | [d1, d2, d3, d4] => { results := [.lit (.bool false)], args := [d1, d2, d3, d4] }
  | _ => none }
def KeymapPiecesWrongFalsely : Prop := keymapPiecesRow.holds Try.pinned (OpenSpec.ofChange keymapPiecesWrong)

/-- 'lanyardlaw14.KeymapLoses': WHATEVER THE INPUT: true; the input reads as it did. -/
def keymapLosesSpec : ChangeSpec := { name := "keymapLoses", fn := fun _ => fun
  | [d1, d2, d3] => { results := [.lit (.bool true)], args := [d1, d2, d3] }
  | _ => none }
def keymapLosesRow : OpenClaim := { program := "ytcnkgodooignpaa", sum := "540947ecb9ba36710542182c015e6f3e418ac49687bc0221732f4a7d18c94539", func := "lanyard/lanyardlaw14.KeymapLoses", spec := "keymapLoses", recurses := true, apart := false }
def KeymapLosesSaid : Prop := keymapLosesRow.holds Try.pinned (OpenSpec.ofChange keymapLosesSpec)

/-- ITS FALSE NEIGHBOUR: 'it returns false'. Refute it at one input. -/
def keymapLosesWrong : ChangeSpec := { name := "keymapLoses", fn := fun _ => fun
  | [d1, d2, d3] => { results := [.lit (.bool false)], args := [d1, d2, d3] }
  | _ => none }
def KeymapLosesWrongFalsely : Prop := keymapLosesRow.holds Try.pinned (OpenSpec.ofChange keymapLosesWrong)

/-- 'lanyardlaw14.KeymapReads': WHATEVER THE INPUT: true; the input reads as it did. -/
def keymapReadsSpec : ChangeSpec := { name := "keymapReads", fn := fun _ => fun
  | [d1, d2, d3, d4] => { results := [.lit (.bool true)], args := [d1, d2, d3, d4] }
  | _ => none }
def keymapReadsRow : OpenClaim := { program := "ytcnkgodooignpaa", sum := "540947ecb9ba36710542182c015e6f3e418ac49687bc0221732f4a7d18c94539", func := "lanyard/lanyardlaw14.KeymapReads", spec := "keymapReads", recurses := true, apart := false }
def KeymapReadsSaid : Prop := keymapReadsRow.holds Try.pinned (OpenSpec.ofChange keymapReadsSpec)

/-- ITS FALSE NEIGHBOUR: 'it returns false'. Refute it at one input. -/
def keymapReadsWrong : ChangeSpec := { name := "keymapReads", fn := fun _ => fun
  | [d1, d2, d3, d4] => { results := [.lit (.bool false)], args := [d1, d2, d3, d4] }
  | _ => none }
def KeymapReadsWrongFalsely : Prop := keymapReadsRow.holds Try.pinned (OpenSpec.ofChange keymapReadsWrong)

/-- 'lanyardlaw14.KeymapNone': WHATEVER THE INPUT: true; the input reads as it did. -/
def keymapNoneSpec : ChangeSpec := { name := "keymapNone", fn := fun _ => fun
  | [d1, d2] => { results := [.lit (.bool true)], args := [d1, d2] }
  | _ => none }
def keymapNoneRow : OpenClaim := { program := "ytcnkgodooignpaa", sum := "540947ecb9ba36710542182c015e6f3e418ac49687bc0221732f4a7d18c94539", func := "lanyard/lanyardlaw14.KeymapNone", spec := "keymapNone", inPlace := ["maps.clone"], unfollowed := true, recurses := true, apart := false }
def KeymapNoneSaid : Prop := keymapNoneRow.holds Try.pinned (OpenSpec.ofChange keymapNoneSpec)

/-- ITS FALSE NEIGHBOUR: 'it returns false'. Refute it at one input. -/
def keymapNoneWrong : ChangeSpec := { name := "keymapNone", fn := fun _ => fun
  | [d1, d2] => { results := [.lit (.bool false)], args := [d1, d2] }
  | _ => none }
def KeymapNoneWrongFalsely : Prop := keymapNoneRow.holds Try.pinned (OpenSpec.ofChange keymapNoneWrong)

/-- 'lanyardlaw14.KeymapDoes': WHATEVER THE INPUT: true; the input reads as it did. -/
def keymapDoesSpec : ChangeSpec := { name := "keymapDoes", fn := fun _ => fun
  | [d1, d2] => { results := [.lit (.bool true)], args := [d1, d2] }
  | _ => none }
def keymapDoesRow : OpenClaim := { program := "ytcnkgodooignpaa", sum := "540947ecb9ba36710542182c015e6f3e418ac49687bc0221732f4a7d18c94539", func := "lanyard/lanyardlaw14.KeymapDoes", spec := "keymapDoes", inPlace := ["internal/abi.NoEscape", "internal/bytealg.MakeNoZero", "maps.clone"], unfollowed := true, recurses := true, apart := false }
def KeymapDoesSaid : Prop := keymapDoesRow.holds Try.pinned (OpenSpec.ofChange keymapDoesSpec)

/-- ITS FALSE NEIGHBOUR: 'it returns false'. Refute it at one input. -/
def keymapDoesWrong : ChangeSpec := { name := "keymapDoes", fn := fun _ => fun
  | [d1, d2] => { results := [.lit (.bool false)], args := [d1, d2] }
  | _ => none }
def KeymapDoesWrongFalsely : Prop := keymapDoesRow.holds Try.pinned (OpenSpec.ofChange keymapDoesWrong)

/- THE SECOND FORM. 'bulk': how many values and letters a reading holds, each counted each time it is reached (what is shared counts as often as it is met; a slice's spare places count too). A statement '..UptoSaid' is the law's where the arguments, and the package variables that the reading takes, are together of bulk at most 1048576: NARROWER than '..Said'. Prove '..Said' where nothing that the law and all that it calls make is longer than what came in: it says more and counts as full. Else prove '..UptoSaid'. A law counts once. -/
mutual
def uptoBulk {H : Type} : DataW H → Nat
  | .lit (.string bytes) => bytes.length + 1
  | .lit _ => 1
  | .nil => 1
  | .ptr d => uptoBulk d + 1
  | .slice elems spare => uptoBulkAll elems + uptoBulkAll spare + 1
  | .agg parts => uptoBulkAll parts + 1
  | .iface _ d => uptoBulk d + 1
  | .map entries => uptoBulkEntries entries + 1
  | .held _ => 1
def uptoBulkAll {H : Type} : List (DataW H) → Nat
  | [] => 0
  | d :: r => uptoBulk d + uptoBulkAll r
def uptoBulkEntries {H : Type} : List (Lit × DataW H) → Nat
  | [] => 0
  | x :: r => uptoBulkEntry x + uptoBulkEntries r
def uptoBulkEntry {H : Type} : Lit × DataW H → Nat
  | (.string bytes, d) => bytes.length + uptoBulk d + 1
  | (_, d) => uptoBulk d + 1
 end
def uptoSmall : (H : Type) → List (DataW H) → Bool := fun _ ds => decide (uptoBulkAll ds ≤ 1048576)
def OpenSpec.upto (s : _root_.Go.ChangeSpec) : _root_.Go.OpenSpec := { _root_.Go.OpenSpec.ofChange s with cond := some uptoSmall }

/-- 'lanyardlaw14.KeymapPieces', WHERE WHAT IT READS IS OF BULK AT MOST 1048576: true; the input reads as it did. -/
def keymapPiecesUptoRow : OpenClaim := { program := "ytcnkgodooignpaa", sum := "540947ecb9ba36710542182c015e6f3e418ac49687bc0221732f4a7d18c94539", func := "lanyard/lanyardlaw14.KeymapPieces", spec := "keymapPieces", recurses := true, apart := false, narrowed := true }
def KeymapPiecesUptoSaid : Prop := keymapPiecesUptoRow.holds Try.pinned (OpenSpec.upto keymapPiecesSpec)

/-- 'lanyardlaw14.KeymapLoses', WHERE WHAT IT READS IS OF BULK AT MOST 1048576: true; the input reads as it did. -/
def keymapLosesUptoRow : OpenClaim := { program := "ytcnkgodooignpaa", sum := "540947ecb9ba36710542182c015e6f3e418ac49687bc0221732f4a7d18c94539", func := "lanyard/lanyardlaw14.KeymapLoses", spec := "keymapLoses", recurses := true, apart := false, narrowed := true }
def KeymapLosesUptoSaid : Prop := keymapLosesUptoRow.holds Try.pinned (OpenSpec.upto keymapLosesSpec)

/-- 'lanyardlaw14.KeymapReads', WHERE WHAT IT READS IS OF BULK AT MOST 1048576: true; the input reads as it did. -/
def keymapReadsUptoRow : OpenClaim := { program := "ytcnkgodooignpaa", sum := "540947ecb9ba36710542182c015e6f3e418ac49687bc0221732f4a7d18c94539", func := "lanyard/lanyardlaw14.KeymapReads", spec := "keymapReads", recurses := true, apart := false, narrowed := true }
def KeymapReadsUptoSaid : Prop := keymapReadsUptoRow.holds Try.pinned (OpenSpec.upto keymapReadsSpec)

/-- 'lanyardlaw14.KeymapNone', WHERE WHAT IT READS IS OF BULK AT MOST 1048576: true; the input reads as it did. -/
def keymapNoneUptoRow : OpenClaim := { program := "ytcnkgodooignpaa", sum := "540947ecb9ba36710542182c015e6f3e418ac49687bc0221732f4a7d18c94539", func := "lanyard/lanyardlaw14.KeymapNone", spec := "keymapNone", inPlace := ["maps.clone"], unfollowed := true, recurses := true, apart := false, narrowed := true }
def KeymapNoneUptoSaid : Prop := keymapNoneUptoRow.holds Try.pinned (OpenSpec.upto keymapNoneSpec)

/-- 'lanyardlaw14.KeymapDoes', WHERE WHAT IT READS IS OF BULK AT MOST 1048576: true; the input reads as it did. -/
def keymapDoesUptoRow : OpenClaim := { program := "ytcnkgodooignpaa", sum := "540947ecb9ba36710542182c015e6f3e418ac49687bc0221732f4a7d18c94539", func := "lanyard/lanyardlaw14.KeymapDoes", spec := "keymapDoes", inPlace := ["internal/abi.NoEscape", "internal/bytealg.MakeNoZero", "maps.clone"], unfollowed := true, recurses := true, apart := false, narrowed := true }
def KeymapDoesUptoSaid : Prop := keymapDoesUptoRow.holds Try.pinned (OpenSpec.upto keymapDoesSpec)

end Rows
end Go.Proofs.Ytcnkgodooignpaa
