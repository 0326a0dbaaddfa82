/-
  No cell of these rows narrows 'for every input' (looked for: loops, veiled, ifaces, maps, wideKeys, modest, calm, conditions, laid).
  DERIVED. THE GIVEN ROWS OF THIS SEAT. 4 by the template 'for every input the law returns true; each argument reads behind the call as it read before'; 0 by the template 'total and deterministic' (their statements: YtiopahkigbdmcaaGreatTotals.lean).
  GIVEN WITH THE SEED: the statements are not yours to turn. If you find one false, say at which input.
  Laid BY PROGRAM, IN A SANDBOX (cutbox-rows.mjs): the forced cells as the released guide's own fill.sh prints them over the translation 005972a0b127db9b… (all of the seat's roots in one cut). By AI agents, Wed Nov 11 2026. No macro, syntax, notation, axiom, sorry.
-/
import Derived.Test.YtiopahkigbdmcaaGreatChecked
import GoSem.Claim
import GoSem.ClaimJoined
import GoSem.ClaimMapViews
import Derived.JoinedTies
import Derived.KernelRfl
namespace Go.Proofs.YtiopahkigbdmcaaGreat
/- THE CELL 'sum', in the pinned program and in every row, IS THE sha256 OF THE DUMP (.gsa) THAT YtiopahkigbdmcaaGreatProg.lean LOADS. Nothing in Lean hashes anything: it is a label: what it is worth is what the hold of that sum in a sandbox is worth. -/
noncomputable def Tryz.pinned : Pinned := { name := "ytiopahkigbdmcaagreat", sum := "005972a0b127db9b20f239d59b0b4f4f95eb94150956763b254ae63b111e825d", checked := Tryz.checked }
namespace Rows
def none {H : Type} : Left H := { results := [], args := [] }

/-- 'flittinglaw39.BoundOf': WHATEVER THE INPUT: true; the input reads as it did. -/
def boundOfSpec : ChangeSpec := { name := "boundOf", fn := fun _ => fun
  | [d1, d2] => { results := [.lit (.bool true)], args := [d1, d2] }
  | _ => none }
def boundOfRow : OpenClaim := { program := "ytiopahkigbdmcaagreat", sum := "005972a0b127db9b20f239d59b0b4f4f95eb94150956763b254ae63b111e825d", func := "flitting/flittinglaw39.BoundOf", spec := "boundOf", inPlace := ["internal/bytealg.IndexByteString", "internal/bytealg.IndexString"], unfollowed := true, recurses := true, named := ["internal/bytealg.MaxLen"], apart := false }
def BoundOfSaid : Prop := boundOfRow.holds Tryz.pinned (OpenSpec.ofChange boundOfSpec)

/-- ITS FALSE NEIGHBOUR: 'it returns false'. Refute it at one input. -/
def boundOfWrong : ChangeSpec := { name := "boundOf", fn := fun _ => fun
  | [d1, d2] => { results := [.lit (.bool false)], args := [d1, d2] }
  | _ => none }
def BoundOfWrongFalsely : Prop := boundOfRow.holds Tryz.pinned (OpenSpec.ofChange boundOfWrong)

/-- 'flittinglaw14.MirrorStays': WHATEVER THE INPUT: true; the input reads as it did. -/
def mirrorStaysSpec : ChangeSpec := { name := "mirrorStays", fn := fun _ => fun
  | [d1, d2, d3] => { results := [.lit (.bool true)], args := [d1, d2, d3] }
  | _ => none }
def mirrorStaysRow : OpenClaim := { program := "ytiopahkigbdmcaagreat", sum := "005972a0b127db9b20f239d59b0b4f4f95eb94150956763b254ae63b111e825d", func := "flitting/flittinglaw14.MirrorStays", spec := "mirrorStays", inPlace := ["internal/bytealg.IndexByteString", "internal/bytealg.IndexString"], unfollowed := true, recurses := true, named := ["internal/bytealg.MaxLen"], apart := false }
def MirrorStaysSaid : Prop := mirrorStaysRow.holds Tryz.pinned (OpenSpec.ofChange mirrorStaysSpec)

/-- ITS FALSE NEIGHBOUR: 'it returns false'. Refute it at one input. -/
def mirrorStaysWrong : ChangeSpec := { name := "mirrorStays", fn := fun _ => fun
  | [d1, d2, d3] => { results := [.lit (.bool false)], args := [d1, d2, d3] }
  | _ => none }
def MirrorStaysWrongFalsely : Prop := mirrorStaysRow.holds Tryz.pinned (OpenSpec.ofChange mirrorStaysWrong)

/-- 'flittinglaw14.MirrorPlain': WHATEVER THE INPUT: true; the input reads as it did. -/
def mirrorPlainSpec : ChangeSpec := { name := "mirrorPlain", fn := fun _ => fun
  | [d1, d2, d3] => { results := [.lit (.bool true)], args := [d1, d2, d3] }
  | _ => none }
def mirrorPlainRow : OpenClaim := { program := "ytiopahkigbdmcaagreat", sum := "005972a0b127db9b20f239d59b0b4f4f95eb94150956763b254ae63b111e825d", func := "flitting/flittinglaw14.MirrorPlain", spec := "mirrorPlain", inPlace := ["internal/bytealg.IndexByteString", "internal/bytealg.IndexString"], unfollowed := true, recurses := true, named := ["internal/bytealg.MaxLen"], apart := false }
def MirrorPlainSaid : Prop := mirrorPlainRow.holds Tryz.pinned (OpenSpec.ofChange mirrorPlainSpec)

/-- ITS FALSE NEIGHBOUR: 'it returns false'. Refute it at one input. -/
def mirrorPlainWrong : ChangeSpec := { name := "mirrorPlain", fn := fun _ => fun
  | [d1, d2, d3] => { results := [.lit (.bool false)], args := [d1, d2, d3] }
  | _ => none }
def MirrorPlainWrongFalsely : Prop := mirrorPlainRow.holds Tryz.pinned (OpenSpec.ofChange mirrorPlainWrong)

/-- 'flittinglaw14.MirrorLeft': WHATEVER THE INPUT: true; the input reads as it did. -/
def mirrorLeftSpec : ChangeSpec := { name := "mirrorLeft", fn := fun _ => fun
  | [d1, d2, d3] => { results := [.lit (.bool true)], args := [d1, d2, d3] }
  | _ => none }
def mirrorLeftRow : OpenClaim := { program := "ytiopahkigbdmcaagreat", sum := "005972a0b127db9b20f239d59b0b4f4f95eb94150956763b254ae63b111e825d", func := "flitting/flittinglaw14.MirrorLeft", spec := "mirrorLeft", inPlace := ["internal/bytealg.IndexByteString", "internal/bytealg.IndexString"], unfollowed := true, recurses := true, named := ["internal/bytealg.MaxLen"], apart := false }
def MirrorLeftSaid : Prop := mirrorLeftRow.holds Tryz.pinned (OpenSpec.ofChange mirrorLeftSpec)

/-- ITS FALSE NEIGHBOUR: 'it returns false'. Refute it at one input. -/
def mirrorLeftWrong : ChangeSpec := { name := "mirrorLeft", fn := fun _ => fun
  | [d1, d2, d3] => { results := [.lit (.bool false)], args := [d1, d2, d3] }
  | _ => none }
def MirrorLeftWrongFalsely : Prop := mirrorLeftRow.holds Tryz.pinned (OpenSpec.ofChange mirrorLeftWrong)

/- THE SECOND FORM. 'bulk': how many values and letters a reading holds, each counted each time it is reached (what is shared counts as often as it is met; a slice's spare places count too). A statement '..UptoSaid' is the law's where the arguments, and the package variables that the reading takes, are together of bulk at most 1048576: NARROWER than '..Said'. Prove '..Said' where nothing that the law and all that it calls make is longer than what came in: it says more and counts as full. Else prove '..UptoSaid'. A law counts once. -/
mutual
def uptoBulk {H : Type} : DataW H → Nat
  | .lit (.string bytes) => bytes.length + 1
  | .lit _ => 1
  | .nil => 1
  | .ptr d => uptoBulk d + 1
  | .slice elems spare => uptoBulkAll elems + uptoBulkAll spare + 1
  | .agg parts => uptoBulkAll parts + 1
  | .iface _ d => uptoBulk d + 1
  | .map entries => uptoBulkEntries entries + 1
  | .held _ => 1
def uptoBulkAll {H : Type} : List (DataW H) → Nat
  | [] => 0
  | d :: r => uptoBulk d + uptoBulkAll r
def uptoBulkEntries {H : Type} : List (Lit × DataW H) → Nat
  | [] => 0
  | x :: r => uptoBulkEntry x + uptoBulkEntries r
def uptoBulkEntry {H : Type} : Lit × DataW H → Nat
  | (.string bytes, d) => bytes.length + uptoBulk d + 1
  | (_, d) => uptoBulk d + 1
 end
def uptoSmall : (H : Type) → List (DataW H) → Bool := fun _ ds => decide (uptoBulkAll ds ≤ 1048576)
def OpenSpec.upto (s : _root_.Go.ChangeSpec) : _root_.Go.OpenSpec := { _root_.Go.OpenSpec.ofChange s with cond := some uptoSmall }

/-- 'flittinglaw39.BoundOf', WHERE WHAT IT READS IS OF BULK AT MOST 1048576: true; the input reads as it did. -/
def boundOfUptoRow : OpenClaim := { program := "ytiopahkigbdmcaagreat", sum := "005972a0b127db9b20f239d59b0b4f4f95eb94150956763b254ae63b111e825d", func := "flitting/flittinglaw39.BoundOf", spec := "boundOf", inPlace := ["internal/bytealg.IndexByteString", "internal/bytealg.IndexString"], unfollowed := true, recurses := true, named := ["internal/bytealg.MaxLen"], apart := false, narrowed := true }
def BoundOfUptoSaid : Prop := boundOfUptoRow.holds Tryz.pinned (OpenSpec.upto boundOfSpec)

/-- 'flittinglaw14.MirrorStays', WHERE WHAT IT READS IS OF BULK AT MOST 1048576: true; the input reads as it did. -/
def mirrorStaysUptoRow : OpenClaim := { program := "ytiopahkigbdmcaagreat", sum := "005972a0b127db9b20f239d59b0b4f4f95eb94150956763b254ae63b111e825d", func := "flitting/flittinglaw14.MirrorStays", spec := "mirrorStays", inPlace := ["internal/bytealg.IndexByteString", "internal/bytealg.IndexString"], unfollowed := true, recurses := true, named := ["internal/bytealg.MaxLen"], apart := false, narrowed := true }
def MirrorStaysUptoSaid : Prop := mirrorStaysUptoRow.holds Tryz.pinned (OpenSpec.upto mirrorStaysSpec)

/-- 'flittinglaw14.MirrorPlain', WHERE WHAT IT READS IS OF BULK AT MOST 1048576: true; the input reads as it did. -/
def mirrorPlainUptoRow : OpenClaim := { program := "ytiopahkigbdmcaagreat", sum := "005972a0b127db9b20f239d59b0b4f4f95eb94150956763b254ae63b111e825d", func := "flitting/flittinglaw14.MirrorPlain", spec := "mirrorPlain", inPlace := ["internal/bytealg.IndexByteString", "internal/bytealg.IndexString"], unfollowed := true, recurses := true, named := ["internal/bytealg.MaxLen"], apart := false, narrowed := true }
def MirrorPlainUptoSaid : Prop := mirrorPlainUptoRow.holds Tryz.pinned (OpenSpec.upto mirrorPlainSpec)

/-- 'flittinglaw14.MirrorLeft', WHERE WHAT IT READS IS OF BULK AT MOST 1048576: true; the input reads as it did. -/
def mirrorLeftUptoRow : OpenClaim := { program := "ytiopahkigbdmcaagreat", sum := "005972a0b127db9b20f239d59b0b4f4f95eb94150956763b254ae63b111e825d", func := "flitting/flittinglaw14.MirrorLeft", spec := "mirrorLeft", inPlace := ["internal/bytealg.IndexByteString", "internal/bytealg.IndexString"], unfollowed := true, recurses := true, named := ["internal/bytealg.MaxLen"], apart := false, narrowed := true }
def MirrorLeftUptoSaid : Prop := mirrorLeftUptoRow.holds Tryz.pinned (OpenSpec.upto mirrorLeftSpec)

end Rows
end Go.Proofs.YtiopahkigbdmcaaGreat
