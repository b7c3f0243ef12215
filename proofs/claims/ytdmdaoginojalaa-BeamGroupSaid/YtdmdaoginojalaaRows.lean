/-
  No cell of these rows narrows 'for every input' (looked for: loops, veiled, ifaces, maps, wideKeys, modest, calm, conditions, laid).
  DERIVED. THE GIVEN ROWS OF THIS SEAT. 2 by the template 'for every input the law returns true; each argument reads behind the call as it read before'; 0 by the template 'total and deterministic' (their statements: YtdmdaoginojalaaTotals.lean).
  GIVEN WITH THE SEED: the statements are not yours to turn. If you find one false, say at which input.
  Laid BY PROGRAM, IN A SANDBOX (cutbox-rows.mjs): the forced cells as the released guide's own fill.sh prints them over the translation 53bf541978651e9d… (all of the seat's roots in one cut). By AI agents, Wed Nov 11 2026. No macro, syntax, notation, axiom, sorry.
-/
import Derived.Test.YtdmdaoginojalaaChecked
import GoSem.Claim
import GoSem.ClaimJoined
import GoSem.ClaimMapViews
import Derived.JoinedTies
import Derived.KernelRfl
namespace Go.Proofs.Ytdmdaoginojalaa
/- THE CELL 'sum', in the pinned program and in every row, IS THE sha256 OF THE DUMP (.gsa) THAT YtdmdaoginojalaaProg.lean LOADS. Nothing in Lean hashes anything: it is a label: what it is worth is what the hold of that sum in a sandbox is worth. -/
noncomputable def Try.pinned : Pinned := { name := "ytdmdaoginojalaa", sum := "53bf541978651e9d714110a18ecaba11e1c24afc29f902f13e9149ac3de395d0", checked := Try.checked }
namespace Rows
def none {H : Type} : Left H := { results := [], args := [] }

/-- 'polestarlaw15.BeamGroup': WHATEVER THE INPUT: true; the input reads as it did. -/
def beamGroupSpec : ChangeSpec := { name := "beamGroup", fn := fun _ => fun
  | [d1, d2, d3] => { results := [.lit (.bool true)], args := [d1, d2, d3] }
  | _ => none }
def beamGroupRow : OpenClaim := { program := "ytdmdaoginojalaa", sum := "53bf541978651e9d714110a18ecaba11e1c24afc29f902f13e9149ac3de395d0", func := "polestar/polestarlaw15.BeamGroup", spec := "beamGroup", unfollowed := true, recurses := true, named := ["math/bits.overflowError"], apart := false }
def BeamGroupSaid : Prop := beamGroupRow.holds Try.pinned (OpenSpec.ofChange beamGroupSpec)

/-- ITS FALSE NEIGHBOUR: 'it returns false'. Refute it at one input. -/
def beamGroupWrong : ChangeSpec := { name := "beamGroup", fn := fun _ => fun
  | [d1, d2, d3] => { results := [.lit (.bool false)], args := [d1, d2, d3] }
  | _ => none }
def BeamGroupWrongFalsely : Prop := beamGroupRow.holds Try.pinned (OpenSpec.ofChange beamGroupWrong)

/-- 'polestarlaw15.BeamAlong': WHATEVER THE INPUT: true; the input reads as it did. -/
def beamAlongSpec : ChangeSpec := { name := "beamAlong", fn := fun _ => fun
  | [d1, d2] => { results := [.lit (.bool true)], args := [d1, d2] }
  | _ => none }
def beamAlongRow : OpenClaim := { program := "ytdmdaoginojalaa", sum := "53bf541978651e9d714110a18ecaba11e1c24afc29f902f13e9149ac3de395d0", func := "polestar/polestarlaw15.BeamAlong", spec := "beamAlong", unfollowed := true, recurses := true, named := ["math/bits.overflowError"], apart := false }
def BeamAlongSaid : Prop := beamAlongRow.holds Try.pinned (OpenSpec.ofChange beamAlongSpec)

/-- ITS FALSE NEIGHBOUR: 'it returns false'. Refute it at one input. -/
def beamAlongWrong : ChangeSpec := { name := "beamAlong", fn := fun _ => fun
  | [d1, d2] => { results := [.lit (.bool false)], args := [d1, d2] }
  | _ => none }
def BeamAlongWrongFalsely : Prop := beamAlongRow.holds Try.pinned (OpenSpec.ofChange beamAlongWrong)

/- THE SECOND FORM. 'bulk': how many values and letters a reading holds, each counted each time it is reached (what is shared counts as often as it is met; a slice's spare places count too). A statement '..UptoSaid' is the law's where the arguments, and the package variables that the reading takes, are together of bulk at most 1048576: NARROWER than '..Said'. Prove '..Said' where nothing that the law and all that it calls make is longer than what came in: it says more and counts as full. Else prove '..UptoSaid'. A law counts once. -/
mutual
def uptoBulk {H : Type} : DataW H → Nat
  | .lit (.string bytes) => bytes.length + 1
  | .lit _ => 1
  | .nil => 1
  | .ptr d => uptoBulk d + 1
  | .slice elems spare => uptoBulkAll elems + uptoBulkAll spare + 1
  | .agg parts => uptoBulkAll parts + 1
  | .iface _ d => uptoBulk d + 1
  | .map entries => uptoBulkEntries entries + 1
  | .held _ => 1
def uptoBulkAll {H : Type} : List (DataW H) → Nat
  | [] => 0
  | d :: r => uptoBulk d + uptoBulkAll r
def uptoBulkEntries {H : Type} : List (Lit × DataW H) → Nat
  | [] => 0
  | x :: r => uptoBulkEntry x + uptoBulkEntries r
def uptoBulkEntry {H : Type} : Lit × DataW H → Nat
  | (.string bytes, d) => bytes.length + uptoBulk d + 1
  | (_, d) => uptoBulk d + 1
 end
def uptoSmall : (H : Type) → List (DataW H) → Bool := fun _ ds => decide (uptoBulkAll ds ≤ 1048576)
def OpenSpec.upto (s : _root_.Go.ChangeSpec) : _root_.Go.OpenSpec := { _root_.Go.OpenSpec.ofChange s with cond := some uptoSmall }

/-- 'polestarlaw15.BeamGroup', WHERE WHAT IT READS IS OF BULK AT MOST 1048576: true; the input reads as it did. -/
def beamGroupUptoRow : OpenClaim := { program := "ytdmdaoginojalaa", sum := "53bf541978651e9d714110a18ecaba11e1c24afc29f902f13e9149ac3de395d0", func := "polestar/polestarlaw15.BeamGroup", spec := "beamGroup", unfollowed := true, recurses := true, named := ["math/bits.overflowError"], apart := false, narrowed := true }
def BeamGroupUptoSaid : Prop := beamGroupUptoRow.holds Try.pinned (OpenSpec.upto beamGroupSpec)

/-- 'polestarlaw15.BeamAlong', WHERE WHAT IT READS IS OF BULK AT MOST 1048576: true; the input reads as it did. -/
def beamAlongUptoRow : OpenClaim := { program := "ytdmdaoginojalaa", sum := "53bf541978651e9d714110a18ecaba11e1c24afc29f902f13e9149ac3de395d0", func := "polestar/polestarlaw15.BeamAlong", spec := "beamAlong", unfollowed := true, recurses := true, named := ["math/bits.overflowError"], apart := false, narrowed := true }
def BeamAlongUptoSaid : Prop := beamAlongUptoRow.holds Try.pinned (OpenSpec.upto beamAlongSpec)

end Rows
end Go.Proofs.Ytdmdaoginojalaa
