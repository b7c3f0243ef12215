/-
  No cell of these rows narrows 'for every input' (looked for: loops, veiled, ifaces, maps, wideKeys, modest, calm, conditions, laid).
  DERIVED. THE GIVEN ROWS OF THIS SEAT. 3 by the template 'for every input the law returns true; each argument reads behind the call as it read before'; 0 by the template 'total and deterministic' (their statements: YtgafjnfplgfajaaTotals.lean).
  GIVEN WITH THE SEED: the statements are not yours to turn. If you find one false, say at which input.
  Laid BY PROGRAM, IN A SANDBOX (cutbox-rows.mjs): the forced cells as the released guide's own fill.sh prints them over the translation e91f3c65ca338ead… (all of the seat's roots in one cut). By AI agents, Wed Nov 11 2026. No macro, syntax, notation, axiom, sorry.
-/
import Derived.Test.YtgafjnfplgfajaaChecked
import GoSem.Claim
import GoSem.ClaimJoined
import GoSem.ClaimMapViews
import Derived.JoinedTies
import Derived.KernelRfl
namespace Go.Proofs.Ytgafjnfplgfajaa
/- THE CELL 'sum', in the pinned program and in every row, IS THE sha256 OF THE DUMP (.gsa) THAT YtgafjnfplgfajaaProg.lean LOADS. Nothing in Lean hashes anything: it is a label: what it is worth is what the hold of that sum in a sandbox is worth. -/
noncomputable def Try.pinned : Pinned := { name := "ytgafjnfplgfajaa", sum := "e91f3c65ca338eaded8d5fb932b57f0e78fc7f8aa98f5b3c6a9517ee33e6fcfb", checked := Try.checked }
namespace Rows
def none {H : Type} : Left H := { results := [], args := [] }

/-- 'polestarlaw19.StackWaves': WHATEVER THE INPUT: true; the input reads as it did. -/
def stackWavesSpec : ChangeSpec := { name := "stackWaves", fn := fun _ => fun
  | [d1, d2, d3] => { results := [.lit (.bool true)], args := [d1, d2, d3] }
  | _ => none }
def stackWavesRow : OpenClaim := { program := "ytgafjnfplgfajaa", sum := "e91f3c65ca338eaded8d5fb932b57f0e78fc7f8aa98f5b3c6a9517ee33e6fcfb", func := "polestar/polestarlaw19.StackWaves", spec := "stackWaves", inPlace := ["math.Float64bits", "math.Float64frombits", "math.sqrt"], unfollowed := true, recurses := true, apart := false }
def StackWavesSaid : Prop := stackWavesRow.holds Try.pinned (OpenSpec.ofChange stackWavesSpec)

/-- ITS FALSE NEIGHBOUR: 'it returns false'. Refute it at one input. -/
def stackWavesWrong : ChangeSpec := { name := "stackWaves", fn := fun _ => fun
  | [d1, d2, d3] => { results := [.lit (.bool false)], args := [d1, d2, d3] }
  | _ => none }
def StackWavesWrongFalsely : Prop := stackWavesRow.holds Try.pinned (OpenSpec.ofChange stackWavesWrong)

/-- 'polestarlaw04.RoundFracs': WHATEVER THE INPUT: true; the input reads as it did. -/
def roundFracsSpec : ChangeSpec := { name := "roundFracs", fn := fun _ => fun
  | [d] => { results := [.lit (.bool true)], args := [d] }
  | _ => none }
def roundFracsRow : OpenClaim := { program := "ytgafjnfplgfajaa", sum := "e91f3c65ca338eaded8d5fb932b57f0e78fc7f8aa98f5b3c6a9517ee33e6fcfb", func := "polestar/polestarlaw04.RoundFracs", spec := "roundFracs", inPlace := ["math.Float64bits", "math.Float64frombits"], named := ["math/bits.overflowError"], apart := false }
def RoundFracsSaid : Prop := roundFracsRow.holds Try.pinned (OpenSpec.ofChange roundFracsSpec)

/-- ITS FALSE NEIGHBOUR: 'it returns false'. Refute it at one input. -/
def roundFracsWrong : ChangeSpec := { name := "roundFracs", fn := fun _ => fun
  | [d] => { results := [.lit (.bool false)], args := [d] }
  | _ => none }
def RoundFracsWrongFalsely : Prop := roundFracsRow.holds Try.pinned (OpenSpec.ofChange roundFracsWrong)

/-- 'polestarlaw21.FftBounds': WHATEVER THE INPUT: true; the input reads as it did. -/
def fftBoundsSpec : ChangeSpec := { name := "fftBounds", fn := fun _ => fun
  | [d] => { results := [.lit (.bool true)], args := [d] }
  | _ => none }
def fftBoundsRow : OpenClaim := { program := "ytgafjnfplgfajaa", sum := "e91f3c65ca338eaded8d5fb932b57f0e78fc7f8aa98f5b3c6a9517ee33e6fcfb", func := "polestar/polestarlaw21.FftBounds", spec := "fftBounds", inPlace := ["math.Float64bits", "math.Float64frombits", "math.sqrt"], unfollowed := true, recurses := true, apart := false }
def FftBoundsSaid : Prop := fftBoundsRow.holds Try.pinned (OpenSpec.ofChange fftBoundsSpec)

/-- ITS FALSE NEIGHBOUR: 'it returns false'. Refute it at one input. -/
def fftBoundsWrong : ChangeSpec := { name := "fftBounds", fn := fun _ => fun
  | [d] => { results := [.lit (.bool false)], args := [d] }
  | _ => none }
def FftBoundsWrongFalsely : Prop := fftBoundsRow.holds Try.pinned (OpenSpec.ofChange fftBoundsWrong)

/- THE SECOND FORM. 'bulk': how many values and letters a reading holds, each counted each time it is reached (what is shared counts as often as it is met; a slice's spare places count too). A statement '..UptoSaid' is the law's where the arguments, and the package variables that the reading takes, are together of bulk at most 1048576: NARROWER than '..Said'. Prove '..Said' where nothing that the law and all that it calls make is longer than what came in: it says more and counts as full. Else prove '..UptoSaid'. A law counts once. -/
mutual
def uptoBulk {H : Type} : DataW H → Nat
  | .lit (.string bytes) => bytes.length + 1
  | .lit _ => 1
  | .nil => 1
  | .ptr d => uptoBulk d + 1
  | .slice elems spare => uptoBulkAll elems + uptoBulkAll spare + 1
  | .agg parts => uptoBulkAll parts + 1
  | .iface _ d => uptoBulk d + 1
  | .map entries => uptoBulkEntries entries + 1
  | .held _ => 1
def uptoBulkAll {H : Type} : List (DataW H) → Nat
  | [] => 0
  | d :: r => uptoBulk d + uptoBulkAll r
def uptoBulkEntries {H : Type} : List (Lit × DataW H) → Nat
  | [] => 0
  | x :: r => uptoBulkEntry x + uptoBulkEntries r
def uptoBulkEntry {H : Type} : Lit × DataW H → Nat
  | (.string bytes, d) => bytes.length + uptoBulk d + 1
  | (_, d) => uptoBulk d + 1
 end
def uptoSmall : (H : Type) → List (DataW H) → Bool := fun _ ds => decide (uptoBulkAll ds ≤ 1048576)
def OpenSpec.upto (s : _root_.Go.ChangeSpec) : _root_.Go.OpenSpec := { _root_.Go.OpenSpec.ofChange s with cond := some uptoSmall }

/-- 'polestarlaw19.StackWaves', WHERE WHAT IT READS IS OF BULK AT MOST 1048576: true; the input reads as it did. -/
def stackWavesUptoRow : OpenClaim := { program := "ytgafjnfplgfajaa", sum := "e91f3c65ca338eaded8d5fb932b57f0e78fc7f8aa98f5b3c6a9517ee33e6fcfb", func := "polestar/polestarlaw19.StackWaves", spec := "stackWaves", inPlace := ["math.Float64bits", "math.Float64frombits", "math.sqrt"], unfollowed := true, recurses := true, apart := false, narrowed := true }
def StackWavesUptoSaid : Prop := stackWavesUptoRow.holds Try.pinned (OpenSpec.upto stackWavesSpec)

/-- 'polestarlaw04.RoundFracs', WHERE WHAT IT READS IS OF BULK AT MOST 1048576: true; the input reads as it did. -/
def roundFracsUptoRow : OpenClaim := { program := "ytgafjnfplgfajaa", sum := "e91f3c65ca338eaded8d5fb932b57f0e78fc7f8aa98f5b3c6a9517ee33e6fcfb", func := "polestar/polestarlaw04.RoundFracs", spec := "roundFracs", inPlace := ["math.Float64bits", "math.Float64frombits"], named := ["math/bits.overflowError"], apart := false, narrowed := true }
def RoundFracsUptoSaid : Prop := roundFracsUptoRow.holds Try.pinned (OpenSpec.upto roundFracsSpec)

/-- 'polestarlaw21.FftBounds', WHERE WHAT IT READS IS OF BULK AT MOST 1048576: true; the input reads as it did. -/
def fftBoundsUptoRow : OpenClaim := { program := "ytgafjnfplgfajaa", sum := "e91f3c65ca338eaded8d5fb932b57f0e78fc7f8aa98f5b3c6a9517ee33e6fcfb", func := "polestar/polestarlaw21.FftBounds", spec := "fftBounds", inPlace := ["math.Float64bits", "math.Float64frombits", "math.sqrt"], unfollowed := true, recurses := true, apart := false, narrowed := true }
def FftBoundsUptoSaid : Prop := fftBoundsUptoRow.holds Try.pinned (OpenSpec.upto fftBoundsSpec)

end Rows
end Go.Proofs.Ytgafjnfplgfajaa
