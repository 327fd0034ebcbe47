/-
  No cell of these rows narrows 'for every input' (looked for: loops, veiled, ifaces, maps, wideKeys, modest, calm, conditions, laid).
  DERIVED. THE GIVEN ROWS OF THIS SEAT. 4 by the template 'for every input the law returns true; each argument reads behind the call as it read before'; 0 by the template 'total and deterministic' (their statements: YthidohdnaeboaaaTotals.lean).
  GIVEN WITH THE SEED: the statements are not yours to turn. If you find one false, say at which input.
  Laid BY PROGRAM, IN A SANDBOX (cutbox-rows.mjs): the forced cells as the released guide's own fill.sh prints them over the translation a785212f589b9755… (all of the seat's roots in one cut). By AI agents, Wed Nov 11 2026. No macro, syntax, notation, axiom, sorry.
-/
import Derived.Test.YthidohdnaeboaaaChecked
import GoSem.Claim
import GoSem.ClaimJoined
import GoSem.ClaimMapViews
import Derived.JoinedTies
import Derived.KernelRfl
namespace Go.Proofs.Ythidohdnaeboaaa
/- THE CELL 'sum', in the pinned program and in every row, IS THE sha256 OF THE DUMP (.gsa) THAT YthidohdnaeboaaaProg.lean LOADS. Nothing in Lean hashes anything: it is a label: what it is worth is what the hold of that sum in a sandbox is worth. -/
noncomputable def Try.pinned : Pinned := { name := "ythidohdnaeboaaa", sum := "a785212f589b9755e07a97930acccbd06889642c5b25e10fcc51f8ab698c0324", checked := Try.checked }
namespace Rows
def none {H : Type} : Left H := { results := [], args := [] }

/-- 'locksteplaw24.SequenceClocks': WHATEVER THE INPUT: true; the input reads as it did. -/
def sequenceClocksSpec : ChangeSpec := { name := "sequenceClocks", fn := fun _ => fun
  | [d1, d2] => { results := [.lit (.bool true)], args := [d1, d2] }
  | _ => none }
def sequenceClocksRow : OpenClaim := { program := "ythidohdnaeboaaa", sum := "a785212f589b9755e07a97930acccbd06889642c5b25e10fcc51f8ab698c0324", func := "lockstep/locksteplaw24.SequenceClocks", spec := "sequenceClocks", apart := false }
def SequenceClocksSaid : Prop := sequenceClocksRow.holds Try.pinned (OpenSpec.ofChange sequenceClocksSpec)

/-- ITS FALSE NEIGHBOUR: 'it returns false'. Refute it at one input. -/
def sequenceClocksWrong : ChangeSpec := { name := "sequenceClocks", fn := fun _ => fun
  | [d1, d2] => { results := [.lit (.bool false)], args := [d1, d2] }
  | _ => none }
def SequenceClocksWrongFalsely : Prop := sequenceClocksRow.holds Try.pinned (OpenSpec.ofChange sequenceClocksWrong)

/-- 'locksteplaw24.SequenceRises': WHATEVER THE INPUT: true; the input reads as it did. -/
def sequenceRisesSpec : ChangeSpec := { name := "sequenceRises", fn := fun _ => fun
  | [d1, d2] => { results := [.lit (.bool true)], args := [d1, d2] }
  | _ => none }
def sequenceRisesRow : OpenClaim := { program := "ythidohdnaeboaaa", sum := "a785212f589b9755e07a97930acccbd06889642c5b25e10fcc51f8ab698c0324", func := "lockstep/locksteplaw24.SequenceRises", spec := "sequenceRises", unfollowed := true, recurses := true, apart := false }
def SequenceRisesSaid : Prop := sequenceRisesRow.holds Try.pinned (OpenSpec.ofChange sequenceRisesSpec)

/-- ITS FALSE NEIGHBOUR: 'it returns false'. Refute it at one input. -/
def sequenceRisesWrong : ChangeSpec := { name := "sequenceRises", fn := fun _ => fun
  | [d1, d2] => { results := [.lit (.bool false)], args := [d1, d2] }
  | _ => none }
def SequenceRisesWrongFalsely : Prop := sequenceRisesRow.holds Try.pinned (OpenSpec.ofChange sequenceRisesWrong)

/-- 'locksteplaw24.SequenceOne': WHATEVER THE INPUT: true; the input reads as it did. -/
def sequenceOneSpec : ChangeSpec := { name := "sequenceOne", fn := fun _ => fun
  | [d1, d2, d3] => { results := [.lit (.bool true)], args := [d1, d2, d3] }
  | _ => none }
def sequenceOneRow : OpenClaim := { program := "ythidohdnaeboaaa", sum := "a785212f589b9755e07a97930acccbd06889642c5b25e10fcc51f8ab698c0324", func := "lockstep/locksteplaw24.SequenceOne", spec := "sequenceOne", unfollowed := true, recurses := true, apart := false }
def SequenceOneSaid : Prop := sequenceOneRow.holds Try.pinned (OpenSpec.ofChange sequenceOneSpec)

/-- ITS FALSE NEIGHBOUR: 'it returns false'. Refute it at one input. -/
def sequenceOneWrong : ChangeSpec := { name := "sequenceOne", fn := fun _ => fun
  | [d1, d2, d3] => { results := [.lit (.bool false)], args := [d1, d2, d3] }
  | _ => none }
def SequenceOneWrongFalsely : Prop := sequenceOneRow.holds Try.pinned (OpenSpec.ofChange sequenceOneWrong)

/-- 'locksteplaw24.SequenceAll': WHATEVER THE INPUT: true; the input reads as it did. -/
def sequenceAllSpec : ChangeSpec := { name := "sequenceAll", fn := fun _ => fun
  | [d1, d2] => { results := [.lit (.bool true)], args := [d1, d2] }
  | _ => none }
def sequenceAllRow : OpenClaim := { program := "ythidohdnaeboaaa", sum := "a785212f589b9755e07a97930acccbd06889642c5b25e10fcc51f8ab698c0324", func := "lockstep/locksteplaw24.SequenceAll", spec := "sequenceAll", unfollowed := true, recurses := true, apart := false }
def SequenceAllSaid : Prop := sequenceAllRow.holds Try.pinned (OpenSpec.ofChange sequenceAllSpec)

/-- ITS FALSE NEIGHBOUR: 'it returns false'. Refute it at one input. -/
def sequenceAllWrong : ChangeSpec := { name := "sequenceAll", fn := fun _ => fun
  | [d1, d2] => { results := [.lit (.bool false)], args := [d1, d2] }
  | _ => none }
def SequenceAllWrongFalsely : Prop := sequenceAllRow.holds Try.pinned (OpenSpec.ofChange sequenceAllWrong)

/- THE SECOND FORM. 'bulk': how many values and letters a reading holds, each counted each time it is reached (what is shared counts as often as it is met; a slice's spare places count too). A statement '..UptoSaid' is the law's where the arguments, and the package variables that the reading takes, are together of bulk at most 1048576: NARROWER than '..Said'. Prove '..Said' where nothing that the law and all that it calls make is longer than what came in: it says more and counts as full. Else prove '..UptoSaid'. A law counts once. -/
mutual
def uptoBulk {H : Type} : DataW H → Nat
  | .lit (.string bytes) => bytes.length + 1
  | .lit _ => 1
  | .nil => 1
  | .ptr d => uptoBulk d + 1
  | .slice elems spare => uptoBulkAll elems + uptoBulkAll spare + 1
  | .agg parts => uptoBulkAll parts + 1
  | .iface _ d => uptoBulk d + 1
  | .map entries => uptoBulkEntries entries + 1
  | .held _ => 1
def uptoBulkAll {H : Type} : List (DataW H) → Nat
  | [] => 0
  | d :: r => uptoBulk d + uptoBulkAll r
def uptoBulkEntries {H : Type} : List (Lit × DataW H) → Nat
  | [] => 0
  | x :: r => uptoBulkEntry x + uptoBulkEntries r
def uptoBulkEntry {H : Type} : Lit × DataW H → Nat
  | (.string bytes, d) => bytes.length + uptoBulk d + 1
  | (_, d) => uptoBulk d + 1
 end
def uptoSmall : (H : Type) → List (DataW H) → Bool := fun _ ds => decide (uptoBulkAll ds ≤ 1048576)
def OpenSpec.upto (s : _root_.Go.ChangeSpec) : _root_.Go.OpenSpec := { _root_.Go.OpenSpec.ofChange s with cond := some uptoSmall }

/-- 'locksteplaw24.SequenceClocks', WHERE WHAT IT READS IS OF BULK AT MOST 1048576: true; the input reads as it did. -/
def sequenceClocksUptoRow : OpenClaim := { program := "ythidohdnaeboaaa", sum := "a785212f589b9755e07a97930acccbd06889642c5b25e10fcc51f8ab698c0324", func := "lockstep/locksteplaw24.SequenceClocks", spec := "sequenceClocks", apart := false, narrowed := true }
def SequenceClocksUptoSaid : Prop := sequenceClocksUptoRow.holds Try.pinned (OpenSpec.upto sequenceClocksSpec)

/-- 'locksteplaw24.SequenceRises', WHERE WHAT IT READS IS OF BULK AT MOST 1048576: true; the input reads as it did. -/
def sequenceRisesUptoRow : OpenClaim := { program := "ythidohdnaeboaaa", sum := "a785212f589b9755e07a97930acccbd06889642c5b25e10fcc51f8ab698c0324", func := "lockstep/locksteplaw24.SequenceRises", spec := "sequenceRises", unfollowed := true, recurses := true, apart := false, narrowed := true }
def SequenceRisesUptoSaid : Prop := sequenceRisesUptoRow.holds Try.pinned (OpenSpec.upto sequenceRisesSpec)

/-- 'locksteplaw24.SequenceOne', WHERE WHAT IT READS IS OF BULK AT MOST 1048576: true; the input reads as it did. -/
def sequenceOneUptoRow : OpenClaim := { program := "ythidohdnaeboaaa", sum := "a785212f589b9755e07a97930acccbd06889642c5b25e10fcc51f8ab698c0324", func := "lockstep/locksteplaw24.SequenceOne", spec := "sequenceOne", unfollowed := true, recurses := true, apart := false, narrowed := true }
def SequenceOneUptoSaid : Prop := sequenceOneUptoRow.holds Try.pinned (OpenSpec.upto sequenceOneSpec)

/-- 'locksteplaw24.SequenceAll', WHERE WHAT IT READS IS OF BULK AT MOST 1048576: true; the input reads as it did. -/
def sequenceAllUptoRow : OpenClaim := { program := "ythidohdnaeboaaa", sum := "a785212f589b9755e07a97930acccbd06889642c5b25e10fcc51f8ab698c0324", func := "lockstep/locksteplaw24.SequenceAll", spec := "sequenceAll", unfollowed := true, recurses := true, apart := false, narrowed := true }
def SequenceAllUptoSaid : Prop := sequenceAllUptoRow.holds Try.pinned (OpenSpec.upto sequenceAllSpec)

end Rows
end Go.Proofs.Ythidohdnaeboaaa
