/-
  No cell of these rows narrows 'for every input' (looked for: loops, veiled, ifaces, maps, wideKeys, modest, calm, conditions, laid).
  DERIVED. THE GIVEN ROWS OF THIS SEAT. 2 by the template 'for every input the law returns true; each argument reads behind the call as it read before'; 0 by the template 'total and deterministic' (their statements: YtaneenahapdabaaTotals.lean).
  GIVEN WITH THE SEED: the statements are not yours to turn. If you find one false, say at which input.
  Laid BY PROGRAM, IN A SANDBOX (cutbox-rows.mjs): the forced cells as the released guide's own fill.sh prints them over the translation 0a088c5c2590a0ea… (all of the seat's roots in one cut). By AI agents, Wed Nov 11 2026. No macro, syntax, notation, axiom, sorry.
-/
import Derived.Test.YtaneenahapdabaaChecked
import GoSem.Claim
import GoSem.ClaimJoined
import GoSem.ClaimMapViews
import Derived.JoinedTies
import Derived.KernelRfl
namespace Go.Proofs.Ytaneenahapdabaa
/- THE CELL 'sum', in the pinned program and in every row, IS THE sha256 OF THE DUMP (.gsa) THAT YtaneenahapdabaaProg.lean LOADS. Nothing in Lean hashes anything: it is a label: what it is worth is what the hold of that sum in a sandbox is worth. -/
noncomputable def Try.pinned : Pinned := { name := "ytaneenahapdabaa", sum := "0a088c5c2590a0eabe20bb0c2a0af80990260fae123e9cad6c6d339aab57a76c", checked := Try.checked }
namespace Rows
def none {H : Type} : Left H := { results := [], args := [] }

/-- 'locksteplaw20.DedupBack': WHATEVER THE INPUT: true; the input reads as it did. -/
def dedupBackSpec : ChangeSpec := { name := "dedupBack", fn := fun _ => fun
  | [d1, d2, d3, d4, d5] => { results := [.lit (.bool true)], args := [d1, d2, d3, d4, d5] }
  | _ => none }
def dedupBackRow : OpenClaim := { program := "ytaneenahapdabaa", sum := "0a088c5c2590a0eabe20bb0c2a0af80990260fae123e9cad6c6d339aab57a76c", func := "lockstep/locksteplaw20.DedupBack", spec := "dedupBack", inPlace := ["slices.overlaps[uint64]"], unfollowed := true, recurses := true, apart := false }
def DedupBackSaid : Prop := dedupBackRow.holds Try.pinned (OpenSpec.ofChange dedupBackSpec)

/-- ITS FALSE NEIGHBOUR: 'it returns false'. Refute it at one input. -/
def dedupBackWrong : ChangeSpec := { name := "dedupBack", fn := fun _ => fun
  | [d1, d2, d3, d4, d5] => { results := [.lit (.bool false)], args := [d1, d2, d3, d4, d5] }
  | _ => none }
def DedupBackWrongFalsely : Prop := dedupBackRow.holds Try.pinned (OpenSpec.ofChange dedupBackWrong)

/-- 'locksteplaw20.DedupAll': WHATEVER THE INPUT: true; the input reads as it did. -/
def dedupAllSpec : ChangeSpec := { name := "dedupAll", fn := fun _ => fun
  | [d1, d2] => { results := [.lit (.bool true)], args := [d1, d2] }
  | _ => none }
def dedupAllRow : OpenClaim := { program := "ytaneenahapdabaa", sum := "0a088c5c2590a0eabe20bb0c2a0af80990260fae123e9cad6c6d339aab57a76c", func := "lockstep/locksteplaw20.DedupAll", spec := "dedupAll", inPlace := ["slices.overlaps[uint64]", "maps.clone"], unfollowed := true, recurses := true, apart := false }
def DedupAllSaid : Prop := dedupAllRow.holds Try.pinned (OpenSpec.ofChange dedupAllSpec)

/-- ITS FALSE NEIGHBOUR: 'it returns false'. Refute it at one input. -/
def dedupAllWrong : ChangeSpec := { name := "dedupAll", fn := fun _ => fun
  | [d1, d2] => { results := [.lit (.bool false)], args := [d1, d2] }
  | _ => none }
def DedupAllWrongFalsely : Prop := dedupAllRow.holds Try.pinned (OpenSpec.ofChange dedupAllWrong)

/- THE SECOND FORM. 'bulk': how many values and letters a reading holds, each counted each time it is reached (what is shared counts as often as it is met; a slice's spare places count too). A statement '..UptoSaid' is the law's where the arguments, and the package variables that the reading takes, are together of bulk at most 1048576: NARROWER than '..Said'. Prove '..Said' where nothing that the law and all that it calls make is longer than what came in: it says more and counts as full. Else prove '..UptoSaid'. A law counts once. -/
mutual
def uptoBulk {H : Type} : DataW H → Nat
  | .lit (.string bytes) => bytes.length + 1
  | .lit _ => 1
  | .nil => 1
  | .ptr d => uptoBulk d + 1
  | .slice elems spare => uptoBulkAll elems + uptoBulkAll spare + 1
  | .agg parts => uptoBulkAll parts + 1
  | .iface _ d => uptoBulk d + 1
  | .map entries => uptoBulkEntries entries + 1
  | .held _ => 1
def uptoBulkAll {H : Type} : List (DataW H) → Nat
  | [] => 0
  | d :: r => uptoBulk d + uptoBulkAll r
def uptoBulkEntries {H : Type} : List (Lit × DataW H) → Nat
  | [] => 0
  | x :: r => uptoBulkEntry x + uptoBulkEntries r
def uptoBulkEntry {H : Type} : Lit × DataW H → Nat
  | (.string bytes, d) => bytes.length + uptoBulk d + 1
  | (_, d) => uptoBulk d + 1
 end
def uptoSmall : (H : Type) → List (DataW H) → Bool := fun _ ds => decide (uptoBulkAll ds ≤ 1048576)
def OpenSpec.upto (s : _root_.Go.ChangeSpec) : _root_.Go.OpenSpec := { _root_.Go.OpenSpec.ofChange s with cond := some uptoSmall }

/-- 'locksteplaw20.DedupBack', WHERE WHAT IT READS IS OF BULK AT MOST 1048576: true; the input reads as it did. -/
def dedupBackUptoRow : OpenClaim := { program := "ytaneenahapdabaa", sum := "0a088c5c2590a0eabe20bb0c2a0af80990260fae123e9cad6c6d339aab57a76c", func := "lockstep/locksteplaw20.DedupBack", spec := "dedupBack", inPlace := ["slices.overlaps[uint64]"], unfollowed := true, recurses := true, apart := false, narrowed := true }
def DedupBackUptoSaid : Prop := dedupBackUptoRow.holds Try.pinned (OpenSpec.upto dedupBackSpec)

/-- 'locksteplaw20.DedupAll', WHERE WHAT IT READS IS OF BULK AT MOST 1048576: true; the input reads as it did. -/
def dedupAllUptoRow : OpenClaim := { program := "ytaneenahapdabaa", sum := "0a088c5c2590a0eabe20bb0c2a0af80990260fae123e9cad6c6d339aab57a76c", func := "lockstep/locksteplaw20.DedupAll", spec := "dedupAll", inPlace := ["slices.overlaps[uint64]", "maps.clone"], unfollowed := true, recurses := true, apart := false, narrowed := true }
def DedupAllUptoSaid : Prop := dedupAllUptoRow.holds Try.pinned (OpenSpec.upto dedupAllSpec)

end Rows
end Go.Proofs.Ytaneenahapdabaa
