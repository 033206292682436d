/-
  No cell of these rows narrows 'for every input' (looked for: loops, veiled, ifaces, maps, wideKeys, modest, calm, conditions, laid).
  DERIVED. THE GIVEN ROWS OF THIS SEAT. 3 by the template 'for every input the law returns true; each argument reads behind the call as it read before'; 0 by the template 'total and deterministic' (their statements: YtpgkbipnkkeicaaTotals.lean).
  GIVEN WITH THE SEED: the statements are not yours to turn. If you find one false, say at which input.
  Laid BY PROGRAM, IN A SANDBOX (cutbox-rows.mjs): the forced cells as the released guide's own fill.sh prints them over the translation 4dd0a4054caa4fce… (all of the seat's roots in one cut). By AI agents, Wed Nov 11 2026. No macro, syntax, notation, axiom, sorry.
-/
import Derived.Test.YtpgkbipnkkeicaaChecked
import GoSem.Claim
import GoSem.ClaimJoined
import GoSem.ClaimMapViews
import Derived.JoinedTies
import Derived.KernelRfl
namespace Go.Proofs.Ytpgkbipnkkeicaa
/- THE CELL 'sum', in the pinned program and in every row, IS THE sha256 OF THE DUMP (.gsa) THAT YtpgkbipnkkeicaaProg.lean LOADS. Nothing in Lean hashes anything: it is a label: what it is worth is what the hold of that sum in a sandbox is worth. -/
noncomputable def Try.pinned : Pinned := { name := "ytpgkbipnkkeicaa", sum := "4dd0a4054caa4fce4cf1a5b0285db592a7e2a956e80611b6dc34a92eb829289b", checked := Try.checked }
namespace Rows
def none {H : Type} : Left H := { results := [], args := [] }

/-- 'sortilegetop.TopWidths': WHATEVER THE INPUT: true; the input reads as it did. -/
def topWidthsSpec : ChangeSpec := { name := "topWidths", fn := fun _ => fun
  | [d] => { results := [.lit (.bool true)], args := [d] }
  | _ => none }
def topWidthsRow : OpenClaim := { program := "ytpgkbipnkkeicaa", sum := "4dd0a4054caa4fce4cf1a5b0285db592a7e2a956e80611b6dc34a92eb829289b", func := "sortilege/sortilegetop.TopWidths", spec := "topWidths", inPlace := ["slices.overlaps[int]"], unfollowed := true, recurses := true, apart := false }
def TopWidthsSaid : Prop := topWidthsRow.holds Try.pinned (OpenSpec.ofChange topWidthsSpec)

/-- ITS FALSE NEIGHBOUR: 'it returns false'. Refute it at one input. -/
def topWidthsWrong : ChangeSpec := { name := "topWidths", fn := fun _ => fun
  | [d] => { results := [.lit (.bool false)], args := [d] }
  | _ => none }
def TopWidthsWrongFalsely : Prop := topWidthsRow.holds Try.pinned (OpenSpec.ofChange topWidthsWrong)

/-- 'sortilegetop.TopExact': WHATEVER THE INPUT: true; the input reads as it did. -/
def topExactSpec : ChangeSpec := { name := "topExact", fn := fun _ => fun
  | [d] => { results := [.lit (.bool true)], args := [d] }
  | _ => none }
def topExactRow : OpenClaim := { program := "ytpgkbipnkkeicaa", sum := "4dd0a4054caa4fce4cf1a5b0285db592a7e2a956e80611b6dc34a92eb829289b", func := "sortilege/sortilegetop.TopExact", spec := "topExact", inPlace := ["slices.overlaps[int]"], unfollowed := true, recurses := true, apart := false }
def TopExactSaid : Prop := topExactRow.holds Try.pinned (OpenSpec.ofChange topExactSpec)

/-- ITS FALSE NEIGHBOUR: 'it returns false'. Refute it at one input. -/
def topExactWrong : ChangeSpec := { name := "topExact", fn := fun _ => fun
  | [d] => { results := [.lit (.bool false)], args := [d] }
  | _ => none }
def TopExactWrongFalsely : Prop := topExactRow.holds Try.pinned (OpenSpec.ofChange topExactWrong)

/-- 'sortilegetop.TopRuined': WHATEVER THE INPUT: true; the input reads as it did. -/
def topRuinedSpec : ChangeSpec := { name := "topRuined", fn := fun _ => fun
  | [d] => { results := [.lit (.bool true)], args := [d] }
  | _ => none }
def topRuinedRow : OpenClaim := { program := "ytpgkbipnkkeicaa", sum := "4dd0a4054caa4fce4cf1a5b0285db592a7e2a956e80611b6dc34a92eb829289b", func := "sortilege/sortilegetop.TopRuined", spec := "topRuined", unfollowed := true, recurses := true, apart := false }
def TopRuinedSaid : Prop := topRuinedRow.holds Try.pinned (OpenSpec.ofChange topRuinedSpec)

/-- ITS FALSE NEIGHBOUR: 'it returns false'. Refute it at one input. -/
def topRuinedWrong : ChangeSpec := { name := "topRuined", fn := fun _ => fun
  | [d] => { results := [.lit (.bool false)], args := [d] }
  | _ => none }
def TopRuinedWrongFalsely : Prop := topRuinedRow.holds Try.pinned (OpenSpec.ofChange topRuinedWrong)

/- THE SECOND FORM. 'bulk': how many values and letters a reading holds, each counted each time it is reached (what is shared counts as often as it is met; a slice's spare places count too). A statement '..UptoSaid' is the law's where the arguments, and the package variables that the reading takes, are together of bulk at most 1048576: NARROWER than '..Said'. Prove '..Said' where nothing that the law and all that it calls make is longer than what came in: it says more and counts as full. Else prove '..UptoSaid'. A law counts once. -/
mutual
def uptoBulk {H : Type} : DataW H → Nat
  | .lit (.string bytes) => bytes.length + 1
  | .lit _ => 1
  | .nil => 1
  | .ptr d => uptoBulk d + 1
  | .slice elems spare => uptoBulkAll elems + uptoBulkAll spare + 1
  | .agg parts => uptoBulkAll parts + 1
  | .iface _ d => uptoBulk d + 1
  | .map entries => uptoBulkEntries entries + 1
  | .held _ => 1
def uptoBulkAll {H : Type} : List (DataW H) → Nat
  | [] => 0
  | d :: r => uptoBulk d + uptoBulkAll r
def uptoBulkEntries {H : Type} : List (Lit × DataW H) → Nat
  | [] => 0
  | x :: r => uptoBulkEntry x + uptoBulkEntries r
def uptoBulkEntry {H : Type} : Lit × DataW H → Nat
  | (.string bytes, d) => bytes.length + uptoBulk d + 1
  | (_, d) => uptoBulk d + 1
 end
def uptoSmall : (H : Type) → List (DataW H) → Bool := fun _ ds => decide (uptoBulkAll ds ≤ 1048576)
def OpenSpec.upto (s : _root_.Go.ChangeSpec) : _root_.Go.OpenSpec := { _root_.Go.OpenSpec.ofChange s with cond := some uptoSmall }

/-- 'sortilegetop.TopWidths', WHERE WHAT IT READS IS OF BULK AT MOST 1048576: true; the input reads as it did. -/
def topWidthsUptoRow : OpenClaim := { program := "ytpgkbipnkkeicaa", sum := "4dd0a4054caa4fce4cf1a5b0285db592a7e2a956e80611b6dc34a92eb829289b", func := "sortilege/sortilegetop.TopWidths", spec := "topWidths", inPlace := ["slices.overlaps[int]"], unfollowed := true, recurses := true, apart := false, narrowed := true }
def TopWidthsUptoSaid : Prop := topWidthsUptoRow.holds Try.pinned (OpenSpec.upto topWidthsSpec)

/-- 'sortilegetop.TopExact', WHERE WHAT IT READS IS OF BULK AT MOST 1048576: true; the input reads as it did. -/
def topExactUptoRow : OpenClaim := { program := "ytpgkbipnkkeicaa", sum := "4dd0a4054caa4fce4cf1a5b0285db592a7e2a956e80611b6dc34a92eb829289b", func := "sortilege/sortilegetop.TopExact", spec := "topExact", inPlace := ["slices.overlaps[int]"], unfollowed := true, recurses := true, apart := false, narrowed := true }
def TopExactUptoSaid : Prop := topExactUptoRow.holds Try.pinned (OpenSpec.upto topExactSpec)

/-- 'sortilegetop.TopRuined', WHERE WHAT IT READS IS OF BULK AT MOST 1048576: true; the input reads as it did. -/
def topRuinedUptoRow : OpenClaim := { program := "ytpgkbipnkkeicaa", sum := "4dd0a4054caa4fce4cf1a5b0285db592a7e2a956e80611b6dc34a92eb829289b", func := "sortilege/sortilegetop.TopRuined", spec := "topRuined", unfollowed := true, recurses := true, apart := false, narrowed := true }
def TopRuinedUptoSaid : Prop := topRuinedUptoRow.holds Try.pinned (OpenSpec.upto topRuinedSpec)

end Rows
end Go.Proofs.Ytpgkbipnkkeicaa
