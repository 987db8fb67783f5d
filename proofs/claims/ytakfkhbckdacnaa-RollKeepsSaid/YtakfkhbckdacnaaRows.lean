/-
  No cell of these rows narrows 'for every input' (looked for: loops, veiled, ifaces, maps, wideKeys, modest, calm, conditions, laid).
  DERIVED. THE GIVEN ROWS OF THIS SEAT. 3 by the template 'for every input the law returns true; each argument reads behind the call as it read before'; 0 by the template 'total and deterministic' (their statements: YtakfkhbckdacnaaTotals.lean).
  GIVEN WITH THE SEED: the statements are not yours to turn. If you find one false, say at which input.
  Laid BY PROGRAM, IN A SANDBOX (cutbox-rows.mjs): the forced cells as the released guide's own fill.sh prints them over the translation db978f7195a2d67e… (all of the seat's roots in one cut). By AI agents, Wed Nov 11 2026. No macro, syntax, notation, axiom, sorry.
-/
import Derived.Test.YtakfkhbckdacnaaChecked
import GoSem.Claim
import GoSem.ClaimJoined
import GoSem.ClaimMapViews
import Derived.JoinedTies
import Derived.KernelRfl
namespace Go.Proofs.Ytakfkhbckdacnaa
/- THE CELL 'sum', in the pinned program and in every row, IS THE sha256 OF THE DUMP (.gsa) THAT YtakfkhbckdacnaaProg.lean LOADS. Nothing in Lean hashes anything: it is a label: what it is worth is what the hold of that sum in a sandbox is worth. -/
noncomputable def Try.pinned : Pinned := { name := "ytakfkhbckdacnaa", sum := "db978f7195a2d67ed16b9337cd3f2d86fb1d4e071fc64f080b5ca954a8406a08", checked := Try.checked }
namespace Rows
def none {H : Type} : Left H := { results := [], args := [] }

/-- 'postilionlaw31.RollIs': WHATEVER THE INPUT: true; the input reads as it did. -/
def rollIsSpec : ChangeSpec := { name := "rollIs", fn := fun _ => fun
  | [d1, d2] => { results := [.lit (.bool true)], args := [d1, d2] }
  | _ => none }
def rollIsRow : OpenClaim := { program := "ytakfkhbckdacnaa", sum := "db978f7195a2d67ed16b9337cd3f2d86fb1d4e071fc64f080b5ca954a8406a08", func := "postilion/postilionlaw31.RollIs", spec := "rollIs", unfollowed := true, recurses := true, apart := false }
def RollIsSaid : Prop := rollIsRow.holds Try.pinned (OpenSpec.ofChange rollIsSpec)

/-- ITS FALSE NEIGHBOUR: 'it returns false'. Refute it at one input. -/
def rollIsWrong : ChangeSpec := { name := "rollIs", fn := fun _ => fun
  | [d1, d2] => { results := [.lit (.bool false)], args := [d1, d2] }
  | _ => none }
def RollIsWrongFalsely : Prop := rollIsRow.holds Try.pinned (OpenSpec.ofChange rollIsWrong)

/-- 'postilionlaw31.RollKeeps': WHATEVER THE INPUT: true; the input reads as it did. -/
def rollKeepsSpec : ChangeSpec := { name := "rollKeeps", fn := fun _ => fun
  | [d1, d2] => { results := [.lit (.bool true)], args := [d1, d2] }
  | _ => none }
def rollKeepsRow : OpenClaim := { program := "ytakfkhbckdacnaa", sum := "db978f7195a2d67ed16b9337cd3f2d86fb1d4e071fc64f080b5ca954a8406a08", func := "postilion/postilionlaw31.RollKeeps", spec := "rollKeeps", unfollowed := true, recurses := true, apart := false }
def RollKeepsSaid : Prop := rollKeepsRow.holds Try.pinned (OpenSpec.ofChange rollKeepsSpec)

/-- ITS FALSE NEIGHBOUR: 'it returns false'. Refute it at one input. -/
def rollKeepsWrong : ChangeSpec := { name := "rollKeeps", fn := fun _ => fun
  | [d1, d2] => { results := [.lit (.bool false)], args := [d1, d2] }
  | _ => none }
def RollKeepsWrongFalsely : Prop := rollKeepsRow.holds Try.pinned (OpenSpec.ofChange rollKeepsWrong)

/-- 'postilionlaw31.RollEnds': WHATEVER THE INPUT: true; the input reads as it did. -/
def rollEndsSpec : ChangeSpec := { name := "rollEnds", fn := fun _ => fun
  | [d1, d2] => { results := [.lit (.bool true)], args := [d1, d2] }
  | _ => none }
def rollEndsRow : OpenClaim := { program := "ytakfkhbckdacnaa", sum := "db978f7195a2d67ed16b9337cd3f2d86fb1d4e071fc64f080b5ca954a8406a08", func := "postilion/postilionlaw31.RollEnds", spec := "rollEnds", unfollowed := true, recurses := true, apart := false }
def RollEndsSaid : Prop := rollEndsRow.holds Try.pinned (OpenSpec.ofChange rollEndsSpec)

/-- ITS FALSE NEIGHBOUR: 'it returns false'. Refute it at one input. -/
def rollEndsWrong : ChangeSpec := { name := "rollEnds", fn := fun _ => fun
  | [d1, d2] => { results := [.lit (.bool false)], args := [d1, d2] }
  | _ => none }
def RollEndsWrongFalsely : Prop := rollEndsRow.holds Try.pinned (OpenSpec.ofChange rollEndsWrong)

/- THE SECOND FORM. 'bulk': how many values and letters a reading holds, each counted each time it is reached (what is shared counts as often as it is met; a slice's spare places count too). A statement '..UptoSaid' is the law's where the arguments, and the package variables that the reading takes, are together of bulk at most 1048576: NARROWER than '..Said'. Prove '..Said' where nothing that the law and all that it calls make is longer than what came in: it says more and counts as full. Else prove '..UptoSaid'. A law counts once. -/
mutual
def uptoBulk {H : Type} : DataW H → Nat
  | .lit (.string bytes) => bytes.length + 1
  | .lit _ => 1
  | .nil => 1
  | .ptr d => uptoBulk d + 1
  | .slice elems spare => uptoBulkAll elems + uptoBulkAll spare + 1
  | .agg parts => uptoBulkAll parts + 1
  | .iface _ d => uptoBulk d + 1
  | .map entries => uptoBulkEntries entries + 1
  | .held _ => 1
def uptoBulkAll {H : Type} : List (DataW H) → Nat
  | [] => 0
  | d :: r => uptoBulk d + uptoBulkAll r
def uptoBulkEntries {H : Type} : List (Lit × DataW H) → Nat
  | [] => 0
  | x :: r => uptoBulkEntry x + uptoBulkEntries r
def uptoBulkEntry {H : Type} : Lit × DataW H → Nat
  | (.string bytes, d) => bytes.length + uptoBulk d + 1
  | (_, d) => uptoBulk d + 1
 end
def uptoSmall : (H : Type) → List (DataW H) → Bool := fun _ ds => decide (uptoBulkAll ds ≤ 1048576)
def OpenSpec.upto (s : _root_.Go.ChangeSpec) : _root_.Go.OpenSpec := { _root_.Go.OpenSpec.ofChange s with cond := some uptoSmall }

/-- 'postilionlaw31.RollIs', WHERE WHAT IT READS IS OF BULK AT MOST 1048576: true; the input reads as it did. -/
def rollIsUptoRow : OpenClaim := { program := "ytakfkhbckdacnaa", sum := "db978f7195a2d67ed16b9337cd3f2d86fb1d4e071fc64f080b5ca954a8406a08", func := "postilion/postilionlaw31.RollIs", spec := "rollIs", unfollowed := true, recurses := true, apart := false, narrowed := true }
def RollIsUptoSaid : Prop := rollIsUptoRow.holds Try.pinned (OpenSpec.upto rollIsSpec)

/-- 'postilionlaw31.RollKeeps', WHERE WHAT IT READS IS OF BULK AT MOST 1048576: true; the input reads as it did. -/
def rollKeepsUptoRow : OpenClaim := { program := "ytakfkhbckdacnaa", sum := "db978f7195a2d67ed16b9337cd3f2d86fb1d4e071fc64f080b5ca954a8406a08", func := "postilion/postilionlaw31.RollKeeps", spec := "rollKeeps", unfollowed := true, recurses := true, apart := false, narrowed := true }
def RollKeepsUptoSaid : Prop := rollKeepsUptoRow.holds Try.pinned (OpenSpec.upto rollKeepsSpec)

/-- 'postilionlaw31.RollEnds', WHERE WHAT IT READS IS OF BULK AT MOST 1048576: true; the input reads as it did. -/
def rollEndsUptoRow : OpenClaim := { program := "ytakfkhbckdacnaa", sum := "db978f7195a2d67ed16b9337cd3f2d86fb1d4e071fc64f080b5ca954a8406a08", func := "postilion/postilionlaw31.RollEnds", spec := "rollEnds", unfollowed := true, recurses := true, apart := false, narrowed := true }
def RollEndsUptoSaid : Prop := rollEndsUptoRow.holds Try.pinned (OpenSpec.upto rollEndsSpec)

end Rows
end Go.Proofs.Ytakfkhbckdacnaa
