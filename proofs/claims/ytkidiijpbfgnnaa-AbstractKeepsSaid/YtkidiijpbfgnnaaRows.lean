/-
  No cell of these rows narrows 'for every input' (looked for: loops, veiled, ifaces, maps, wideKeys, modest, calm, conditions, laid).
  DERIVED. THE GIVEN ROWS OF THIS SEAT. 2 by the template 'for every input the law returns true; each argument reads behind the call as it read before'; 0 by the template 'total and deterministic' (their statements: YtkidiijpbfgnnaaTotals.lean).
  GIVEN WITH THE SEED: the statements are not yours to turn. If you find one false, say at which input.
  Laid BY PROGRAM, IN A SANDBOX (cutbox-rows.mjs): the forced cells as the released guide's own fill.sh prints them over the translation 4f4dfb1423bfaf5d… (all of the seat's roots in one cut). By AI agents, Wed Nov 11 2026. No macro, syntax, notation, axiom, sorry.
-/
import Derived.Test.YtkidiijpbfgnnaaChecked
import GoSem.Claim
import GoSem.ClaimJoined
import GoSem.ClaimMapViews
import Derived.JoinedTies
import Derived.KernelRfl
namespace Go.Proofs.Ytkidiijpbfgnnaa
/- THE CELL 'sum', in the pinned program and in every row, IS THE sha256 OF THE DUMP (.gsa) THAT YtkidiijpbfgnnaaProg.lean LOADS. Nothing in Lean hashes anything: it is a label: what it is worth is what the hold of that sum in a sandbox is worth. -/
noncomputable def Try.pinned : Pinned := { name := "ytkidiijpbfgnnaa", sum := "4f4dfb1423bfaf5d4654c771c93754ad32e4cc8e3edd9a9ea8b7a6012ba30195", checked := Try.checked }
namespace Rows
def none {H : Type} : Left H := { results := [], args := [] }

/-- 'postilionlaw32.AbstractBoots': WHATEVER THE INPUT: true; the input reads as it did. -/
def abstractBootsSpec : ChangeSpec := { name := "abstractBoots", fn := fun _ => fun
  | [d] => { results := [.lit (.bool true)], args := [d] }
  | _ => none }
def abstractBootsRow : OpenClaim := { program := "ytkidiijpbfgnnaa", sum := "4f4dfb1423bfaf5d4654c771c93754ad32e4cc8e3edd9a9ea8b7a6012ba30195", func := "postilion/postilionlaw32.AbstractBoots", spec := "abstractBoots", unfollowed := true, recurses := true, apart := false }
def AbstractBootsSaid : Prop := abstractBootsRow.holds Try.pinned (OpenSpec.ofChange abstractBootsSpec)

/-- ITS FALSE NEIGHBOUR: 'it returns false'. Refute it at one input. -/
def abstractBootsWrong : ChangeSpec := { name := "abstractBoots", fn := fun _ => fun
  | [d] => { results := [.lit (.bool false)], args := [d] }
  | _ => none }
def AbstractBootsWrongFalsely : Prop := abstractBootsRow.holds Try.pinned (OpenSpec.ofChange abstractBootsWrong)

/-- 'postilionlaw32.AbstractKeeps': WHATEVER THE INPUT: true; the input reads as it did. -/
def abstractKeepsSpec : ChangeSpec := { name := "abstractKeeps", fn := fun _ => fun
  | [d1, d2] => { results := [.lit (.bool true)], args := [d1, d2] }
  | _ => none }
def abstractKeepsRow : OpenClaim := { program := "ytkidiijpbfgnnaa", sum := "4f4dfb1423bfaf5d4654c771c93754ad32e4cc8e3edd9a9ea8b7a6012ba30195", func := "postilion/postilionlaw32.AbstractKeeps", spec := "abstractKeeps", unfollowed := true, recurses := true, apart := false }
def AbstractKeepsSaid : Prop := abstractKeepsRow.holds Try.pinned (OpenSpec.ofChange abstractKeepsSpec)

/-- ITS FALSE NEIGHBOUR: 'it returns false'. Refute it at one input. -/
def abstractKeepsWrong : ChangeSpec := { name := "abstractKeeps", fn := fun _ => fun
  | [d1, d2] => { results := [.lit (.bool false)], args := [d1, d2] }
  | _ => none }
def AbstractKeepsWrongFalsely : Prop := abstractKeepsRow.holds Try.pinned (OpenSpec.ofChange abstractKeepsWrong)

/- THE SECOND FORM. 'bulk': how many values and letters a reading holds, each counted each time it is reached (what is shared counts as often as it is met; a slice's spare places count too). A statement '..UptoSaid' is the law's where the arguments, and the package variables that the reading takes, are together of bulk at most 1048576: NARROWER than '..Said'. Prove '..Said' where nothing that the law and all that it calls make is longer than what came in: it says more and counts as full. Else prove '..UptoSaid'. A law counts once. -/
mutual
def uptoBulk {H : Type} : DataW H → Nat
  | .lit (.string bytes) => bytes.length + 1
  | .lit _ => 1
  | .nil => 1
  | .ptr d => uptoBulk d + 1
  | .slice elems spare => uptoBulkAll elems + uptoBulkAll spare + 1
  | .agg parts => uptoBulkAll parts + 1
  | .iface _ d => uptoBulk d + 1
  | .map entries => uptoBulkEntries entries + 1
  | .held _ => 1
def uptoBulkAll {H : Type} : List (DataW H) → Nat
  | [] => 0
  | d :: r => uptoBulk d + uptoBulkAll r
def uptoBulkEntries {H : Type} : List (Lit × DataW H) → Nat
  | [] => 0
  | x :: r => uptoBulkEntry x + uptoBulkEntries r
def uptoBulkEntry {H : Type} : Lit × DataW H → Nat
  | (.string bytes, d) => bytes.length + uptoBulk d + 1
  | (_, d) => uptoBulk d + 1
 end
def uptoSmall : (H : Type) → List (DataW H) → Bool := fun _ ds => decide (uptoBulkAll ds ≤ 1048576)
def OpenSpec.upto (s : _root_.Go.ChangeSpec) : _root_.Go.OpenSpec := { _root_.Go.OpenSpec.ofChange s with cond := some uptoSmall }

/-- 'postilionlaw32.AbstractBoots', WHERE WHAT IT READS IS OF BULK AT MOST 1048576: true; the input reads as it did. -/
def abstractBootsUptoRow : OpenClaim := { program := "ytkidiijpbfgnnaa", sum := "4f4dfb1423bfaf5d4654c771c93754ad32e4cc8e3edd9a9ea8b7a6012ba30195", func := "postilion/postilionlaw32.AbstractBoots", spec := "abstractBoots", unfollowed := true, recurses := true, apart := false, narrowed := true }
def AbstractBootsUptoSaid : Prop := abstractBootsUptoRow.holds Try.pinned (OpenSpec.upto abstractBootsSpec)

/-- 'postilionlaw32.AbstractKeeps', WHERE WHAT IT READS IS OF BULK AT MOST 1048576: true; the input reads as it did. -/
def abstractKeepsUptoRow : OpenClaim := { program := "ytkidiijpbfgnnaa", sum := "4f4dfb1423bfaf5d4654c771c93754ad32e4cc8e3edd9a9ea8b7a6012ba30195", func := "postilion/postilionlaw32.AbstractKeeps", spec := "abstractKeeps", unfollowed := true, recurses := true, apart := false, narrowed := true }
def AbstractKeepsUptoSaid : Prop := abstractKeepsUptoRow.holds Try.pinned (OpenSpec.upto abstractKeepsSpec)

end Rows
end Go.Proofs.Ytkidiijpbfgnnaa
