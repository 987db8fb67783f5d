/-
  A tree that fits is that of its tokens; and tokens of a tree are those, but for TokNop: for every input.
-/
import Derived.Test.YtdimocgjcneedaaLNd
import Derived.Test.YtdimocgjcneedaaLBk
set_option linter.unusedVariables false
set_option linter.unusedSimpArgs false
namespace Go.Proofs.Ytdimocgjcneedaa
open Sx
set_option maxRecDepth 100000
set_option maxHeartbeats 4000000
theorem bk_tree (n : PNode) (v : Value) (l : List (RowT tokK)) : (callX Try.prog (Env.of bkEntries (fun f _ => f == 4) noWr) 400 4 [nodeSV n, .sv (.sl tokK) (v, l)] [] fin).Holds fun r => r.1 = b true := by
  by_cases hz : ofE (toksF 8 n) = 0
  · exact bk_tree0 n v l hz
  · exact bk_tree1 n v l hz
theorem treeBack_walk (W : World) (v0 : Value) (w0 : NodeIn W v0) (sl : Option Addr) (ln cp : Nat) (w1 : Sx.RowsIn tokK W sl ln cp) : Calls Try.prog 4 #[v0, .slice sl ln cp] W fun e w' => e = .returned (.bool true) ∧ RowKit.Below W.heap.size W w' := by
  obtain ⟨n, hn⟩ := w0
  obtain ⟨l, hl⟩ := rowsIn_sv w1 tok_good
  exact law_calls hng hmix (Γ := Env.of bkEntries (fun f _ => f == 4) noWr) (EnvOK.of bkEntries_ok) 400 4 Try.func4 (by kernel_rfl) (fun args mem => lookE_none (by simp [bkEntries, eLowN, eFew, awakeE, hToks, hideE, eOf, eFits, eSame20, eSameK, restA, eSK0, pureS, pureE]) args mem) (args := [nodeSV n, .sv (.sl tokK) (.slice sl ln cp, l)]) (mem := []) (B := World.stay W) (MemOK.none (fun _ _ h => h) rfl) (.cons hn (.cons hl .nil)) (bk_tree n (.slice sl ln cp) l)
end Go.Proofs.Ytdimocgjcneedaa
