/-
  The tokens, the counts, and the nodes of any tree, whether it fits, and whether it is another one: for every input.
-/
import Derived.Test.YtdimocgjcneedaaLIs
set_option linter.unusedVariables false
set_option linter.unusedSimpArgs false
namespace Go.Proofs.Ytdimocgjcneedaa
open Sx
set_option maxRecDepth 100000
set_option maxHeartbeats 4000000
theorem treeIs_walk (W : World) (v0 : Value) (w0 : NodeIn W v0) (v1 : Value) (w1 : NodeIn W v1) : Calls Try.prog 5 #[v0, v1] W fun e w' => e = .returned (.bool true) ∧ RowKit.Below W.heap.size W w' := by
  obtain ⟨n, hn⟩ := w0
  obtain ⟨m, hm⟩ := w1
  exact law_calls hng hmix (Γ := Env.of isEntries (fun f _ => f == 5) noWr) (EnvOK.of isEntries_ok) 400 5 Try.func5 (by kernel_rfl) (fun args mem => lookE_none (by simp [isEntries, eLowN, awakeE, hCount, hToks, hRToks, eSameK, restA, eSK0, hRCount, eFits, eRFits, eSt, eSame20, hCopy, hWalk, hRWalk, hideE, pureS, pureE]) args mem) (args := [nodeSV n, nodeSV m]) (mem := []) (B := World.stay W) (MemOK.none (fun _ _ h => h) rfl) (.cons hn (.cons hm .nil)) (is_tree n m)
end Go.Proofs.Ytdimocgjcneedaa
