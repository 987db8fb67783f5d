/-
  Where any part is, and the parts of slots (postilionlaw25.LayoutIs): for every input the law returns true.
-/
import Derived.Test.YtaockbenmamgeaaEnts
set_option linter.unusedVariables false
set_option linter.unusedSimpArgs false
namespace Go.Proofs.Ytaockbenmamgeaa
open Sx
set_option maxRecDepth 100000
set_option maxHeartbeats 4000000
theorem is_tree (s : ByteArray) (k : Int) : (callX Try.prog lEnv 400 4 [str s, i k] [] fin).Holds fun r => r.1 = b true := by
  rcases Bool.eq_false_or_eq_true (decide ((↑(ByteArray.size s) : Int) > (100 : Int))) with g0 | g0
  · skip
    exact Tr.endH [.yes] (cs := [(_, true)]) (Prod.fst) (y := SV.v (Value.bool true)) (by kernel_rfl) ⟨g0, trivial⟩ (fun a ha => ha.trans (by first | rfl | (simp [b]; done)))
  · skip
    have g1 : (pAt s == pAt s && (pN s == pN s && true)) = true := by (simp_all; done)
    rcases Bool.eq_false_or_eq_true (k == (0 : Int)) with g2 | g2
    · skip
      refine Tr.needH [.no, .yes, .run 1, .yes, .run 2, .yes, .run 4, .yes, .run 2, .yes, .run 5] (cs := [(_, false), (_, true), (_, true), (_, true), (_, true), (_, true)]) (p := partsL = partsL) (by kernel_rfl) ⟨g0, g1, g2, g2, g2, g2, trivial⟩ (by first | rfl | decide | ((repeat' apply And.intro) <;> first | trivial | omega | (simp at *; omega) | (simp; done) | decide)) ?_
      have g3 : (pN s == pN s) = true := by (simp_all; done)
      exact Tr.endH [.run 5, .yes, .run 1] (cs := [(_, true)]) (Prod.fst) (y := SV.v (Value.bool true)) (by kernel_rfl) ⟨g3, trivial⟩ (fun a ha => ha.trans (by first | rfl | (simp [b]; done)))
    · skip
      rcases Bool.eq_false_or_eq_true (k == (1 : Int)) with g4 | g4
      · skip
        refine Tr.needH [.no, .yes, .run 1, .no, .yes, .run 2, .no, .yes, .run 4, .no, .run 2, .no, .run 5] (cs := [(_, false), (_, true), (_, false), (_, true), (_, false), (_, true), (_, false), (_, false)]) (p := partsL = partsL) (by kernel_rfl) ⟨g0, g1, g2, g4, g2, g4, g2, g2, trivial⟩ (by first | rfl | decide | ((repeat' apply And.intro) <;> first | trivial | omega | (simp at *; omega) | (simp; done) | decide)) ?_
        have g5 : (pN s == pN s) = true := by (simp_all; done)
        exact Tr.endH [.run 5, .yes, .run 1] (cs := [(_, true)]) (Prod.fst) (y := SV.v (Value.bool true)) (by kernel_rfl) ⟨g5, trivial⟩ (fun a ha => ha.trans (by first | rfl | (simp [b]; done)))
      · skip
        refine Tr.needH [.no, .yes, .run 1, .no, .no, .run 2, .no, .no, .run 4, .no, .run 2, .no, .run 5] (cs := [(_, false), (_, true), (_, false), (_, false), (_, false), (_, false), (_, false), (_, false)]) (p := partsL = partsL) (by kernel_rfl) ⟨g0, g1, g2, g4, g2, g4, g2, g2, trivial⟩ (by first | rfl | decide | ((repeat' apply And.intro) <;> first | trivial | omega | (simp at *; omega) | (simp; done) | decide)) ?_
        have g6 : (pN s == pN s) = true := by (simp_all; done)
        exact Tr.endH [.run 5, .yes, .run 1] (cs := [(_, true)]) (Prod.fst) (y := SV.v (Value.bool true)) (by kernel_rfl) ⟨g6, trivial⟩ (fun a ha => ha.trans (by first | rfl | (simp [b]; done)))
theorem layoutIs_walk (W : World) (s : ByteArray) (hs : s.size ≤ maxLen) (k : Int) (hk : (Lit.int .i64 k).wf = true) : Calls Try.prog 4 #[.string s, .int .i64 k] W fun e w' => e = .returned (.bool true) ∧ RowKit.Below W.heap.size W w' :=
  law_calls hng hmix (Γ := lEnv) (EnvOK.of lEntries_ok) 400 4 (fn := Try.f4) (by kernel_rfl) (by kernel_rfl) (lookE_none (by simp [lEntries, eAwake, eSpan, eRSpan, eSize, eTable, pureE, frameE, toldE])) (args := [str s, i k]) (mem := []) (ρ := fun _ => none) (MemOK.none rfl) (.cons (by simp [Rel, str]) (.cons (by simp [Rel, i]) .nil)) (is_tree s k)
end Go.Proofs.Ytaockbenmamgeaa
