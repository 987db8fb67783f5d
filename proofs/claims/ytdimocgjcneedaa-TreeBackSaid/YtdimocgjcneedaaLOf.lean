/-
  The tree of any tokens, or why there is none: the law.
-/
import Derived.Test.YtdimocgjcneedaaAwk
set_option linter.unusedVariables false
set_option linter.unusedSimpArgs false
namespace Go.Proofs.Ytdimocgjcneedaa
open Sx
set_option maxRecDepth 100000
set_option maxHeartbeats 4000000
def awakeE : Entry := pureE 7 (fun args => match args with
  | [] => some (b true)
  | _ => none)
theorem awakeE_ok : EntryOK Try.prog awakeE := pureE_ok hng hmix (l := [eTokens, eOf, eCnt, eSt]) (cut := noCut) (wr := noWr) (by
  intro e he
  simp only [List.mem_cons, List.not_mem_nil, or_false] at he
  rcases he with rfl | rfl | rfl | rfl
  · exact tokens_ok
  · exact of_ok
  · exact cnt_ok
  · exact st_ok) 400 7 Try.func7 rfl (by
  intro e he
  simp only [List.mem_cons, List.not_mem_nil, or_false] at he
  rcases he with rfl | rfl | rfl | rfl <;> simp [eTokens, eOf, eCnt, eSt, restE, normE, frameE, toldE, pureS]) (by
  intro args s h
  split at h
  · cases h
    exact ⟨rfl, rfl, (aw_tree ()).out⟩
  · cases h)
theorem few_len {l : List (RowT tokK)} (h : fewF l = true) : l.length ≤ 60 := by
  simp only [fewF, Bool.and_eq_true, decide_eq_true_eq] at h
  omega
theorem sm2_mk {a c : PNode} (h : okT a) (h2 : okT c) : sm2Pre (a, c, 20) := ⟨⟨(by decide : (0 : Int) ≤ 20), (by decide : (20 : Int) ≤ 1000)⟩, h, h2⟩
theorem zero_ok (nm : ByteArray) (pv kv : Value) : okT (.mk nm pv [] kv []) := ⟨Nat.zero_le _, Nat.zero_le _, trivial⟩
def loEntries : List Entry := [eFew, awakeE, eOf, eROf, eSm]
theorem loEntries_ok : ∀ e ∈ loEntries, EntryOK Try.prog e := by
  intro e he
  simp only [loEntries, List.mem_cons, List.not_mem_nil, or_false] at he
  rcases he with rfl | rfl | rfl | rfl | rfl
  · exact few_ok
  · exact awakeE_ok
  · exact of_ok
  · exact rof_ok
  · exact sm_ok
theorem lo_tree (v : Value) (l : List (RowT tokK)) (f0 : fewF l = true → l.length ≤ 60) : (callX Try.prog (Env.of loEntries noCut noWr) 400 3 [.sv (.sl tokK) (v, l)] [] fin).Holds fun r => r.1 = b true := by
  refine Tr.needH [] (cs := []) (p := True) (by kernel_rfl) trivial (by first | exact trivial | (have := f0 (by simpa using g0); omega) | (simp only [PNode.ofRow, PNode.mk_eta]; exact sm2_mk hu0.2 hu1.2) | exact sm2_mk (zero_ok _ _ _) (zero_ok _ _ _) | done) ?_
  refine Or.elim (Bool.eq_false_or_eq_true (!fewF l)) (fun g0 => ?_) (fun g0 => ?_)
  · skip
    exact Tr.endH [.yes] (cs := [(_, true)]) (Prod.fst) (y := SV.v (Value.bool true)) (by kernel_rfl) ⟨g0, trivial⟩ (fun a ha => ha.trans (by first | rfl | exact congrArg (fun x => SV.v (.bool x)) (by (first | (simp only [PNode.ofRow, PNode.mk_eta]; exact sameF_of _ _ _ (hu0.1.trans hu1.1.symm)) | exact sameF_of _ _ _ (by rfl) | exact beq_self_eq_true _ | assumption | (exact decide_eq_true (by assumption)) | (exact decide_eq_false (by assumption)) | rfl | done))))
  · skip
    refine Tr.needH [.no] (cs := [(_, false)]) (p := List.length l ≤ (10000000 : Nat)) (by kernel_rfl) ⟨g0, trivial⟩ (by first | exact trivial | (have := f0 (by simpa using g0); omega) | (simp only [PNode.ofRow, PNode.mk_eta]; exact sm2_mk hu0.2 hu1.2) | exact sm2_mk (zero_ok _ _ _) (zero_ok _ _ _) | done) ?_
    refine Or.elim (Bool.eq_false_or_eq_true (decide (ofE l = (0 : Int)))) (fun g1 => ?_) (fun g1 => ?_)
    · skip
      refine Tr.allH [.yes] (cs := [(_, true)]) (X := PNode) (by kernel_rfl) (p := fun u0 => erase u0 = ofR l ∧ okT u0) (fun _ => by kernel_rfl) (by kernel_rfl) ⟨g1, trivial⟩ (fun u0 hu0 => ?_)
      refine Tr.needH [] (cs := []) (p := List.length l ≤ (10000000 : Nat)) (by kernel_rfl) trivial (by first | exact trivial | (have := f0 (by simpa using g0); omega) | (simp only [PNode.ofRow, PNode.mk_eta]; exact sm2_mk hu0.2 hu1.2) | exact sm2_mk (zero_ok _ _ _) (zero_ok _ _ _) | done) ?_
      refine Tr.allH [.yes] (cs := [(_, true)]) (X := PNode) (by kernel_rfl) (p := fun u1 => erase u1 = ofR l ∧ okT u1) (fun _ => by kernel_rfl) (by kernel_rfl) ⟨g1, trivial⟩ (fun u1 hu1 => ?_)
      refine Tr.needH [] (cs := []) (p := sm2Pre (PNode.ofRow (PNode.name u0, (PNode.pv u0, PNode.props u0), (PNode.kv u0, PNode.kids u0), ()), PNode.ofRow (PNode.name u1, (PNode.pv u1, PNode.props u1), (PNode.kv u1, PNode.kids u1), ()), (20 : Int))) (by kernel_rfl) trivial (by first | exact trivial | (have := f0 (by simpa using g0); omega) | (simp only [PNode.ofRow, PNode.mk_eta]; exact sm2_mk hu0.2 hu1.2) | exact sm2_mk (zero_ok _ _ _) (zero_ok _ _ _) | done) ?_
      have g2 : (sameF (Int.toNat (20 : Int)) (PNode.ofRow (PNode.name u0, (PNode.pv u0, PNode.props u0), (PNode.kv u0, PNode.kids u0), ())) (PNode.ofRow (PNode.name u1, (PNode.pv u1, PNode.props u1), (PNode.kv u1, PNode.kids u1), ()))) = true := by (first | (simp only [PNode.ofRow, PNode.mk_eta]; exact sameF_of _ _ _ (hu0.1.trans hu1.1.symm)) | exact sameF_of _ _ _ (by rfl) | exact beq_self_eq_true _ | assumption | (exact decide_eq_true (by assumption)) | (exact decide_eq_false (by assumption)) | rfl | done)
      exact Tr.endH [.yes, .run 5] (cs := [(_, true)]) (Prod.fst) (y := SV.v (Value.bool true)) (by kernel_rfl) ⟨g2, trivial⟩ (fun a ha => ha.trans (by first | rfl | exact congrArg (fun x => SV.v (.bool x)) (by (first | (simp only [PNode.ofRow, PNode.mk_eta]; exact sameF_of _ _ _ (hu0.1.trans hu1.1.symm)) | exact sameF_of _ _ _ (by rfl) | exact beq_self_eq_true _ | assumption | (exact decide_eq_true (by assumption)) | (exact decide_eq_false (by assumption)) | rfl | done))))
    · skip
      refine Tr.needH [.no] (cs := [(_, false)]) (p := List.length l ≤ (10000000 : Nat)) (by kernel_rfl) ⟨g1, trivial⟩ (by first | exact trivial | (have := f0 (by simpa using g0); omega) | (simp only [PNode.ofRow, PNode.mk_eta]; exact sm2_mk hu0.2 hu1.2) | exact sm2_mk (zero_ok _ _ _) (zero_ok _ _ _) | done) ?_
      refine Tr.needH [.no] (cs := [(_, false)]) (p := sm2Pre (PNode.ofRow (ByteArray.empty, (nilV, []), (nilV, []), ()), PNode.ofRow (ByteArray.empty, (nilV, []), (nilV, []), ()), (20 : Int))) (by kernel_rfl) ⟨g1, trivial⟩ (by first | exact trivial | (have := f0 (by simpa using g0); omega) | (simp only [PNode.ofRow, PNode.mk_eta]; exact sm2_mk hu0.2 hu1.2) | exact sm2_mk (zero_ok _ _ _) (zero_ok _ _ _) | done) ?_
      have g3 : (ofE l == ofE l) = true := by (first | (simp only [PNode.ofRow, PNode.mk_eta]; exact sameF_of _ _ _ (hu0.1.trans hu1.1.symm)) | exact sameF_of _ _ _ (by rfl) | exact beq_self_eq_true _ | assumption | (exact decide_eq_true (by assumption)) | (exact decide_eq_false (by assumption)) | rfl | done)
      exact Tr.endH [.run 4, .yes, .run 1] (cs := [(_, true)]) (Prod.fst) (y := SV.v (Value.bool true)) (by kernel_rfl) ⟨g3, trivial⟩ (fun a ha => ha.trans (by first | rfl | exact congrArg (fun x => SV.v (.bool x)) (by (first | (simp only [PNode.ofRow, PNode.mk_eta]; exact sameF_of _ _ _ (hu0.1.trans hu1.1.symm)) | exact sameF_of _ _ _ (by rfl) | exact beq_self_eq_true _ | assumption | (exact decide_eq_true (by assumption)) | (exact decide_eq_false (by assumption)) | rfl | done))))
/-! ### the row -/
theorem stay_cell {W : World} {b j : Nat} {v : Value} (h : W.cell? ⟨b, j, none⟩ = some v) : Base.cell (World.stay W) b j = some v := by
  cases ho : W.heap[b]? with
  | none => simp [World.cell?, ho] at h
  | some o => exact Base.cell_of (B := World.stay W) (w := W) ho ho h
/-- rows that came in stay as they are -/
theorem rowsIn_sv {ks : List CK} {W : World} {sl : Option Addr} {ln cp : Nat} (h : Sx.RowsIn ks W sl ln cp) (hg : ∀ B (r : RowT ks), RowGood B ks r) : ∃ l : List (RowT ks), Rel ⟨fun _ => none, World.stay W⟩ (.sv (.sl ks) (.slice sl ln cp, l)) (.slice sl ln cp) := by
  rcases Sx.RowsIn.list h with ⟨rfl, rfl⟩ | ⟨b, o, l, rfl, rfl, h1, h2, h3, _, h4⟩
  · refine ⟨[], ?_⟩
    simp only [Rel]
    exact ⟨rfl, ⟨sl, 0, rfl, Nat.le_refl _, fun h => absurd h (Nat.lt_irrefl _)⟩, fun r hr => nomatch hr⟩
  · refine ⟨l, ?_⟩
    simp only [Rel]
    exact ⟨rfl, ⟨_, cp, rfl, h1, fun _ => ⟨b, o, rfl, fun j x hj => stay_cell (RowsOK.iff.1 h4 j x hj).1⟩⟩, fun r _ => hg _ r⟩
theorem tok_good (B : Base) (r : RowT tokK) : RowGood B tokK r := ⟨trivial, trivial, trivial, trivial⟩
theorem treeOf_walk (W : World) (sl : Option Addr) (ln cp : Nat) (w0 : Sx.RowsIn tokK W sl ln cp) : Calls Try.prog 3 #[.slice sl ln cp] W fun e w' => e = .returned (.bool true) ∧ RowKit.Below W.heap.size W w' := by
  obtain ⟨l, hl⟩ := rowsIn_sv w0 tok_good
  exact law_calls hng hmix (Γ := Env.of loEntries noCut noWr) (EnvOK.of loEntries_ok) 400 3 Try.func3 (by kernel_rfl) (fun args mem => lookE_none (by simp [loEntries, eFew, awakeE, eOf, eROf, eSm, pureS, pureE]) args mem) (args := [.sv (.sl tokK) (.slice sl ln cp, l)]) (mem := []) (B := World.stay W) (MemOK.none (fun _ _ h => h) rfl) (.cons hl .nil) (lo_tree (.slice sl ln cp) l few_len)
end Go.Proofs.Ytdimocgjcneedaa
