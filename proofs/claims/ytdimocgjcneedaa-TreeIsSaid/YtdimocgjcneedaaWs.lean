/-
  Small functions of trees: counts, tokens and walks by the document.
-/
import Derived.Test.YtdimocgjcneedaaCp
import Derived.Test.YtdimocgjcneedaaRwk
set_option linter.unusedVariables false
set_option linter.unusedSimpArgs false
namespace Go.Proofs.Ytdimocgjcneedaa
open Sx
set_option maxRecDepth 100000
set_option maxHeartbeats 4000000
theorem tPreN {n : PNode} (h : okT n) : tPre (n, 9) := tPre9 h
def cntN (n : PNode) : Int × Int × Int := cntF 9 n
def cntA (x : Int × Int × Int) : SV := .agg [i x.1, i x.2.1, i x.2.2]
def cntVR (n : PNode) : SV := cntV (cntN n)
def cntAR (n : PNode) : SV := cntA (cntN n)
def hRCnt : Entry := hideE 32 shN1i tPre (fun a (x : Int × Int × Int) => x = cntF a.2.toNat a.1) cntA
theorem hRCnt_ok : EntryOK Try.prog hRCnt := hideE_ok rcnt_ok (fun a => cntF a.2.toNat a.1) (fun _ => rfl) fun _ => rfl
theorem count16_body (n : PNode) (k : Nat) (h : okT n) : (bodyX Try.prog (Env.of [pureSk 16 shN1 okT cntVR laM k, hCnt] noCut noWr) 400 16 [nodeSV n] [] fin).Holds fun r => r.1 = cntVR n := by
  refine Tr.needH [] (cs := []) (p := tPre (PNode.ofRow (PNode.name n, (PNode.pv n, PNode.props n), (PNode.kv n, PNode.kids n), ()), (9 : Int))) (by kernel_rfl) trivial (by first | (simp only [PNode.ofRow, PNode.mk_eta]; first | exact tPreN h | exact h) | omega | ((repeat' apply And.intro) <;> first | trivial | decide | omega) | done) ?_
  refine Tr.allH [] (cs := []) (X := Int × Int × Int) (by kernel_rfl) (p := fun u0 => u0 = cntF (Int.toNat (9 : Int)) (PNode.ofRow (PNode.name n, (PNode.pv n, PNode.props n), (PNode.kv n, PNode.kids n), ()))) (fun _ => by kernel_rfl) (by kernel_rfl) trivial (fun u0 hu0 => ?_)
  exact Tr.endH [] (cs := []) (Prod.fst) (y := SV.tup [SV.v (Value.int IntKind.i64 u0.fst), SV.v (Value.int IntKind.i64 u0.snd.fst), SV.v (Value.int IntKind.i64 u0.snd.snd)]) (by kernel_rfl) trivial (fun a ha => ha.trans (by unfold cntVR cntN; rw [← (show u0 = cntF 9 n from by simp only [PNode.ofRow, PNode.mk_eta] at hu0; exact hu0)]; rfl))
theorem count16_ok : EntryOK Try.prog (pureS 16 shN1 okT cntVR) :=
  pureS_ok hng hmix (l := [hCnt]) (cut := noCut) (wr := noWr) (mem1 hCnt_ok) 400 16 Try.func16 (by kernel_rfl) shN1 laM (fun _ => rfl) (fun _ => rfl) fun k n hE hp hm => count16_body n k hp
theorem count18_body (n : PNode) (k : Nat) (h : okT n) : (bodyX Try.prog (Env.of [pureSk 18 shN1 okT cntAR laM k, hRCnt] noCut noWr) 400 18 [nodeSV n] [] fin).Holds fun r => r.1 = cntAR n := by
  refine Tr.needH [] (cs := []) (p := tPre (PNode.ofRow (PNode.name n, (PNode.pv n, PNode.props n), (PNode.kv n, PNode.kids n), ()), (9 : Int))) (by kernel_rfl) trivial (by first | (simp only [PNode.ofRow, PNode.mk_eta]; first | exact tPreN h | exact h) | omega | ((repeat' apply And.intro) <;> first | trivial | decide | omega) | done) ?_
  refine Tr.allH [] (cs := []) (X := Int × Int × Int) (by kernel_rfl) (p := fun u0 => u0 = cntF (Int.toNat (9 : Int)) (PNode.ofRow (PNode.name n, (PNode.pv n, PNode.props n), (PNode.kv n, PNode.kids n), ()))) (fun _ => by kernel_rfl) (by kernel_rfl) trivial (fun u0 hu0 => ?_)
  exact Tr.endH [] (cs := []) (Prod.fst) (y := SV.agg [SV.v (Value.int IntKind.i64 u0.fst), SV.v (Value.int IntKind.i64 u0.snd.fst), SV.v (Value.int IntKind.i64 u0.snd.snd)]) (by kernel_rfl) trivial (fun a ha => ha.trans (by unfold cntAR cntN; rw [← (show u0 = cntF 9 n from by simp only [PNode.ofRow, PNode.mk_eta] at hu0; exact hu0)]; rfl))
theorem count18_ok : EntryOK Try.prog (pureS 18 shN1 okT cntAR) :=
  pureS_ok hng hmix (l := [hRCnt]) (cut := noCut) (wr := noWr) (mem1 hRCnt_ok) 400 18 Try.func18 (by kernel_rfl) shN1 laM (fun _ => rfl) (fun _ => rfl) fun k n hE hp hm => count18_body n k hp
def hCount : Entry := hideE 16 shN1 okT (fun n (x : Int × Int × Int) => x = cntN n) cntV
theorem hCount_ok : EntryOK Try.prog hCount := hideE_ok count16_ok cntN (fun _ => rfl) fun _ => rfl
def hRCount : Entry := hideE 18 shN1 okT (fun n (x : Int × Int × Int) => x = cntN n) cntA
theorem hRCount_ok : EntryOK Try.prog hRCount := hideE_ok count18_ok cntN (fun _ => rfl) fun _ => rfl
theorem rfit_body (n : PNode) (k : Nat) (h : okT n) : (bodyX Try.prog (Env.of [pureSk 19 shN1 okT fitR laM k, hRCount] noCut noWr) 400 19 [nodeSV n] [] fin).Holds fun r => r.1 = fitR n := by
  refine Tr.needH [] (cs := []) (p := okT (PNode.ofRow (PNode.name n, (PNode.pv n, PNode.props n), (PNode.kv n, PNode.kids n), ()))) (by kernel_rfl) trivial (by first | (simp only [PNode.ofRow, PNode.mk_eta]; exact h) | omega | ((repeat' apply And.intro) <;> first | trivial | decide | omega) | done) ?_
  refine Tr.allH [] (cs := []) (X := Int × Int × Int) (by kernel_rfl) (p := fun u0 => u0 = cntN (PNode.ofRow (PNode.name n, (PNode.pv n, PNode.props n), (PNode.kv n, PNode.kids n), ()))) (fun _ => by kernel_rfl) (by kernel_rfl) trivial (fun u0 hu0 => ?_)
  refine Or.elim (Bool.eq_false_or_eq_true (decide (u0.fst ≤ (64 : Int)))) (fun g0 => ?_) (fun g0 => ?_)
  · skip
    refine Or.elim (Bool.eq_false_or_eq_true (decide (u0.snd.fst ≤ (256 : Int)))) (fun g1 => ?_) (fun g1 => ?_)
    · skip
      exact Tr.endH [.run 1, .yes, .run 5, .yes, .run 6] (cs := [(_, true), (_, true)]) (Prod.fst) (y := SV.v (Value.bool (decide (u0.snd.snd ≤ (8 : Int))))) (by kernel_rfl) ⟨g0, g1, trivial⟩ (fun a ha => ha.trans (by unfold fitR fitsF; rw [← (show u0 = cntF 9 n from by simp only [PNode.ofRow, PNode.mk_eta] at hu0; exact hu0)]; clear ha hu0; first | (simp_all [b]; done) | (simp_all [b]; omega)))
    · skip
      exact Tr.endH [.run 1, .yes, .run 5, .no, .run 3] (cs := [(_, true), (_, false)]) (Prod.fst) (y := SV.v (Value.bool false)) (by kernel_rfl) ⟨g0, g1, trivial⟩ (fun a ha => ha.trans (by unfold fitR fitsF; rw [← (show u0 = cntF 9 n from by simp only [PNode.ofRow, PNode.mk_eta] at hu0; exact hu0)]; clear ha hu0; first | (simp_all [b]; done) | (simp_all [b]; omega)))
  · skip
    exact Tr.endH [.run 1, .no, .run 7] (cs := [(_, false)]) (Prod.fst) (y := SV.v (Value.bool false)) (by kernel_rfl) ⟨g0, trivial⟩ (fun a ha => ha.trans (by unfold fitR fitsF; rw [← (show u0 = cntF 9 n from by simp only [PNode.ofRow, PNode.mk_eta] at hu0; exact hu0)]; clear ha hu0; first | (simp_all [b]; done) | (simp_all [b]; omega)))
def eRFits : Entry := pureS 19 shN1 okT fitR
theorem rfits_ok : EntryOK Try.prog eRFits :=
  pureS_ok hng hmix (l := [hRCount]) (cut := noCut) (wr := noWr) (mem1 hRCount_ok) 400 19 Try.func19 (by kernel_rfl) shN1 laM (fun _ => rfl) (fun _ => rfl) fun k n hE hp hm => rfit_body n k hp
/-! ### tokens, by the document -/
def hRToks0 : Entry := (31, fun args mem => match args with
  | [s, .v (.int .i64 lv)] => (nodeOf s).map fun n => .need (rtoksPre n lv) (.all (Value × List (RowT tokK)) (fun x => x.2 = toksF lv.toNat n) fun x => .ok (tokSV x, mem))
  | _ => none)
theorem hRToks0_ok : EntryOK Try.prog hRToks0 := implE_ok (e := (emptyE eRToks).2) (emptyE_ok rtoks_ok) fun args mem T hT => by
  split at hT
  · rename_i s lv
    obtain ⟨n, hn, rfl⟩ := Option.map_eq_some_iff.1 hT
    refine ⟨[nodeSV n, i lv], _, fun ρ ys hr => ?_, rfl, fun R hR => ?_⟩
    · obtain ⟨y, ys', rfl, h1, h2⟩ := hr.cons_inv
      exact .cons (nodeOf_rel hn h1) h2
    rw [Tr.holds_bind, Tr.holds_bind]
    have hp : rtoksPre n lv := hR.1
    refine ⟨by simp only [PNode.ofRow, PNode.mk_eta]; exact hp, fun _ => ⟨fun hc => ?_, fun hc => ⟨Nat.le_refl _, fun _ v _ => ?_⟩⟩⟩
    · have hc : lv = 0 := of_decide_eq_true hc
      exact hR.2 hp (nilV, []) (by show [] = _; rw [hc]; rfl)
    · simp only [PNode.ofRow, PNode.mk_eta]
      exact hR.2 hp (v, (toksF lv.toNat n).take (toksF lv.toNat n).length) (by show List.take _ _ = _; rw [List.take_length])
  · cases hT
theorem rtoks8 {n : PNode} (h : tokPre n) : rtoksPre n 8 := ⟨⟨by decide, by decide⟩, h.1, h.2⟩
theorem rtoks8_mk {n : PNode} (h : tokPre n) : rtoksPre (.mk n.name n.pv n.props n.kv n.kids) 8 := by rw [PNode.mk_eta]; exact rtoks8 h
theorem hRToks_tree (n : PNode) (hp : tokPre n) : (callX Try.prog (Env.of [hRToks0] noCut noWr) 400 17 [nodeSV n] [] fin).Holds (Post 0 (.all (Value × List (RowT tokK)) (tokQ n) fun x => .ok (tokSV x, []))) := by
  refine Tr.needH [] (cs := []) (p := rtoksPre (PNode.ofRow (PNode.name n, (PNode.pv n, PNode.props n), (PNode.kv n, PNode.kids n), ())) (8 : Int)) (by kernel_rfl) trivial (by first | (simp only [PNode.ofRow, PNode.mk_eta]; exact rtoks8 hp) | done) ?_
  refine Tr.allH [] (cs := []) (X := Value × List (RowT tokK)) (by kernel_rfl) (p := fun u0 => u0.snd = toksF (Int.toNat (8 : Int)) (PNode.ofRow (PNode.name n, (PNode.pv n, PNode.props n), (PNode.kv n, PNode.kids n), ()))) (fun _ => by kernel_rfl) (by kernel_rfl) trivial (fun u0 hu0 => ?_)
  exact Tr.postH [] (cs := []) (by kernel_rfl) trivial ((tokSV u0, ([] : List Blk))) (fun _ h => Post.all u0 (by simp only [PNode.ofRow, PNode.mk_eta] at hu0; exact hu0) h) [] (by kernel_rfl) (q := true = true ∧ some u0 = some u0 ∧ True) (by kernel_rfl) (by (repeat' apply And.intro) <;> first | rfl | trivial)
def hRToks0G (args : List SV) (mem : List Blk) : Option (Tr (SV × List Blk)) := match args, mem with
  | [.agg [.v (.string nm), .sv (.sl [.str, .str]) (pv, ps), .sv .nodes (kv, ks)]], [] => some (.need (tokPre (.mk nm pv ps kv ks)) (.all (Value × List (RowT tokK)) (tokQ (.mk nm pv ps kv ks)) fun x => .ok (tokSV x, [])))
  | _, _ => none
theorem hRToksT_ok : EntryOK Try.prog (emptyE (normE (toldE 17 hRToks0G))) := emptyE_ok (normE_ok (toldE_ok hng hmix (l := [hRToks0]) (cut := noCut) (wr := noWr) (mem1 hRToks0_ok) 400 17 Try.func17 (by kernel_rfl) (by simp [hRToks0]) (by
  intro args mem T hT R hR
  unfold hRToks0G at hT
  split at hT
  · rename_i nm pv ps kv ks
    cases hT
    exact Tr.Holds.mono (hRToks_tree (.mk nm pv ps kv ks) hR.1) fun r h => Post.need h
  · cases hT)))
def hRToks : Entry := hideE 17 shN1 tokPre tokQ tokSV
theorem hRToks_ok : EntryOK Try.prog hRToks := implE_ok (e := (emptyE (normE (toldE 17 hRToks0G))).2) hRToksT_ok fun args mem T hT => by
  obtain ⟨n, hn, rfl⟩ := Option.map_eq_some_iff.1 hT
  refine ⟨[nodeSV n], _, fun ρ ys hr => shN1.rel hn hr, rfl, fun R hR => ?_⟩
  rw [Tr.holds_bind]
  have hp : tokPre n := hR.1
  refine ⟨by simp only [PNode.ofRow, PNode.mk_eta]; exact hp, fun _ x hx => ?_⟩
  simp only [PNode.ofRow, PNode.mk_eta] at hx
  exact hR.2 hp x hx
theorem rw_mk {n : PNode} (h : rwPre n) : RPre slash n 8 := h
theorem hRWalk_tree (n : PNode) (hp : rwPre n) : (callX Try.prog (Env.of [hRWalk0] noCut noWr) 400 23 [nodeSV n] [] fin).Holds (Post 0 (.all (Value × List (RowT spotK)) (wQ n) fun x => .ok (spotSV x, []))) := by
  refine Tr.needH [] (cs := []) (p := RPre (ByteArray.mk #[(47 : UInt8)]) (PNode.ofRow (PNode.name n, (PNode.pv n, PNode.props n), (PNode.kv n, PNode.kids n), ())) (8 : Int)) (by kernel_rfl) trivial (by first | (simp only [PNode.ofRow, PNode.mk_eta]; exact rw_mk hp) | done) ?_
  refine Tr.allH [] (cs := []) (X := Value × List (RowT spotK)) (by kernel_rfl) (p := fun u0 => u0.snd = walkF (Int.toNat (8 : Int)) (ByteArray.mk #[(47 : UInt8)]) (PNode.ofRow (PNode.name n, (PNode.pv n, PNode.props n), (PNode.kv n, PNode.kids n), ()))) (fun _ => by kernel_rfl) (by kernel_rfl) trivial (fun u0 hu0 => ?_)
  exact Tr.postH [] (cs := []) (by kernel_rfl) trivial ((spotSV u0, ([] : List Blk))) (fun _ h => Post.all u0 (by simp only [PNode.ofRow, PNode.mk_eta] at hu0; exact hu0) h) [] (by kernel_rfl) (q := true = true ∧ some u0 = some u0 ∧ True) (by kernel_rfl) (by (repeat' apply And.intro) <;> first | rfl | trivial)
def hRWalk0G (args : List SV) (mem : List Blk) : Option (Tr (SV × List Blk)) := match args, mem with
  | [.agg [.v (.string nm), .sv (.sl [.str, .str]) (pv, ps), .sv .nodes (kv, ks)]], [] => some (.need (rwPre (.mk nm pv ps kv ks)) (.all (Value × List (RowT spotK)) (wQ (.mk nm pv ps kv ks)) fun x => .ok (spotSV x, [])))
  | _, _ => none
theorem hRWalkT_ok : EntryOK Try.prog (emptyE (normE (toldE 23 hRWalk0G))) := emptyE_ok (normE_ok (toldE_ok hng hmix (l := [hRWalk0]) (cut := noCut) (wr := noWr) (mem1 hRWalk0_ok) 400 23 Try.func23 (by kernel_rfl) (by simp [hRWalk0]) (by
  intro args mem T hT R hR
  unfold hRWalk0G at hT
  split at hT
  · rename_i nm pv ps kv ks
    cases hT
    exact Tr.Holds.mono (hRWalk_tree (.mk nm pv ps kv ks) hR.1) fun r h => Post.need h
  · cases hT)))
def hRWalk : Entry := hideE 23 shN1 rwPre wQ spotSV
theorem hRWalk_ok : EntryOK Try.prog hRWalk := implE_ok (e := (emptyE (normE (toldE 23 hRWalk0G))).2) hRWalkT_ok fun args mem T hT => by
  obtain ⟨n, hn, rfl⟩ := Option.map_eq_some_iff.1 hT
  refine ⟨[nodeSV n], _, fun ρ ys hr => shN1.rel hn hr, rfl, fun R hR => ?_⟩
  rw [Tr.holds_bind]
  have hp : rwPre n := hR.1
  refine ⟨by simp only [PNode.ofRow, PNode.mk_eta]; exact hp, fun _ x hx => ?_⟩
  simp only [PNode.ofRow, PNode.mk_eta] at hx
  exact hR.2 hp x hx
end Go.Proofs.Ytdimocgjcneedaa
