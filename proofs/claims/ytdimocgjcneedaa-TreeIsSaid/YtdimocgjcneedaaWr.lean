/-
  Small functions of trees: which is low, which fits, which is the same.
-/
import Derived.Test.YtdimocgjcneedaaBk
import Derived.Test.YtdimocgjcneedaaAwk
set_option linter.unusedVariables false
set_option linter.unusedSimpArgs false
namespace Go.Proofs.Ytdimocgjcneedaa
open Sx
set_option maxRecDepth 100000
set_option maxHeartbeats 4000000
theorem mem2 {a c : Entry} (ha : EntryOK Try.prog a) (hc : EntryOK Try.prog c) : ∀ e ∈ [a, c], EntryOK Try.prog e := by
  intro e he
  simp only [List.mem_cons, List.not_mem_nil, or_false] at he
  rcases he with rfl | rfl
  · exact ha
  · exact hc
theorem mem1 {a : Entry} (ha : EntryOK Try.prog a) : ∀ e ∈ [a], EntryOK Try.prog e := by
  intro e he
  simp only [List.mem_cons, List.not_mem_nil, or_false] at he
  subst he; exact ha
/-- a told result, which is not to be looked into -/
def hideE (f : FuncId) {A X : Type} (sh : Shape A) (pre : A → Prop) (P : A → X → Prop) (V : X → SV) : Entry := (f, fun args mem => (sh.of args).map fun a => .need (pre a) (.all X (P a) fun x => .ok (V x, mem)))
theorem hideE_ok {Pr : Program} {f : FuncId} {A X : Type} {sh : Shape A} {pre : A → Prop} {res : A → SV} {P : A → X → Prop} {V : X → SV} (h : EntryOK Pr (pureS f sh pre res)) (g : A → X) (h1 : ∀ a, res a = V (g a)) (h2 : ∀ a, P a (g a)) : EntryOK Pr (hideE f sh pre P V) := implE_ok h fun args mem T hT => by
  obtain ⟨a, ha, rfl⟩ := Option.map_eq_some_iff.1 hT
  refine ⟨args, .need (pre a) (.ok (res a, mem)), fun _ _ h => h, by rw [ha]; rfl, fun R hR => ⟨hR.1, fun hp => ?_⟩⟩
  have : R (V (g a), mem) := hR.2 hp (g a) (h2 a)
  rw [← h1 a] at this
  exact this
def hLow : Entry := hideE 27 shN1i lvPre (fun a (x : Bool) => x = lowF a.2.toNat a.1) b
theorem hLow_ok : EntryOK Try.prog hLow := hideE_ok low_ok (fun a => lowF a.2.toNat a.1) (fun _ => rfl) fun _ => rfl
def hSize : Entry := hideE 28 shN1i tPre (fun a (x : Int) => x = sizeF a.2.toNat a.1) i
theorem hSize_ok : EntryOK Try.prog hSize := hideE_ok size_ok (fun a => sizeF a.2.toNat a.1) (fun _ => rfl) fun _ => rfl
def cntV (x : Int × Int × Int) : SV := .tup [i x.1, i x.2.1, i x.2.2]
def hCnt : Entry := hideE 30 shN1i tPre (fun a (x : Int × Int × Int) => x = cntF a.2.toNat a.1) cntV
theorem hCnt_ok : EntryOK Try.prog hCnt := hideE_ok cnt_ok (fun a => cntF a.2.toNat a.1) (fun _ => rfl) fun _ => rfl
/-- tokens of a tree, that stay -/
def tokPre (n : PNode) : Prop := okT n ∧ (toksF 8 n).length ≤ 1000000
def tokQ (n : PNode) (x : Value × List (RowT tokK)) : Prop := x.2 = toksF 8 n
def tokSV (x : Value × List (RowT tokK)) : SV := .sv (.sl tokK) x
def hToks : Entry := hideE 12 shN1 tokPre tokQ tokSV
theorem hToks_ok : EntryOK Try.prog hToks := implE_ok (e := (emptyE eTokens).2) (emptyE_ok tokens_ok) fun args mem T hT => by
  obtain ⟨n, hn, rfl⟩ := Option.map_eq_some_iff.1 hT
  refine ⟨[nodeSV n], _, fun ρ ys hr => shN1.rel hn hr, rfl, fun R hR => ?_⟩
  rw [Tr.holds_bind, Tr.holds_bind]
  have hp : tokPre n := hR.1
  refine ⟨⟨by simp only [PNode.ofRow, PNode.mk_eta]; exact hp.1, by simp only [PNode.ofRow, PNode.mk_eta]; exact hp.2⟩, fun _ => ⟨Nat.le_refl _, fun _ v _ => ?_⟩⟩
  simp only [PNode.ofRow, PNode.mk_eta]
  exact hR.2 hp (v, (toksF 8 n).take (toksF 8 n).length) (by show List.take _ _ = _; rw [List.take_length])
def lowAll (n : PNode) : Bool := lowF 12 n && decide (sizeF 12 n ≤ 400)
def laPre (n : PNode) : Prop := True
def laR (n : PNode) : SV := b (lowAll n)
def laM (n : PNode) : Nat := 0
def fitR (n : PNode) : SV := b (fitsF n)
def s20R (a : PNode × PNode) : SV := b (sameF 20 a.1 a.2)
def s20M (a : PNode × PNode) : Nat := 0
theorem lvPre12 (n : PNode) : lvPre (n, 12) := ⟨(by decide : (0 : Int) ≤ 12), (by decide : (12 : Int) ≤ 1000)⟩
theorem tPre12 {n : PNode} (h : okT n) : tPre (n, 12) := ⟨⟨(by decide : (0 : Int) ≤ 12), (by decide : (12 : Int) ≤ 1000)⟩, h⟩
theorem tPre9 {n : PNode} (h : okT n) : tPre (n, 9) := ⟨⟨(by decide : (0 : Int) ≤ 9), (by decide : (9 : Int) ≤ 1000)⟩, h⟩
theorem sm20 {a c : PNode} (h : okT a) (h2 : okT c) : sm2Pre (a, c, 20) := ⟨⟨(by decide : (0 : Int) ≤ 20), (by decide : (20 : Int) ≤ 1000)⟩, h, h2⟩
theorem lowAll_few {n : PNode} (h : lowAll n = true) : Few n := by
  simp only [lowAll, Bool.and_eq_true, decide_eq_true_eq] at h
  exact few_of h.1 h.2
theorem la_body (n : PNode) (k : Nat) (f0 : lowF 12 n = true → okT n) (f1 : lowF 12 n = true → lowAll n = decide (sizeF 12 n ≤ 400)) (f2 : lowF 12 n = false → lowAll n = false) : (bodyX Try.prog (Env.of [pureSk 11 shN1 laPre laR laM k, hLow, hSize] noCut noWr) 400 11 [nodeSV n] [] fin).Holds fun r => r.1 = laR n := by
  refine Tr.needH [] (cs := []) (p := lvPre (PNode.ofRow (PNode.name n, (PNode.pv n, PNode.props n), (PNode.kv n, PNode.kids n), ()), (12 : Int))) (by kernel_rfl) trivial (by first | exact lvPre12 _ | (simp only [PNode.ofRow, PNode.mk_eta]; exact tPre12 (f0 (by exact (show u0 = lowF 12 n from hu0) ▸ (by assumption)))) | done) ?_
  refine Tr.allH [] (cs := []) (X := Bool) (by kernel_rfl) (p := fun u0 => u0 = lowF (Int.toNat (12 : Int)) (PNode.ofRow (PNode.name n, (PNode.pv n, PNode.props n), (PNode.kv n, PNode.kids n), ()))) (fun _ => by kernel_rfl) (by kernel_rfl) trivial (fun u0 hu0 => ?_)
  refine Or.elim (Bool.eq_false_or_eq_true (u0)) (fun g0 => ?_) (fun g0 => ?_)
  · skip
    refine Tr.needH [.yes, .run 1] (cs := [(_, true)]) (p := tPre (PNode.ofRow (PNode.name n, (PNode.pv n, PNode.props n), (PNode.kv n, PNode.kids n), ()), (12 : Int))) (by kernel_rfl) ⟨g0, trivial⟩ (by first | exact lvPre12 _ | (simp only [PNode.ofRow, PNode.mk_eta]; exact tPre12 (f0 (by exact (show u0 = lowF 12 n from hu0) ▸ (by assumption)))) | done) ?_
    refine Tr.allH [] (cs := []) (X := Int) (by kernel_rfl) (p := fun u1 => u1 = sizeF (Int.toNat (12 : Int)) (PNode.ofRow (PNode.name n, (PNode.pv n, PNode.props n), (PNode.kv n, PNode.kids n), ()))) (fun _ => by kernel_rfl) (by kernel_rfl) trivial (fun u1 hu1 => ?_)
    exact Tr.endH [.run 2] (cs := []) (Prod.fst) (y := SV.v (Value.bool (decide (u1 ≤ (400 : Int))))) (by kernel_rfl) trivial (fun a ha => ha.trans (by unfold laR; first | (rw [f1 (by exact (show u0 = lowF 12 n from hu0) ▸ (by assumption)), ← (show u1 = sizeF 12 n from hu1)]; rfl) | (rw [f2 (by exact (show u0 = lowF 12 n from hu0) ▸ (by assumption))]; rfl) | skip))
  · skip
    exact Tr.endH [.no, .run 3] (cs := [(_, false)]) (Prod.fst) (y := SV.v (Value.bool false)) (by kernel_rfl) ⟨g0, trivial⟩ (fun a ha => ha.trans (by unfold laR; first | (rw [f1 (by exact (show u0 = lowF 12 n from hu0) ▸ (by assumption)), ← (show u1 = sizeF 12 n from hu1)]; rfl) | (rw [f2 (by exact (show u0 = lowF 12 n from hu0) ▸ (by assumption))]; rfl) | skip))
def eLowN : Entry := pureS 11 shN1 laPre laR
theorem lowN_ok : EntryOK Try.prog eLowN :=
  pureS_ok hng hmix (l := [hLow, hSize]) (cut := noCut) (wr := noWr) (mem2 hLow_ok hSize_ok) 400 11 Try.func11 (by kernel_rfl) shN1 laM (fun _ => rfl) (fun _ => rfl) fun k n hE hp hm =>
    la_body n k (lowF_ok _ _) (fun h => by rw [lowAll, h, Bool.true_and]) (fun h => by rw [lowAll, h, Bool.false_and])
theorem fit_body (n : PNode) (k : Nat) (h : okT n) : (bodyX Try.prog (Env.of [pureSk 13 shN1 okT fitR laM k, hCnt] noCut noWr) 400 13 [nodeSV n] [] fin).Holds fun r => r.1 = fitR n := by
  refine Tr.needH [] (cs := []) (p := tPre (PNode.ofRow (PNode.name n, (PNode.pv n, PNode.props n), (PNode.kv n, PNode.kids n), ()), (9 : Int))) (by kernel_rfl) trivial (by first | (simp only [PNode.ofRow, PNode.mk_eta]; exact tPre9 h) | done) ?_
  refine Tr.allH [] (cs := []) (X := Int × Int × Int) (by kernel_rfl) (p := fun u0 => u0 = cntF (Int.toNat (9 : Int)) (PNode.ofRow (PNode.name n, (PNode.pv n, PNode.props n), (PNode.kv n, PNode.kids n), ()))) (fun _ => by kernel_rfl) (by kernel_rfl) trivial (fun u0 hu0 => ?_)
  refine Or.elim (Bool.eq_false_or_eq_true (decide (u0.fst ≤ (64 : Int)))) (fun g0 => ?_) (fun g0 => ?_)
  · skip
    refine Or.elim (Bool.eq_false_or_eq_true (decide (u0.snd.fst ≤ (256 : Int)))) (fun g1 => ?_) (fun g1 => ?_)
    · skip
      exact Tr.endH [.yes, .run 2, .yes, .run 2] (cs := [(_, true), (_, true)]) (Prod.fst) (y := SV.v (Value.bool (decide (u0.snd.snd ≤ (8 : Int))))) (by kernel_rfl) ⟨g0, g1, trivial⟩ (fun a ha => ha.trans (by unfold fitR fitsF; rw [← (show u0 = cntF 9 n from hu0)]; clear ha hu0; first | (simp_all [b]; done) | (simp_all [b]; omega)))
    · skip
      exact Tr.endH [.yes, .run 2, .no, .run 2] (cs := [(_, true), (_, false)]) (Prod.fst) (y := SV.v (Value.bool false)) (by kernel_rfl) ⟨g0, g1, trivial⟩ (fun a ha => ha.trans (by unfold fitR fitsF; rw [← (show u0 = cntF 9 n from hu0)]; clear ha hu0; first | (simp_all [b]; done) | (simp_all [b]; omega)))
  · skip
    exact Tr.endH [.no, .run 5] (cs := [(_, false)]) (Prod.fst) (y := SV.v (Value.bool false)) (by kernel_rfl) ⟨g0, trivial⟩ (fun a ha => ha.trans (by unfold fitR fitsF; rw [← (show u0 = cntF 9 n from hu0)]; clear ha hu0; first | (simp_all [b]; done) | (simp_all [b]; omega)))
def eFits : Entry := pureS 13 shN1 okT fitR
theorem fits_ok : EntryOK Try.prog eFits :=
  pureS_ok hng hmix (l := [hCnt]) (cut := noCut) (wr := noWr) (mem1 hCnt_ok) 400 13 Try.func13 (by kernel_rfl) shN1 laM (fun _ => rfl) (fun _ => rfl) fun k n hE hp hm => fit_body n k hp
theorem s20_body (a c : PNode) (k : Nat) (h : okT a) (h2 : okT c) : (bodyX Try.prog (Env.of [pureSk 10 shN2 stPre s20R s20M k, eSm] noCut noWr) 400 10 [nodeSV a, nodeSV c] [] fin).Holds fun r => r.1 = s20R (a, c) := by
  refine Tr.needH [] (cs := []) (p := sm2Pre (PNode.ofRow (PNode.name a, (PNode.pv a, PNode.props a), (PNode.kv a, PNode.kids a), ()), PNode.ofRow (PNode.name c, (PNode.pv c, PNode.props c), (PNode.kv c, PNode.kids c), ()), (20 : Int))) (by kernel_rfl) trivial (by first | (simp only [PNode.ofRow, PNode.mk_eta]; exact sm20 h h2) | done) ?_
  exact Tr.endH [] (cs := []) (Prod.fst) (y := SV.v (Value.bool (sameF (Int.toNat (20 : Int)) (PNode.ofRow (PNode.name a, (PNode.pv a, PNode.props a), (PNode.kv a, PNode.kids a), ())) (PNode.ofRow (PNode.name c, (PNode.pv c, PNode.props c), (PNode.kv c, PNode.kids c), ()))))) (by kernel_rfl) trivial (fun a ha => ha.trans rfl)
def eSame20 : Entry := pureS 10 shN2 stPre s20R
theorem same20_ok : EntryOK Try.prog eSame20 :=
  pureS_ok hng hmix (l := [eSm]) (cut := noCut) (wr := noWr) (mem1 sm_ok) 400 10 Try.func10 (by kernel_rfl) shN2 s20M (fun _ => rfl) (fun _ => rfl) fun k a hE hp hm => by
    obtain ⟨a, c⟩ := a
    exact s20_body a c k hp.1 hp.2
end Go.Proofs.Ytdimocgjcneedaa
