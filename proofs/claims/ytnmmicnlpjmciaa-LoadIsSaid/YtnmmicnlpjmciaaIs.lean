/-
  The spans of any images, what is handed over, and the memory behind it (postilionlaw35.LoadIs): for every input the law returns true.
-/
import Derived.Test.YtnmmicnlpjmciaaIs000
import Derived.Test.YtnmmicnlpjmciaaIs001
import Derived.Test.YtnmmicnlpjmciaaIs010
import Derived.Test.YtnmmicnlpjmciaaIs011
import Derived.Test.YtnmmicnlpjmciaaIs100
import Derived.Test.YtnmmicnlpjmciaaIs101
import Derived.Test.YtnmmicnlpjmciaaIs110
import Derived.Test.YtnmmicnlpjmciaaIs111
set_option linter.unusedVariables false
set_option linter.unusedSimpArgs false
namespace Go.Proofs.Ytnmmicnlpjmciaa
open Sx
set_option maxRecDepth 100000
set_option maxHeartbeats 4000000
theorem planS_planC (l0 l1 l2 en : Int) (d0 d1 d2 : ByteArray) : planS l0 l1 l2 en [((d0.size : Int), ()), ((d1.size : Int), ()), ((d2.size : Int), ())] = planC l0 l1 l2 en d0 d1 d2 := by
  unfold planS planC
  have z0 : sz [((d0.size : Int), ()), ((d1.size : Int), ()), ((d2.size : Int), ())] 0 = (d0.size : Int) := rfl
  have z1 : sz [((d0.size : Int), ()), ((d1.size : Int), ()), ((d2.size : Int), ())] 1 = (d1.size : Int) := rfl
  have z2 : sz [((d0.size : Int), ()), ((d1.size : Int), ()), ((d2.size : Int), ())] 2 = (d2.size : Int) := rfl
  rw [z0, z1, z2, if_neg (fun h => h rfl)]
  by_cases h : d0.size = 0 ∨ d1.size = 0 ∨ d2.size = 0
  · rw [if_pos (by omega), if_pos h]
  · rw [if_neg (by omega), if_neg h]
theorem is_out (l0 l1 l2 : Int) (s : List (RowT intK)) (d0 d1 d2 d3 : ByteArray) (h : 600 < d0.size ∨ 600 < d1.size ∨ 600 < d2.size ∨ 600 < d3.size ∨ 10 < s.length) : (callX Try.prog (isEnv 13) 400 3 [.agg [i l0, i l1, i l2], .oslc 0 1 0 s.length, .agg [str d0, str d1, str d2, str d3]] [⟨false, .rows intK s⟩] fin).Holds fun r => r.1 = b true := by
  refine Or.elim (Bool.eq_false_or_eq_true (decide ((↑(ByteArray.size d0) : Int) ≤ (600 : Int)))) (fun g0 => ?_) (fun g0 => ?_)
  · skip
    refine Or.elim (Bool.eq_false_or_eq_true (decide ((↑(ByteArray.size d1) : Int) ≤ (600 : Int)))) (fun g1 => ?_) (fun g1 => ?_)
    · skip
      refine Or.elim (Bool.eq_false_or_eq_true (!decide ((↑(ByteArray.size d2) : Int) ≤ (600 : Int)))) (fun g2 => ?_) (fun g2 => ?_)
      · skip
        exact Tr.endH [.run 7, .yes, .run 6, .yes, .run 7, .yes, .run 9] (cs := [(_, true), (_, true), (_, true)]) (Prod.fst) (y := SV.v (Value.bool true)) (by kernel_rfl) ⟨g0, g1, g2, trivial⟩ (fun a ha => ha)
      · skip
        refine Or.elim (Bool.eq_false_or_eq_true (decide ((↑(ByteArray.size d3) : Int) > (600 : Int)))) (fun g3 => ?_) (fun g3 => ?_)
        · skip
          exact Tr.endH [.run 7, .yes, .run 6, .yes, .run 7, .no, .run 8, .yes, .run 4] (cs := [(_, true), (_, true), (_, false), (_, true)]) (Prod.fst) (y := SV.v (Value.bool true)) (by kernel_rfl) ⟨g0, g1, g2, g3, trivial⟩ (fun a ha => ha)
        · skip
          have g4 : (decide ((↑(List.length s) : Int) > (10 : Int))) = true := by ((try simp only [q1, beq_iff_eq, beq_eq_false_iff_ne, ne_eq, bne_iff_ne, bne_eq_false_iff_eq, ge_iff_le, gt_iff_lt, if_true, if_false, reduceIte, beq_self_eq_true, bne_self_eq_false, bne_iff_ne, nadd_eq, true_eq_decide_iff, false_eq_decide_iff, List.drop_zero, List.take_length, Nat.zero_add, Int.toNat_natCast] at *); first | done | omega | (simp_all; done) | (simp_all; omega))
          exact Tr.endH [.run 7, .yes, .run 6, .yes, .run 7, .no, .run 8, .no, .run 3, .yes] (cs := [(_, true), (_, true), (_, false), (_, false), (_, true)]) (Prod.fst) (y := SV.v (Value.bool true)) (by kernel_rfl) ⟨g0, g1, g2, g3, g4, trivial⟩ (fun a ha => ha)
    · skip
      exact Tr.endH [.run 7, .yes, .run 6, .no, .run 14] (cs := [(_, true), (_, false)]) (Prod.fst) (y := SV.v (Value.bool true)) (by kernel_rfl) ⟨g0, g1, trivial⟩ (fun a ha => ha)
  · skip
    exact Tr.endH [.run 7, .no, .run 19] (cs := [(_, false)]) (Prod.fst) (y := SV.v (Value.bool true)) (by kernel_rfl) ⟨g0, trivial⟩ (fun a ha => ha)
theorem is_0 (l0 l1 l2 : Int) (s : List (RowT intK)) (d0 d1 d2 d3 : ByteArray) (w0 : -9223372036854775808 ≤ l0 ∧ l0 ≤ 9223372036854775807) (w1 : -9223372036854775808 ≤ l1 ∧ l1 ≤ 9223372036854775807) (w2 : -9223372036854775808 ≤ l2 ∧ l2 ≤ 9223372036854775807) (s0 : d0.size ≤ 600) (s1 : d1.size ≤ 600) (s2 : d2.size ≤ 600) (s3 : d3.size ≤ 600) (hl : s.length ≤ 10) (he : s.length = 0) (w3 : -9223372036854775808 ≤ l0 ∧ l0 ≤ 9223372036854775807) : ∃ q, (callX Try.prog (isEnv q) 400 3 [.agg [i l0, i l1, i l2], .oslc 0 1 0 s.length, .agg [str d0, str d1, str d2, str d3]] [⟨false, .rows intK s⟩] fin).Holds fun r => r.1 = b true := by
  have hz : zeros.length = 65536 := List.length_replicate
  have rp0 : rowsPre [] [] := RI.zero.pre (by simp)
  have rs0 : refB [] [] 0 65536 = readB zeros 0 65536 := RI.zero.read _ _
  by_cases hq : planC l0 l1 l2 l0 d0 d1 d2 = 0
  · obtain ⟨hy, hc, hh⟩ := planC_zero hq
    have T := Three.of hc
    have k := T.back
    have r1 := RI.zero.load T.c0 s0
    have r2 := r1.load T.c1 s1
    have r3 := r2.load T.c2 s2
    by_cases c : loadC [] l1 d3 = 0
    · exact ⟨14, is_011 l0 l1 l2 s d0 d1 d2 d3 w0 w1 w2 s0 s1 s2 s3 hl he w3 _ _ rfl (planS_planC _ _ _ _ _ _ _) rfl hz rfl rfl rfl c (RI.zero.load c s3).length hq T.c0 T.c1 T.c2 k.n3 (k.right hh) (r3.pre (by simp)) (r3.read _ _)⟩
    · exact ⟨13, is_010 l0 l1 l2 s d0 d1 d2 d3 w0 w1 w2 s0 s1 s2 s3 hl he w3 _ _ rfl (planS_planC _ _ _ _ _ _ _) rfl hz rfl rfl rfl c hq T.c0 T.c1 T.c2 k.n3 (k.right hh) (r3.pre (by simp)) (r3.read _ _)⟩
  · by_cases c : loadC [] l1 d3 = 0
    · exact ⟨14, is_001 l0 l1 l2 s d0 d1 d2 d3 w0 w1 w2 s0 s1 s2 s3 hl he w3 _ _ rfl (planS_planC _ _ _ _ _ _ _) rfl hz rfl rfl rfl c (RI.zero.load c s3).length hq rp0 rs0⟩
    · exact ⟨13, is_000 l0 l1 l2 s d0 d1 d2 d3 w0 w1 w2 s0 s1 s2 s3 hl he w3 _ _ rfl (planS_planC _ _ _ _ _ _ _) rfl hz rfl rfl rfl c hq rp0 rs0⟩
theorem is_1 (l0 l1 l2 : Int) (s : List (RowT intK)) (d0 d1 d2 d3 : ByteArray) (w0 : -9223372036854775808 ≤ l0 ∧ l0 ≤ 9223372036854775807) (w1 : -9223372036854775808 ≤ l1 ∧ l1 ≤ 9223372036854775807) (w2 : -9223372036854775808 ≤ l2 ∧ l2 ≤ 9223372036854775807) (s0 : d0.size ≤ 600) (s1 : d1.size ≤ 600) (s2 : d2.size ≤ 600) (s3 : d3.size ≤ 600) (hl : s.length ≤ 10) (he : 0 < s.length) (w3 : -9223372036854775808 ≤ (List.getD s 0 (RowT.dflt intK)).1 ∧ (List.getD s 0 (RowT.dflt intK)).1 ≤ 9223372036854775807) : ∃ q, (callX Try.prog (isEnv q) 400 3 [.agg [i l0, i l1, i l2], .oslc 0 1 0 s.length, .agg [str d0, str d1, str d2, str d3]] [⟨false, .rows intK s⟩] fin).Holds fun r => r.1 = b true := by
  have hz : zeros.length = 65536 := List.length_replicate
  have rp0 : rowsPre [] [] := RI.zero.pre (by simp)
  have rs0 : refB [] [] 0 65536 = readB zeros 0 65536 := RI.zero.read _ _
  by_cases hq : planC l0 l1 l2 (List.getD s 0 (RowT.dflt intK)).1 d0 d1 d2 = 0
  · obtain ⟨hy, hc, hh⟩ := planC_zero hq
    have T := Three.of hc
    have k := T.back
    have r1 := RI.zero.load T.c0 s0
    have r2 := r1.load T.c1 s1
    have r3 := r2.load T.c2 s2
    by_cases c : loadC [] l1 d3 = 0
    · exact ⟨14, is_111 l0 l1 l2 s d0 d1 d2 d3 w0 w1 w2 s0 s1 s2 s3 hl he w3 _ _ rfl (planS_planC _ _ _ _ _ _ _) rfl hz rfl rfl rfl c (RI.zero.load c s3).length hq T.c0 T.c1 T.c2 k.n3 (k.right hh) (r3.pre (by simp)) (r3.read _ _)⟩
    · exact ⟨13, is_110 l0 l1 l2 s d0 d1 d2 d3 w0 w1 w2 s0 s1 s2 s3 hl he w3 _ _ rfl (planS_planC _ _ _ _ _ _ _) rfl hz rfl rfl rfl c hq T.c0 T.c1 T.c2 k.n3 (k.right hh) (r3.pre (by simp)) (r3.read _ _)⟩
  · by_cases c : loadC [] l1 d3 = 0
    · exact ⟨14, is_101 l0 l1 l2 s d0 d1 d2 d3 w0 w1 w2 s0 s1 s2 s3 hl he w3 _ _ rfl (planS_planC _ _ _ _ _ _ _) rfl hz rfl rfl rfl c (RI.zero.load c s3).length hq rp0 rs0⟩
    · exact ⟨13, is_100 l0 l1 l2 s d0 d1 d2 d3 w0 w1 w2 s0 s1 s2 s3 hl he w3 _ _ rfl (planS_planC _ _ _ _ _ _ _) rfl hz rfl rfl rfl c hq rp0 rs0⟩
def isL : List CK := [.int .i64, .int .i64, .int .i64]
def isD : List CK := [.str, .str, .str, .str]
theorem i64_is {n : Int} (h : (Lit.int .i64 n).wf = true) : -9223372036854775808 ≤ n ∧ n ≤ 9223372036854775807 := by
  simp [Lit.wf, IntKind.min, IntKind.max, IntKind.signed, IntKind.bits] at h
  exact h
theorem open_flatA {H : Type} {enc : TypeId × Value → H} {P : Program} {w W : World} {base b0 : Nat} {spare : Nat → Bool} {held : Bool} {rr : Reach} {t e : TypeId} {n d : Nat} {ks : List CK} {v : Value} {dd : DataW H} {ps : List MemPlace} (hk : flatK P d t = some ks) (hu : P.underlying t = some (.array n e)) (hval : Value.okWide P W rr b0 t v) (h : DataW.Trod enc P w base spare held t v dd ps) :
    ∃ r : RowT ks, v = .agg (rowV ks r).toArray ∧ RowWF ks r := by
  have hcs : ∃ cs, v = .agg cs := by
    simp only [Value.okWide, hu] at hval
    obtain ⟨cs, h1, _⟩ := hval
    exact ⟨cs, h1⟩
  obtain ⟨cs, rfl⟩ := hcs
  obtain ⟨fuel, hf⟩ := h
  obtain ⟨r, hr, hw⟩ := flat_typed d hk hf
  refine ⟨r, ?_, hw⟩
  simp only [Value.cells] at hr
  rw [← hr]
theorem look {ks : List CK} {W : World} {a : Option Addr} {len cap : Nat} (h : Sx.RowsIn ks W a len cap) : ∃ (l : List (RowT ks)) (r : Sx.Place), len = l.length ∧ (∀ x ∈ l, RowWF ks x) ∧ RowsOK W false r ks l ∧ (0 < l.length → r.1 < W.heap.size) ∧ ∀ (ρ : Sx.Loc) (j : Nat), ρ j = some r → Rel ρ (.oslc j ks.length 0 l.length) (.slice a len cap) := by
  rcases h.list with ⟨rfl, rfl⟩ | ⟨bl, o, l, rfl, rfl, h1, h2, h3, h4, h5⟩
  · refine ⟨[], ⟨0, 0, a, 0⟩, rfl, by simp, fun k x hk => by simp at hk, fun h => absurd h (Nat.lt_irrefl _), fun ρ j hj => ?_⟩
    simp only [Rel]
    exact ⟨_, hj, by simp, fun h => absurd h (Nat.lt_irrefl _)⟩
  · refine ⟨l, ⟨bl, o, some ⟨bl, o, none⟩, cap⟩, rfl, h4, h5, fun _ => h3, fun ρ j hj => ?_⟩
    simp only [Rel]
    refine ⟨_, hj, ?_, fun _ => ⟨rfl, by show 0 + l.length ≤ cap; omega⟩⟩
    by_cases hc : cap = 0 <;> simp [hc, Addr.add]
theorem look1 {W : World} {X : Nat → Prop} {k1 : List CK} {l1 : List (RowT k1)} {r1 : Sx.Place} (h1 : RowsOK W false r1 k1 l1) (g1 : 0 < l1.length → r1.1 < W.heap.size) : MemOK (fun i => ([r1] : List Sx.Place)[i]?) W X [⟨false, .rows k1 l1⟩] W := by
  refine ⟨fun i c hi => ?_, fun i hi => by simp at hi ⊢; omega, fun i j bi bj ri rj _ hbi _ hrw => ?_⟩
  · match i, hi with
    | 0, hi => simp at hi; subst hi; exact ⟨r1, rfl, h1, fun h => ⟨g1 h, fun e => by cases e⟩⟩
    | i + 1, hi => simp at hi
  · match i, hbi with
    | 0, hbi => simp at hbi; subst hbi; cases hrw
    | i + 1, hbi => simp at hbi
theorem loadIs_walk (W : World) (r : RowT isL) (hr : RowWF isL r) (a : Option Addr) (len cap : Nat) (h : Sx.RowsIn intK W a len cap) (q : RowT isD) (hq : RowWF isD q) : Calls Try.prog 3 #[.agg (rowV isL r).toArray, .slice a len cap, .agg (rowV isD q).toArray] W fun e w' => e = .returned (.bool true) ∧ RowKit.Below W.heap.size W w' := by
  have hno : ∀ e ∈ isEntries, e.1 ≠ 3 := by simp [isEntries, awakeE, ePlaces, ePlan, eRPlan, eNew, eLoad, eLoad0, eIntoN, eInto, eInto0, eXLoad, eXLoad0, eSpans, eSpans0, eSame, eRead, eRead0, eXRead, eXRead0, eRightN, eRight, eRight0, pureE, needE, padE, frameE, toldE, altE, guardE]
  obtain ⟨l, r0, rfl, hw, h3, h4, h5⟩ := look h
  have key : ∃ n, (callX Try.prog (isEnv n) 400 3 [.agg [i r.1, i r.2.1, i r.2.2.1], .oslc 0 1 0 l.length, .agg [str q.1, str q.2.1, str q.2.2.1, str q.2.2.2.1]] [⟨false, .rows intK l⟩] fin).Holds fun r => r.1 = b true := by
    by_cases hg : 600 < q.1.size ∨ 600 < q.2.1.size ∨ 600 < q.2.2.1.size ∨ 600 < q.2.2.2.1.size ∨ 10 < l.length
    · exact ⟨13, is_out r.1 r.2.1 r.2.2.1 l q.1 q.2.1 q.2.2.1 q.2.2.2.1 hg⟩
    · have g1 : q.1.size ≤ 600 := by omega
      have g2 : q.2.1.size ≤ 600 := by omega
      have g3 : q.2.2.1.size ≤ 600 := by omega
      have g4 : q.2.2.2.1.size ≤ 600 := by omega
      have g5 : l.length ≤ 10 := by omega
      by_cases h0 : l.length = 0
      · exact is_0 r.1 r.2.1 r.2.2.1 l q.1 q.2.1 q.2.2.1 q.2.2.2.1 (i64_is hr.1) (i64_is hr.2.1) (i64_is hr.2.2.1) g1 g2 g3 g4 g5 h0 (i64_is hr.1)
      · have hm : List.getD l 0 (RowT.dflt intK) ∈ l := by
          rw [List.getD_eq_getElem?_getD, List.getElem?_eq_getElem (by omega)]; exact List.getElem_mem _
        exact is_1 r.1 r.2.1 r.2.2.1 l q.1 q.2.1 q.2.2.1 q.2.2.2.1 (i64_is hr.1) (i64_is hr.2.1) (i64_is hr.2.2.1) g1 g2 g3 g4 g5 (by omega) (i64_is (hw _ hm).1)
  obtain ⟨n, hk⟩ := key
  exact law_calls hng hmix (Γ := isEnv n) (EnvOK.of isEntries_ok) 400 3 (fn := Try.f3) (by kernel_rfl) (by kernel_rfl) (lookE_none hno) (args := [.agg (rowSV isL r), .oslc 0 1 0 l.length, .agg (rowSV isD q)]) (mem := [⟨false, .rows intK l⟩]) (ρ := fun i => ([r0] : List Sx.Place)[i]?)
    (look1 h3 h4) (.cons (by simp only [Rel]; exact ⟨_, row_rel isL r, rfl⟩) (.cons (h5 _ 0 rfl) (.cons (by simp only [Rel]; exact ⟨_, row_rel isD q, rfl⟩) .nil))) hk
end Go.Proofs.Ytnmmicnlpjmciaa
