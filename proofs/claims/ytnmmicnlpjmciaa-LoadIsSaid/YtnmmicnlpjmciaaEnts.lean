/-
  The entries for the rows on loading; what must come whatever the arguments are.
-/
import Derived.Test.YtnmmicnlpjmciaaInto
set_option linter.unusedVariables false
set_option linter.unusedSimpArgs false
namespace Go.Proofs.Ytnmmicnlpjmciaa
open Sx
set_option maxRecDepth 100000
set_option maxHeartbeats 4000000
def intoPre (all : List (RowT byteK)) (sp : List (RowT spanK)) (l0 l1 l2 en : Int) (d0 d1 d2 : ByteArray) : Prop := all.length = 65536 ∧ sp.length ≤ 100 ∧ d0.size ≤ 600 ∧ d1.size ≤ 600 ∧ d2.size ≤ 600 ∧ (-9223372036854775808 ≤ l0 ∧ l0 ≤ 9223372036854775807) ∧ (-9223372036854775808 ≤ l1 ∧ l1 ≤ 9223372036854775807) ∧ (-9223372036854775808 ≤ l2 ∧ l2 ≤ 9223372036854775807) ∧ (-9223372036854775808 ≤ en ∧ en ≤ 9223372036854775807)
theorem intoPre_mk {all : List (RowT byteK)} {sp : List (RowT spanK)} {l0 l1 l2 en : Int} {d0 d1 d2 : ByteArray} (h0 : all.length = 65536) (h1 : sp.length ≤ 100) (s0 : d0.size ≤ 600) (s1 : d1.size ≤ 600) (s2 : d2.size ≤ 600) (w0 : -9223372036854775808 ≤ l0 ∧ l0 ≤ 9223372036854775807) (w1 : -9223372036854775808 ≤ l1 ∧ l1 ≤ 9223372036854775807) (w2 : -9223372036854775808 ≤ l2 ∧ l2 ≤ 9223372036854775807) (w3 : -9223372036854775808 ≤ en ∧ en ≤ 9223372036854775807) : intoPre all sp l0 l1 l2 en d0 d1 d2 := ⟨h0, h1, s0, s1, s2, w0, w1, w2, w3⟩
def intoT (slot l0 l1 l2 en : Int) (d0 d1 d2 : ByteArray) : Tr (SV × List Blk) := .br (decide (planC l0 l1 l2 en d0 d1 d2 = 0)) (.ok (intoY slot l0 l1 l2 en d0 d1 d2)) (.ok (intoN (planC l0 l1 l2 en d0 d1 d2)))
/-- what is known when all may be loaded -/
theorem planC_zero {l0 l1 l2 en : Int} {d0 d1 d2 : ByteArray} (h : planC l0 l1 l2 en d0 d1 d2 = 0) : (0 < d0.size ∧ 0 < d1.size ∧ 0 < d2.size) ∧ checkF [] [one l0 d0.size, one l1 d1.size, one l2 d2.size] = 0 ∧ (l0 ≤ en ∧ en < l0 + d0.size) := by
  unfold planC at h
  split at h
  · cases h
  · split at h
    · rename_i h1 h2; exact absurd h h2
    · split at h
      · rename_i h1 h2 h3
        exact ⟨by omega, by simpa using h2, h3⟩
      · cases h
theorem into_tree (all : List (RowT byteK)) (sp : List (RowT spanK)) (slot l0 l1 l2 en : Int) (d0 d1 d2 : ByteArray) (h : intoPre all sp l0 l1 l2 en d0 d1 d2) : (callX Try.prog iEnv 400 12 [.ptr 0 0, i slot, .agg (chCells l0 l1 l2 en), .agg [str d0, str d1, str d2]] (ramMem all sp) fin).Holds (Post 3 (intoT slot l0 l1 l2 en d0 d1 d2)) := by
  obtain ⟨h0, h1, s0, s1, s2, w0, w1, w2, w3⟩ := h
  have hc0 : checkF [] [one l0 d0.size, one l1 d1.size, one l2 d2.size] = 0 → 0 ≤ l0 ∧ l0 + d0.size ≤ 65536 := fun h => ⟨(Three.of h).back.b0.1, (Three.of h).back.b0.2.1⟩
  by_cases hp : planC l0 l1 l2 en d0 d1 d2 = 0
  · obtain ⟨hy, hc, hh⟩ := planC_zero hp
    have ht := Three.of hc
    have hb := ht.back
    exact Tr.Holds.mono (into_yes all sp slot l0 l1 l2 en d0 d1 d2 h0 h1 s0 s1 s2 w0 w1 w2 w3 _ rfl hc0 repl_len hy hc hh ht.c0 ht.c1 ht.c2 hb.n1 hb.n2) fun r hr => Post.yes (decide_eq_true hp) hr
  · exact Tr.Holds.mono (into_no all sp slot l0 l1 l2 en d0 d1 d2 h0 h1 s0 s1 s2 w0 w1 w2 w3 _ rfl hc0 repl_len _ rfl hp rfl) fun r hr => Post.no (decide_eq_false hp) hr
def intOf : Option SV → Option Int
  | some (.v (.int _ n)) => some n
  | _ => none
def chOf (cs : List SV) : Option (Int × Int × Int × Int) := (intOf cs[11]?).bind fun l0 => (intOf cs[18]?).bind fun l1 => (intOf cs[25]?).bind fun l2 => (intOf cs[12]?).map fun en => (l0, l1, l2, en)
def intoG (args : List SV) (mem : List Blk) : Option (Tr (SV × List Blk)) := match args with
  | [.ptr 0 0, .v (.int .i64 slot), .agg cs, .agg [.v (.string d0), .v (.string d1), .v (.string d2)]] => (ramOf mem).bind fun r => (chOf cs).map fun q => .need (r.1 = r.2.2.length ∧ cs = chCells q.1 q.2.1 q.2.2.1 q.2.2.2) (.need (intoPre r.2.1 r.2.2 q.1 q.2.1 q.2.2.1 q.2.2.2 d0 d1 d2) (intoT slot q.1 q.2.1 q.2.2.1 q.2.2.2 d0 d1 d2))
  | _ => none
def eInto0 : Entry := frameE [] (toldE 12 intoG)
theorem into0_ok : EntryOK Try.prog eInto0 := frameE_ok (toldE_ok hng hmix (l := iEntries) (cut := noCut) (wr := iWr) iEntries_ok 400 12 Try.func12 (by kernel_rfl) (by simp [iEntries, eNew, eLoad, eLoad0, eCheck, eCheck0, eClear, eClear0, padE, frameE, toldE]) (by
  intro args mem T hT R hR
  unfold intoG at hT
  split at hT
  · obtain ⟨⟨m, all, sp⟩, hr, hT⟩ := Option.bind_eq_some_iff.1 hT
    obtain ⟨⟨l0, l1, l2, en⟩, hq, rfl⟩ := Option.map_eq_some_iff.1 hT
    obtain ⟨⟨hm, hcs⟩, hR⟩ := hR
    have hp := (hR ⟨hm, hcs⟩).1
    obtain rfl := ramOf_some hr hm
    simp only at hcs
    subst hcs
    exact Tr.Holds.mono (into_tree _ _ _ _ _ _ _ _ _ _ hp) fun r h => Post.need2 h
  · cases hT))
def eInto : Entry := padE (padC 0 1 32 spanK) eInto0
theorem intoE_ok : EntryOK Try.prog eInto := padE_ok (padC_ok 0 1 32 spanK) into0_ok
def rgEntries : List Entry := [eRead]
theorem rgEntries_ok : ∀ e ∈ rgEntries, EntryOK Try.prog e := by intro e he; simp only [rgEntries, List.mem_cons, List.not_mem_nil, or_false] at he; subst he; exact read_ok
theorem right_tree (all : List (RowT byteK)) (sp : List (RowT spanK)) (slot v en tr a0 n0 a1 n1 a2 n2 : Int) (d0 d1 d2 : ByteArray) (h0 : all.length = 65536) (w0 : 0 ≤ a0 ∧ a0 ≤ 65536) (w1 : 0 ≤ a1 ∧ a1 ≤ 65536) (w2 : 0 ≤ a2 ∧ a2 ≤ 65536) (r0 : readB all a0 n0 = d0) (r1 : readB all a1 n1 = d1) (r2 : readB all a2 n2 = d2) (c0 : readC a0 n0 = 0) (c1 : readC a1 n1 = 0) (c2 : readC a2 n2 = 0) (hh : a0 ≤ en ∧ en < a0 + n0) (hn : n0 ≤ 65536) (ht : tr = a2) : (callX Try.prog (Env.of rgEntries noCut noWr) 400 18 [.ptr 0 0, .agg [i slot, i v, i en, i tr, i a0, i n0, i a1, i n1, i a2, i n2], .agg [str d0, str d1, str d2]] (ramMem all sp) fin).Holds (Post 3 (.ok (b true, ramMem all sp))) := by
  refine Tr.needH [.run 2] (cs := []) (p := List.length sp = List.length sp) (by kernel_rfl) trivial (by first | ((with_reducible refine readPre_mk ?_ ?_ ?_); exact h0; all_goals omega) | (exact rfl) | (((try simp only [r0, r1, r2, c0, c1, c2, beq_self_eq_true, bne_self_eq_false, Bool.not_true] at *); (try simp only [q1, beq_iff_eq, beq_eq_false_iff_ne, ne_eq, bne_iff_ne, bne_eq_false_iff_eq, ge_iff_le, gt_iff_lt, if_true, if_false, reduceIte, nadd_eq, true_eq_decide_iff, false_eq_decide_iff, List.drop_zero, List.take_length, Nat.zero_add, Int.toNat_natCast] at *); (try simp (disch := omega) only [wrapId] at *); first | done | omega | (simp_all; done) | (simp_all; omega)))) ?_
  refine Tr.needH [] (cs := []) (p := readPre all a0) (by kernel_rfl) trivial (by first | ((with_reducible refine readPre_mk ?_ ?_ ?_); exact h0; all_goals omega) | (exact rfl) | (((try simp only [r0, r1, r2, c0, c1, c2, beq_self_eq_true, bne_self_eq_false, Bool.not_true] at *); (try simp only [q1, beq_iff_eq, beq_eq_false_iff_ne, ne_eq, bne_iff_ne, bne_eq_false_iff_eq, ge_iff_le, gt_iff_lt, if_true, if_false, reduceIte, nadd_eq, true_eq_decide_iff, false_eq_decide_iff, List.drop_zero, List.take_length, Nat.zero_add, Int.toNat_natCast] at *); (try simp (disch := omega) only [wrapId] at *); first | done | omega | (simp_all; done) | (simp_all; omega)))) ?_
  have g0 : (readC a0 n0 != (0 : Int)) = false := by ((try simp only [r0, r1, r2, c0, c1, c2, beq_self_eq_true, bne_self_eq_false, Bool.not_true] at *); (try simp only [q1, beq_iff_eq, beq_eq_false_iff_ne, ne_eq, bne_iff_ne, bne_eq_false_iff_eq, ge_iff_le, gt_iff_lt, if_true, if_false, reduceIte, nadd_eq, true_eq_decide_iff, false_eq_decide_iff, List.drop_zero, List.take_length, Nat.zero_add, Int.toNat_natCast] at *); (try simp (disch := omega) only [wrapId] at *); first | done | omega | (simp_all; done) | (simp_all; omega))
  refine Tr.needH [.no, .run 4] (cs := [(_, false)]) (p := List.length sp = List.length sp) (by kernel_rfl) ⟨g0, trivial⟩ (by first | ((with_reducible refine readPre_mk ?_ ?_ ?_); exact h0; all_goals omega) | (exact rfl) | (((try simp only [r0, r1, r2, c0, c1, c2, beq_self_eq_true, bne_self_eq_false, Bool.not_true] at *); (try simp only [q1, beq_iff_eq, beq_eq_false_iff_ne, ne_eq, bne_iff_ne, bne_eq_false_iff_eq, ge_iff_le, gt_iff_lt, if_true, if_false, reduceIte, nadd_eq, true_eq_decide_iff, false_eq_decide_iff, List.drop_zero, List.take_length, Nat.zero_add, Int.toNat_natCast] at *); (try simp (disch := omega) only [wrapId] at *); first | done | omega | (simp_all; done) | (simp_all; omega)))) ?_
  refine Tr.needH [] (cs := []) (p := readPre all a1) (by kernel_rfl) trivial (by first | ((with_reducible refine readPre_mk ?_ ?_ ?_); exact h0; all_goals omega) | (exact rfl) | (((try simp only [r0, r1, r2, c0, c1, c2, beq_self_eq_true, bne_self_eq_false, Bool.not_true] at *); (try simp only [q1, beq_iff_eq, beq_eq_false_iff_ne, ne_eq, bne_iff_ne, bne_eq_false_iff_eq, ge_iff_le, gt_iff_lt, if_true, if_false, reduceIte, nadd_eq, true_eq_decide_iff, false_eq_decide_iff, List.drop_zero, List.take_length, Nat.zero_add, Int.toNat_natCast] at *); (try simp (disch := omega) only [wrapId] at *); first | done | omega | (simp_all; done) | (simp_all; omega)))) ?_
  have g1 : (readC a1 n1 != (0 : Int)) = false := by ((try simp only [r0, r1, r2, c0, c1, c2, beq_self_eq_true, bne_self_eq_false, Bool.not_true] at *); (try simp only [q1, beq_iff_eq, beq_eq_false_iff_ne, ne_eq, bne_iff_ne, bne_eq_false_iff_eq, ge_iff_le, gt_iff_lt, if_true, if_false, reduceIte, nadd_eq, true_eq_decide_iff, false_eq_decide_iff, List.drop_zero, List.take_length, Nat.zero_add, Int.toNat_natCast] at *); (try simp (disch := omega) only [wrapId] at *); first | done | omega | (simp_all; done) | (simp_all; omega))
  refine Tr.needH [.no, .run 6] (cs := [(_, false)]) (p := List.length sp = List.length sp) (by kernel_rfl) ⟨g1, trivial⟩ (by first | ((with_reducible refine readPre_mk ?_ ?_ ?_); exact h0; all_goals omega) | (exact rfl) | (((try simp only [r0, r1, r2, c0, c1, c2, beq_self_eq_true, bne_self_eq_false, Bool.not_true] at *); (try simp only [q1, beq_iff_eq, beq_eq_false_iff_ne, ne_eq, bne_iff_ne, bne_eq_false_iff_eq, ge_iff_le, gt_iff_lt, if_true, if_false, reduceIte, nadd_eq, true_eq_decide_iff, false_eq_decide_iff, List.drop_zero, List.take_length, Nat.zero_add, Int.toNat_natCast] at *); (try simp (disch := omega) only [wrapId] at *); first | done | omega | (simp_all; done) | (simp_all; omega)))) ?_
  refine Tr.needH [] (cs := []) (p := readPre all a2) (by kernel_rfl) trivial (by first | ((with_reducible refine readPre_mk ?_ ?_ ?_); exact h0; all_goals omega) | (exact rfl) | (((try simp only [r0, r1, r2, c0, c1, c2, beq_self_eq_true, bne_self_eq_false, Bool.not_true] at *); (try simp only [q1, beq_iff_eq, beq_eq_false_iff_ne, ne_eq, bne_iff_ne, bne_eq_false_iff_eq, ge_iff_le, gt_iff_lt, if_true, if_false, reduceIte, nadd_eq, true_eq_decide_iff, false_eq_decide_iff, List.drop_zero, List.take_length, Nat.zero_add, Int.toNat_natCast] at *); (try simp (disch := omega) only [wrapId] at *); first | done | omega | (simp_all; done) | (simp_all; omega)))) ?_
  have g2 : (readC a2 n2 != (0 : Int)) = false := by ((try simp only [r0, r1, r2, c0, c1, c2, beq_self_eq_true, bne_self_eq_false, Bool.not_true] at *); (try simp only [q1, beq_iff_eq, beq_eq_false_iff_ne, ne_eq, bne_iff_ne, bne_eq_false_iff_eq, ge_iff_le, gt_iff_lt, if_true, if_false, reduceIte, nadd_eq, true_eq_decide_iff, false_eq_decide_iff, List.drop_zero, List.take_length, Nat.zero_add, Int.toNat_natCast] at *); (try simp (disch := omega) only [wrapId] at *); first | done | omega | (simp_all; done) | (simp_all; omega))
  have g3 : (readB all a0 n0 == d0 && (readB all a1 n1 == d1 && (readB all a2 n2 == d2 && true))) = true := by ((try simp only [r0, r1, r2, c0, c1, c2, beq_self_eq_true, bne_self_eq_false, Bool.not_true] at *); (try simp only [q1, beq_iff_eq, beq_eq_false_iff_ne, ne_eq, bne_iff_ne, bne_eq_false_iff_eq, ge_iff_le, gt_iff_lt, if_true, if_false, reduceIte, nadd_eq, true_eq_decide_iff, false_eq_decide_iff, List.drop_zero, List.take_length, Nat.zero_add, Int.toNat_natCast] at *); (try simp (disch := omega) only [wrapId] at *); first | done | omega | (simp_all; done) | (simp_all; omega))
  have g4 : (decide (en ≥ a0)) = true := by ((try simp only [r0, r1, r2, c0, c1, c2, beq_self_eq_true, bne_self_eq_false, Bool.not_true] at *); (try simp only [q1, beq_iff_eq, beq_eq_false_iff_ne, ne_eq, bne_iff_ne, bne_eq_false_iff_eq, ge_iff_le, gt_iff_lt, if_true, if_false, reduceIte, nadd_eq, true_eq_decide_iff, false_eq_decide_iff, List.drop_zero, List.take_length, Nat.zero_add, Int.toNat_natCast] at *); (try simp (disch := omega) only [wrapId] at *); first | done | omega | (simp_all; done) | (simp_all; omega))
  have g5 : (decide (IntKind.wrap IntKind.i64 (en - a0) < n0)) = true := by ((try simp only [r0, r1, r2, c0, c1, c2, beq_self_eq_true, bne_self_eq_false, Bool.not_true] at *); (try simp only [q1, beq_iff_eq, beq_eq_false_iff_ne, ne_eq, bne_iff_ne, bne_eq_false_iff_eq, ge_iff_le, gt_iff_lt, if_true, if_false, reduceIte, nadd_eq, true_eq_decide_iff, false_eq_decide_iff, List.drop_zero, List.take_length, Nat.zero_add, Int.toNat_natCast] at *); (try simp (disch := omega) only [wrapId] at *); first | done | omega | (simp_all; done) | (simp_all; omega))
  exact Tr.postH [.no, .run 4, .yes, .run 6, .yes, .run 8, .yes, .run 10] (cs := [(_, false), (_, true), (_, true), (_, true)]) (by kernel_rfl) ⟨g2, g3, g4, g5, trivial⟩ ((b true, ramMem all sp)) (fun _ h => h) [0, 1, 2] (by kernel_rfl) (q := Value.bool (tr == a2) = Value.bool true ∧ true = true ∧ ((1 : Nat), (1 : Nat), (0 : Nat), (65536 : Nat)) = ((1 : Nat), (1 : Nat), (0 : Nat), (65536 : Nat)) ∧ ((2 : Nat), (2 : Nat), (0 : Nat), List.length sp) = ((2 : Nat), (2 : Nat), (0 : Nat), List.length sp) ∧ Body.own (5 : TypeId) byteK all = Body.own (5 : TypeId) byteK all ∧ true = true ∧ Body.own (32 : TypeId) spanK sp = Body.own (32 : TypeId) spanK sp ∧ true = true ∧ True) (by kernel_rfl) (by (repeat' apply And.intro) <;> first | rfl | exact True.intro | (refine congrArg Value.bool ?_; ((try simp only [r0, r1, r2, c0, c1, c2, beq_self_eq_true, bne_self_eq_false, Bool.not_true] at *); (try simp only [q1, beq_iff_eq, beq_eq_false_iff_ne, ne_eq, bne_iff_ne, bne_eq_false_iff_eq, ge_iff_le, gt_iff_lt, if_true, if_false, reduceIte, nadd_eq, true_eq_decide_iff, false_eq_decide_iff, List.drop_zero, List.take_length, Nat.zero_add, Int.toNat_natCast] at *); (try simp (disch := omega) only [wrapId] at *); first | done | omega | (simp_all; done) | (simp_all; omega))) | (simp_all; done))
structure RightPre (all : List (RowT byteK)) (en tr a0 n0 a1 n1 a2 n2 : Int) (d0 d1 d2 : ByteArray) : Prop where
  h0 : all.length = 65536
  w0 : 0 ≤ a0 ∧ a0 ≤ 65536
  w1 : 0 ≤ a1 ∧ a1 ≤ 65536
  w2 : 0 ≤ a2 ∧ a2 ≤ 65536
  r0 : readB all a0 n0 = d0
  r1 : readB all a1 n1 = d1
  r2 : readB all a2 n2 = d2
  c0 : readC a0 n0 = 0
  c1 : readC a1 n1 = 0
  c2 : readC a2 n2 = 0
  hh : a0 ≤ en ∧ en < a0 + n0
  hn : n0 ≤ 65536
  ht : tr = a2
theorem Back.right {l0 l1 l2 en : Int} {d0 d1 d2 : ByteArray} (k : Back l0 l1 l2 d0 d1 d2) (hh : l0 ≤ en ∧ en < l0 + d0.size) : RightPre (A3 l0 l1 l2 d0 d1 d2) en l2 l0 d0.size l1 d1.size l2 d2.size d0 d1 d2 :=
  ⟨k.n3, ⟨k.b0.1, by have := k.b0.2.1; omega⟩, ⟨k.b1.1, by have := k.b1.2.1; omega⟩, ⟨k.b2.1, by have := k.b2.2.1; omega⟩, k.r0, k.r1, k.r2, k.i0, k.i1, k.i2, hh, by have := k.b0.2.1; have := k.b0.1; omega, rfl⟩
def rightG (args : List SV) (mem : List Blk) : Option (Tr (SV × List Blk)) := match args with
  | [.ptr 0 0, .agg [.v (.int .i64 slot), .v (.int .i64 v), .v (.int .i64 en), .v (.int .i64 tr), .v (.int .i64 a0), .v (.int .i64 n0), .v (.int .i64 a1), .v (.int .i64 n1), .v (.int .i64 a2), .v (.int .i64 n2)], .agg [.v (.string d0), .v (.string d1), .v (.string d2)]] => (ramOf mem).map fun r => .need (r.1 = r.2.2.length) (.need (RightPre r.2.1 en tr a0 n0 a1 n1 a2 n2 d0 d1 d2) (.ok (b true, ramMem r.2.1 r.2.2)))
  | _ => none
def eRight : Entry := frameE [] (toldE 18 rightG)
theorem right_ok : EntryOK Try.prog eRight := frameE_ok (toldE_ok hng hmix (l := rgEntries) (cut := noCut) (wr := noWr) rgEntries_ok 400 18 Try.func18 (by kernel_rfl) (by simp [rgEntries, eRead, eRead0, padE, frameE, toldE]) (by
  intro args mem T hT R hR
  unfold rightG at hT
  split at hT
  · obtain ⟨⟨m, all, sp⟩, hr, rfl⟩ := Option.map_eq_some_iff.1 hT
    obtain ⟨hm, hR⟩ := hR
    have k := (hR hm).1
    obtain rfl := ramOf_some hr hm
    exact Tr.Holds.mono (right_tree all sp _ _ _ _ _ _ _ _ _ _ _ _ _ k.h0 k.w0 k.w1 k.w2 k.r0 k.r1 k.r2 k.c0 k.c1 k.c2 k.hh k.hn k.ht) fun r h => Post.need2 h
  · cases hT))
def lEntries : List Entry := [ePlaces, eNew, eInto, eRead, eSpans, eCheck, eMeet, eLoad, eRight]
theorem lEntries_ok : ∀ e ∈ lEntries, EntryOK Try.prog e := by
  intro e he
  simp only [lEntries, List.mem_cons, List.not_mem_nil, or_false] at he
  rcases he with rfl | rfl | rfl | rfl | rfl | rfl | rfl | rfl | rfl
  · exact places_ok
  · exact new_ok
  · exact intoE_ok
  · exact read_ok
  · exact spans_ok
  · exact check_ok
  · exact meet_ok
  · exact load_ok
  · exact right_ok
def awWr : FuncId → Nat → List Nat := fun f r => if f = 6 ∧ r = 3 then [0, 1, 2] else if f = 4 ∧ r = 4 then [2, 3, 4] else []
def dKer : ByteArray := ⟨#[107, 101, 114, 110, 101, 108]⟩
def dDisk : ByteArray := ⟨#[100, 105, 115, 107]⟩
def dTree : ByteArray := ⟨#[116, 114, 101, 101]⟩
theorem aw_plan : planC 8192 9000 9500 8194 dKer dDisk dTree = 0 := by kernel_rfl
theorem aw_back : Back 8192 9000 9500 dKer dDisk dTree := (Three.of (planC_zero aw_plan).2.1).back
theorem aw_hh : (8192 : Int) ≤ 8194 ∧ (8194 : Int) < 8192 + dKer.size := by decide
theorem a3len : (A3 8192 9000 9500 ⟨#[107, 101, 114, 110, 101, 108]⟩ ⟨#[100, 105, 115, 107]⟩ ⟨#[116, 114, 101, 101]⟩).length = 65536 := aw_back.n3
end Go.Proofs.Ytnmmicnlpjmciaa
