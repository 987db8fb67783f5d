/-
  Where any part is, and the parts of slots (postilionlaw25.LayoutIs); no byte is of two parts, and all are in the flash (postilionlaw25.LayoutApart): for every input the laws return true.
-/
import Derived.Test.YtaockbenmamgeaaBase
set_option linter.unusedVariables false
set_option linter.unusedSimpArgs false
namespace Go.Proofs.Ytaockbenmamgeaa
open Sx
set_option maxRecDepth 100000
set_option maxHeartbeats 4000000
def pure0 (x : SV) : List SV → Option SV := fun args => match args with | [] => some x | _ => none
def eAwake : Entry := pureE 7 (pure0 (b true))
theorem awake_ok : EntryOK Try.prog eAwake :=
  pureE_ok hng hmix (l := tEntries) (cut := noCut) (wr := noWr) tEntries_ok 400 7 Try.func7 rfl (by simp [tEntries, eTable, eFind, frameE, toldE]) (by
    intro args s h
    unfold pure0 at h
    split at h
    · cases h; exact ⟨rfl, rfl, awake_tree.out⟩
    · cases h)
def strF (f : ByteArray → SV) : List SV → Option SV := fun args => match args with | [.v (.string s)] => some (f s) | _ => none
theorem strF_some {f : ByteArray → SV} {P : List SV → SV → Prop} (h : ∀ s, P [str s] (f s)) : ∀ args x, strF f args = some x → P args x := by
  intro args x hx
  unfold strF at hx
  split at hx
  · cases hx; exact h _
  · cases hx
def spanV (s : ByteArray) : SV := .agg [i (pAt s), i (pN s)]
theorem span_tree (s : ByteArray) : (callX Try.prog tEnv 400 6 [str s] [] fin).Holds fun r => r.1 = spanV s := by
  have e1 : IntKind.i64.wrap (pFirst s * 512) = pAt s := by
    simp only [pFirst, pAt]; ((cases n0.toList == s.toList) <;> (cases n1.toList == s.toList) <;> (cases n2.toList == s.toList) <;> (cases n3.toList == s.toList) <;> (cases n4.toList == s.toList) <;> (cases n5.toList == s.toList)) <;> rfl
  have e2 : IntKind.i64.wrap (pMany s * 512) = pN s := by
    simp only [pMany, pN]; ((cases n0.toList == s.toList) <;> (cases n1.toList == s.toList) <;> (cases n2.toList == s.toList) <;> (cases n3.toList == s.toList) <;> (cases n4.toList == s.toList) <;> (cases n5.toList == s.toList)) <;> rfl
  refine Tr.needH [] (cs := []) (p := partsL = partsL) (by kernel_rfl) trivial (by first | rfl | decide | ((repeat' apply And.intro) <;> first | trivial | omega | (simp at *; omega) | (simp; done) | decide)) ?_
  exact Tr.endH [] (cs := []) (Prod.fst) (y := SV.agg [SV.v (Value.int IntKind.i64 (IntKind.wrap IntKind.i64 (pFirst s * (512 : Int)))), SV.v (Value.int IntKind.i64 (IntKind.wrap IntKind.i64 (pMany s * (512 : Int))))]) (by kernel_rfl) trivial (fun a ha => ha.trans (by simp only [e1, e2]; rfl))
def eSpan : Entry := pureE 6 (strF spanV)
theorem span_ok : EntryOK Try.prog eSpan :=
  pureE_ok hng hmix (l := tEntries) (cut := noCut) (wr := noWr) tEntries_ok 400 6 Try.func6 rfl (by simp [tEntries, eTable, eFind, frameE, toldE]) (strF_some fun s => ⟨rfl, rfl, (span_tree s).out⟩)
theorem rspan_tree (s : ByteArray) : (callX Try.prog (Env.of [] noCut noWr) 400 8 [str s] [] fin).Holds fun r => r.1 = spanV s := by
  rcases Bool.eq_false_or_eq_true (ByteArray.toList (ByteArray.mk #[(98 : UInt8), (111 : UInt8), (111 : UInt8), (116 : UInt8), (46 : UInt8), (97 : UInt8)]) == ByteArray.toList s) with g0 | g0
  · skip
    exact Tr.endH [.run 2, .yes, .run 3] (cs := [(_, true)]) (Prod.fst) (y := SV.agg [SV.v (Value.int IntKind.i64 (0 : Int)), SV.v (Value.int IntKind.i64 (1024 : Int))]) (by kernel_rfl) ⟨g0, trivial⟩ (fun a ha => ha.trans (by simp only [spanV, pAt, pN, n0, n1, n2, n3, n4, n5, cond_true, cond_false, *]; rfl))
  · skip
    rcases Bool.eq_false_or_eq_true (ByteArray.toList (ByteArray.mk #[(98 : UInt8), (111 : UInt8), (111 : UInt8), (116 : UInt8), (46 : UInt8), (98 : UInt8)]) == ByteArray.toList s) with g1 | g1
    · skip
      exact Tr.endH [.run 2, .no, .run 3, .yes, .run 5] (cs := [(_, false), (_, true)]) (Prod.fst) (y := SV.agg [SV.v (Value.int IntKind.i64 (1024 : Int)), SV.v (Value.int IntKind.i64 (1024 : Int))]) (by kernel_rfl) ⟨g0, g1, trivial⟩ (fun a ha => ha.trans (by simp only [spanV, pAt, pN, n0, n1, n2, n3, n4, n5, cond_true, cond_false, *]; rfl))
    · skip
      rcases Bool.eq_false_or_eq_true (ByteArray.toList (ByteArray.mk #[(101 : UInt8), (110 : UInt8), (118 : UInt8), (46 : UInt8), (97 : UInt8)]) == ByteArray.toList s) with g2 | g2
      · skip
        exact Tr.endH [.run 2, .no, .run 3, .no, .run 4, .yes, .run 7] (cs := [(_, false), (_, false), (_, true)]) (Prod.fst) (y := SV.agg [SV.v (Value.int IntKind.i64 (2048 : Int)), SV.v (Value.int IntKind.i64 (512 : Int))]) (by kernel_rfl) ⟨g0, g1, g2, trivial⟩ (fun a ha => ha.trans (by simp only [spanV, pAt, pN, n0, n1, n2, n3, n4, n5, cond_true, cond_false, *]; rfl))
      · skip
        rcases Bool.eq_false_or_eq_true (ByteArray.toList (ByteArray.mk #[(101 : UInt8), (110 : UInt8), (118 : UInt8), (46 : UInt8), (98 : UInt8)]) == ByteArray.toList s) with g3 | g3
        · skip
          exact Tr.endH [.run 2, .no, .run 3, .no, .run 4, .no, .run 5, .yes, .run 9] (cs := [(_, false), (_, false), (_, false), (_, true)]) (Prod.fst) (y := SV.agg [SV.v (Value.int IntKind.i64 (2560 : Int)), SV.v (Value.int IntKind.i64 (512 : Int))]) (by kernel_rfl) ⟨g0, g1, g2, g3, trivial⟩ (fun a ha => ha.trans (by simp only [spanV, pAt, pN, n0, n1, n2, n3, n4, n5, cond_true, cond_false, *]; rfl))
        · skip
          rcases Bool.eq_false_or_eq_true (ByteArray.toList (ByteArray.mk #[(115 : UInt8), (108 : UInt8), (111 : UInt8), (116 : UInt8), (46 : UInt8), (97 : UInt8)]) == ByteArray.toList s) with g4 | g4
          · skip
            exact Tr.endH [.run 2, .no, .run 3, .no, .run 4, .no, .run 5, .no, .run 6, .yes, .run 11] (cs := [(_, false), (_, false), (_, false), (_, false), (_, true)]) (Prod.fst) (y := SV.agg [SV.v (Value.int IntKind.i64 (4096 : Int)), SV.v (Value.int IntKind.i64 (10240 : Int))]) (by kernel_rfl) ⟨g0, g1, g2, g3, g4, trivial⟩ (fun a ha => ha.trans (by simp only [spanV, pAt, pN, n0, n1, n2, n3, n4, n5, cond_true, cond_false, *]; rfl))
          · skip
            rcases Bool.eq_false_or_eq_true (ByteArray.toList (ByteArray.mk #[(115 : UInt8), (108 : UInt8), (111 : UInt8), (116 : UInt8), (46 : UInt8), (98 : UInt8)]) == ByteArray.toList s) with g5 | g5
            · skip
              exact Tr.endH [.run 2, .no, .run 3, .no, .run 4, .no, .run 5, .no, .run 6, .no, .run 7, .yes, .run 13] (cs := [(_, false), (_, false), (_, false), (_, false), (_, false), (_, true)]) (Prod.fst) (y := SV.agg [SV.v (Value.int IntKind.i64 (14336 : Int)), SV.v (Value.int IntKind.i64 (10240 : Int))]) (by kernel_rfl) ⟨g0, g1, g2, g3, g4, g5, trivial⟩ (fun a ha => ha.trans (by simp only [spanV, pAt, pN, n0, n1, n2, n3, n4, n5, cond_true, cond_false, *]; rfl))
            · skip
              exact Tr.endH [.run 2, .no, .run 3, .no, .run 4, .no, .run 5, .no, .run 6, .no, .run 7, .no, .run 1] (cs := [(_, false), (_, false), (_, false), (_, false), (_, false), (_, false)]) (Prod.fst) (y := SV.agg [SV.v (Value.int IntKind.i64 (0 : Int)), SV.v (Value.int IntKind.i64 (0 : Int))]) (by kernel_rfl) ⟨g0, g1, g2, g3, g4, g5, trivial⟩ (fun a ha => ha.trans (by simp only [spanV, pAt, pN, n0, n1, n2, n3, n4, n5, cond_true, cond_false, *]; rfl))
def eRSpan : Entry := pureE 8 (strF spanV)
theorem rspan_ok : EntryOK Try.prog eRSpan :=
  pureE_ok hng hmix (l := []) (cut := noCut) (wr := noWr) (by simp) 400 8 Try.func8 rfl (by simp) (strF_some fun s => ⟨rfl, rfl, (rspan_tree s).out⟩)
def sizeO (s : ByteArray) : SV × List Blk := (i (pN s), tabMem)
theorem size_tree (s : ByteArray) : (callX Try.prog tEnv 400 14 [.ptr 0 0, str s] tabMem fin).Holds (Post 2 (.ok (sizeO s))) := by
  have e2 : IntKind.i64.wrap (pMany s * 512) = pN s := by
    simp only [pMany, pN]; ((cases n0.toList == s.toList) <;> (cases n1.toList == s.toList) <;> (cases n2.toList == s.toList) <;> (cases n3.toList == s.toList) <;> (cases n4.toList == s.toList) <;> (cases n5.toList == s.toList)) <;> rfl
  refine Tr.needH [] (cs := []) (p := partsL = partsL) (by kernel_rfl) trivial (by first | rfl | decide | ((repeat' apply And.intro) <;> first | trivial | omega | (simp at *; omega) | (simp; done) | decide)) ?_
  exact Tr.postH [] (cs := []) (by kernel_rfl) trivial (sizeO s) (fun _ h => h) [0, 1] (by kernel_rfl) (q := Value.int IntKind.i64 (IntKind.wrap IntKind.i64 (pMany s * (512 : Int))) = Value.int IntKind.i64 (pN s) ∧ true = true ∧ ((1 : Nat), (3 : Nat), (0 : Nat), (6 : Nat)) = ((1 : Nat), (3 : Nat), (0 : Nat), (6 : Nat)) ∧ Body.own (28 : TypeId) partK partsL = Body.own (28 : TypeId) partK partsL ∧ true = true ∧ True) (by kernel_rfl) (by (repeat' apply And.intro) <;> first | rfl | trivial | (rw [e2]))
def eSize : Entry := frameE [] (toldE 14 (tabOf sizeO))
theorem size_ok : EntryOK Try.prog eSize := frameE_ok (toldE_ok hng hmix (l := tEntries) (cut := noCut) (wr := noWr) tEntries_ok 400 14 Try.func14 (by kernel_rfl) (by simp [tEntries, eTable, eFind, frameE, toldE]) (by
  intro args mem T hT R hR
  obtain ⟨s, rfl, rfl, h⟩ := tabOf_some hT hR
  exact Tr.Holds.mono (size_tree s) fun r hr => h _ _ hr))
def lEntries : List Entry := [eAwake, eSpan, eRSpan, eSize, eTable]
theorem lEntries_ok : ∀ e ∈ lEntries, EntryOK Try.prog e := by
  intro e he
  simp only [lEntries, List.mem_cons, List.not_mem_nil, or_false] at he
  rcases he with rfl | rfl | rfl | rfl | rfl
  · exact awake_ok
  · exact span_ok
  · exact rspan_ok
  · exact size_ok
  · exact table_ok
def lEnv : Env := Env.of lEntries noCut noWr
theorem pA0 : pAt ⟨#[98, 111, 111, 116, 46, 97]⟩ = 0 := by kernel_rfl
theorem pM0 : pN ⟨#[98, 111, 111, 116, 46, 97]⟩ = 1024 := by kernel_rfl
theorem pA1 : pAt ⟨#[98, 111, 111, 116, 46, 98]⟩ = 1024 := by kernel_rfl
theorem pM1 : pN ⟨#[98, 111, 111, 116, 46, 98]⟩ = 1024 := by kernel_rfl
theorem pA2 : pAt ⟨#[101, 110, 118, 46, 97]⟩ = 2048 := by kernel_rfl
theorem pM2 : pN ⟨#[101, 110, 118, 46, 97]⟩ = 512 := by kernel_rfl
theorem pA3 : pAt ⟨#[101, 110, 118, 46, 98]⟩ = 2560 := by kernel_rfl
theorem pM3 : pN ⟨#[101, 110, 118, 46, 98]⟩ = 512 := by kernel_rfl
theorem pA4 : pAt ⟨#[115, 108, 111, 116, 46, 97]⟩ = 4096 := by kernel_rfl
theorem pM4 : pN ⟨#[115, 108, 111, 116, 46, 97]⟩ = 10240 := by kernel_rfl
theorem pA5 : pAt ⟨#[115, 108, 111, 116, 46, 98]⟩ = 14336 := by kernel_rfl
theorem pM5 : pN ⟨#[115, 108, 111, 116, 46, 98]⟩ = 10240 := by kernel_rfl
theorem i64_of {t : Int} (h : (Lit.int .i64 t).wf = true) : -9223372036854775808 ≤ t ∧ t ≤ 9223372036854775807 := by
  simp [Lit.wf, IntKind.min, IntKind.max, IntKind.signed, IntKind.bits] at h
  exact h
end Go.Proofs.Ytaockbenmamgeaa
