/-
  Words for the layout's rows: the table, what is found in it, and what must come whatever the arguments are.
-/
import Derived.Test.YtaockbenmamgeaaSy
import Derived.Test.YtaockbenmamgeaaRows
set_option linter.unusedVariables false
set_option linter.unusedSimpArgs false
namespace Go.Proofs.Ytaockbenmamgeaa
open Sx
set_option maxRecDepth 100000
set_option maxHeartbeats 4000000
def i (n : Int) : SV := .v (.int .i64 n)
def b (n : Bool) : SV := .v (.bool n)
def str (s : ByteArray) : SV := .v (.string s)
def fin (s : SV) (mem : List Blk) : Tr (SV × List Blk) := .ok (s, mem)
def noCut : FuncId → Nat → Bool := fun _ _ => false
def noWr : FuncId → Nat → List Nat := fun _ _ => []
theorem wrapId {n : Int} (h0 : -9223372036854775808 ≤ n) (h1 : n ≤ 9223372036854775807) : IntKind.i64.wrap n = n := by
  simp [IntKind.wrap, IntKind.signed, IntKind.bits]; split <;> omega
theorem hng : NoNG Try.prog := by
  have h : (Try.prog.funcs.all fun fn => !(fn.name == "runtime.NumGoroutine")) = true := by kernel_rfl
  intro f fn hf
  have := Array.all_eq_true'.1 h fn (Array.mem_of_getElem? hf)
  simpa using this
theorem hmix : Try.prog.follows .mixedOrders = true := by kernel_rfl
def partK : List CK := [.str, .int .i64, .int .i64]
def n0 : ByteArray := ⟨#[98, 111, 111, 116, 46, 97]⟩
def n1 : ByteArray := ⟨#[98, 111, 111, 116, 46, 98]⟩
def n2 : ByteArray := ⟨#[101, 110, 118, 46, 97]⟩
def n3 : ByteArray := ⟨#[101, 110, 118, 46, 98]⟩
def n4 : ByteArray := ⟨#[115, 108, 111, 116, 46, 97]⟩
def n5 : ByteArray := ⟨#[115, 108, 111, 116, 46, 98]⟩
def partsL : List (RowT partK) := [(n0, 0, 2, ()), (n1, 2, 2, ()), (n2, 4, 1, ()), (n3, 5, 1, ()), (n4, 8, 20, ()), (n5, 28, 20, ())]
def tabMem : List Blk := [⟨true, .lit [.oslc 1 3 0 6]⟩, ⟨true, .own 28 partK partsL⟩]
def tableG (args : List SV) (mem : List Blk) : Option (Tr (SV × List Blk)) := match args, mem with
  | [], [] => some (.ok (.ptr 0 0, tabMem))
  | _, _ => none
theorem table_tree : (callX Try.prog (Env.of [] noCut noWr) 400 13 [] [] fin).Holds (Post 0 (.ok (.ptr 0 0, tabMem))) := by
  refine Tr.needH [.run 197] (cs := []) (p := (0 : Int) ≤ (0 : Int) ∧ (0 : Int) ≤ (0 : Int) ∧ (0 : Int) ≤ (6 : Int) ∧ (6 : Int) ≤ (6 : Int)) (by kernel_rfl) trivial (by first | rfl | decide | ((repeat' apply And.intro) <;> first | trivial | omega | (simp at *; omega) | (simp; done) | decide)) ?_
  refine Tr.needH [.run 6] (cs := []) (p := (0 : Int) ≤ (0 : Int) ∧ (0 : Int) ≤ (1 : Int) ∧ (1 : Int) ≤ (6 : Int) ∧ (6 : Int) ≤ (6 : Int)) (by kernel_rfl) trivial (by first | rfl | decide | ((repeat' apply And.intro) <;> first | trivial | omega | (simp at *; omega) | (simp; done) | decide)) ?_
  refine Tr.needH [.run 30] (cs := []) (p := (0 : Int) ≤ (0 : Int) ∧ (0 : Int) ≤ (2 : Int) ∧ (2 : Int) ≤ (6 : Int) ∧ (6 : Int) ≤ (6 : Int)) (by kernel_rfl) trivial (by first | rfl | decide | ((repeat' apply And.intro) <;> first | trivial | omega | (simp at *; omega) | (simp; done) | decide)) ?_
  refine Tr.needH [.run 55] (cs := []) (p := (0 : Int) ≤ (0 : Int) ∧ (0 : Int) ≤ (3 : Int) ∧ (3 : Int) ≤ (6 : Int) ∧ (6 : Int) ≤ (6 : Int)) (by kernel_rfl) trivial (by first | rfl | decide | ((repeat' apply And.intro) <;> first | trivial | omega | (simp at *; omega) | (simp; done) | decide)) ?_
  refine Tr.needH [.run 81] (cs := []) (p := (0 : Int) ≤ (0 : Int) ∧ (0 : Int) ≤ (4 : Int) ∧ (4 : Int) ≤ (6 : Int) ∧ (6 : Int) ≤ (6 : Int)) (by kernel_rfl) trivial (by first | rfl | decide | ((repeat' apply And.intro) <;> first | trivial | omega | (simp at *; omega) | (simp; done) | decide)) ?_
  refine Tr.needH [.run 108] (cs := []) (p := (0 : Int) ≤ (0 : Int) ∧ (0 : Int) ≤ (5 : Int) ∧ (5 : Int) ≤ (6 : Int) ∧ (6 : Int) ≤ (6 : Int)) (by kernel_rfl) trivial (by first | rfl | decide | ((repeat' apply And.intro) <;> first | trivial | omega | (simp at *; omega) | (simp; done) | decide)) ?_
  refine Tr.needH [.run 130] (cs := []) (p := True ∧ True ∧ (6 : Nat) ≤ (9223372036854775807 : Nat) ∧ (192 : Nat) ≤ (140737488355328 : Nat)) (by kernel_rfl) trivial (by first | rfl | decide | ((repeat' apply And.intro) <;> first | trivial | omega | (simp at *; omega) | (simp; done) | decide)) ?_
  exact Tr.postH [] (cs := []) (by kernel_rfl) trivial ((.ptr 0 0, tabMem)) (fun _ h => h) [80, 79] (by kernel_rfl) (q := ((80 : Nat), (0 : Nat)) = ((80 : Nat), (0 : Nat)) ∧ true = true ∧ ((79 : Nat), (3 : Nat), (0 : Nat), (6 : Nat)) = ((79 : Nat), (3 : Nat), (0 : Nat), (6 : Nat)) ∧ Body.own (28 : Nat) ([CK.str] ++ ([CK.int IntKind.i64] ++ ([CK.int IntKind.i64] ++ []))) ([] ++ [(ByteArray.mk #[(98 : UInt8), (111 : UInt8), (111 : UInt8), (116 : UInt8), (46 : UInt8), (97 : UInt8)], (0 : Int), (2 : Int), ()), (ByteArray.mk #[(98 : UInt8), (111 : UInt8), (111 : UInt8), (116 : UInt8), (46 : UInt8), (98 : UInt8)], (2 : Int), (2 : Int), ()), (ByteArray.mk #[(101 : UInt8), (110 : UInt8), (118 : UInt8), (46 : UInt8), (97 : UInt8)], (4 : Int), (1 : Int), ()), (ByteArray.mk #[(101 : UInt8), (110 : UInt8), (118 : UInt8), (46 : UInt8), (98 : UInt8)], (5 : Int), (1 : Int), ()), (ByteArray.mk #[(115 : UInt8), (108 : UInt8), (111 : UInt8), (116 : UInt8), (46 : UInt8), (97 : UInt8)], (8 : Int), (20 : Int), ()), (ByteArray.mk #[(115 : UInt8), (108 : UInt8), (111 : UInt8), (116 : UInt8), (46 : UInt8), (98 : UInt8)], (28 : Int), (20 : Int), ())]) = Body.own (28 : TypeId) partK partsL ∧ true = true ∧ True) (by kernel_rfl) (by (repeat' apply And.intro) <;> first | rfl | trivial)
def eTable : Entry := frameE [] (toldE 13 tableG)
theorem table_ok : EntryOK Try.prog eTable := frameE_ok (toldE_ok hng hmix (l := []) (cut := noCut) (wr := noWr) (by simp) 400 13 Try.func13 (by kernel_rfl) (by simp) (by
  intro args mem T hT R hR
  unfold tableG at hT
  split at hT
  · cases hT; exact table_tree
  · cases hT))
/-- the part of a name -/
def pName (s : ByteArray) : ByteArray := bif n0.toList == s.toList then n0 else bif n1.toList == s.toList then n1 else bif n2.toList == s.toList then n2 else bif n3.toList == s.toList then n3 else bif n4.toList == s.toList then n4 else bif n5.toList == s.toList then n5 else ⟨#[]⟩
def pFirst (s : ByteArray) : Int := bif n0.toList == s.toList then 0 else bif n1.toList == s.toList then 2 else bif n2.toList == s.toList then 4 else bif n3.toList == s.toList then 5 else bif n4.toList == s.toList then 8 else bif n5.toList == s.toList then 28 else 0
def pMany (s : ByteArray) : Int := bif n0.toList == s.toList then 2 else bif n1.toList == s.toList then 2 else bif n2.toList == s.toList then 1 else bif n3.toList == s.toList then 1 else bif n4.toList == s.toList then 20 else bif n5.toList == s.toList then 20 else 0
def pAt (s : ByteArray) : Int := bif n0.toList == s.toList then 0 else bif n1.toList == s.toList then 1024 else bif n2.toList == s.toList then 2048 else bif n3.toList == s.toList then 2560 else bif n4.toList == s.toList then 4096 else bif n5.toList == s.toList then 14336 else 0
def pN (s : ByteArray) : Int := bif n0.toList == s.toList then 1024 else bif n1.toList == s.toList then 1024 else bif n2.toList == s.toList then 512 else bif n3.toList == s.toList then 512 else bif n4.toList == s.toList then 10240 else bif n5.toList == s.toList then 10240 else 0
def pOk (s : ByteArray) : Bool := bif n0.toList == s.toList then true else bif n1.toList == s.toList then true else bif n2.toList == s.toList then true else bif n3.toList == s.toList then true else bif n4.toList == s.toList then true else bif n5.toList == s.toList then true else false
def findO (s : ByteArray) : SV × List Blk := (.tup [.agg [str (pName s), i (pFirst s), i (pMany s)], b (pOk s)], tabMem)
def tabOf (o : ByteArray → SV × List Blk) : List SV → List Blk → Option (Tr (SV × List Blk))
  | [.ptr 0 0, .v (.string s)], [⟨true, .lit [.oslc 1 3 0 6]⟩, ⟨true, .own 28 [.str, .int .i64, .int .i64] l⟩] => some (.need (l = partsL) (.ok (o s)))
  | _, _ => none
theorem tabOf_some {o : ByteArray → SV × List Blk} {args : List SV} {mem : List Blk} {T : Tr (SV × List Blk)} (h : tabOf o args mem = some T) {R : SV × List Blk → Prop} (hR : T.holds R) : ∃ s, args = [.ptr 0 0, str s] ∧ mem = tabMem ∧ ∀ m0 r, Post m0 (.ok (o s)) r → Post m0 T r := by
  unfold tabOf at h
  split at h
  · cases h
    have hl := hR.1
    subst hl
    exact ⟨_, rfl, rfl, fun m0 r h => .need h⟩
  · cases h
theorem Tr.Holds.mono {α : Type} {Q Q' : α → Prop} {t : Tr α} (h : t.Holds Q) (hq : ∀ a, Q a → Q' a) : t.Holds Q' := ⟨Tr.holds.mono hq t h.out⟩
theorem find_tree (s : ByteArray) : (callX Try.prog (Env.of [] noCut noWr) 400 15 [.ptr 0 0, str s] tabMem fin).Holds (Post 2 (.ok (findO s))) := by
  refine Tr.needH [.run 3] (cs := []) (p := True ∧ (6 : Nat) ≤ List.length partsL ∧ (6 : Nat) ≤ (9223372036854775807 : Nat) ∧ (192 : Nat) ≤ (140737488355328 : Nat)) (by kernel_rfl) trivial (by first | rfl | decide | ((repeat' apply And.intro) <;> first | trivial | omega | (simp at *; omega) | (simp; done) | decide)) ?_
  refine Tr.needH [.run 1] (cs := []) (p := (0 : Int) ≤ (0 : Int) ∧ (0 : Int) < (6 : Int)) (by kernel_rfl) trivial (by first | rfl | decide | ((repeat' apply And.intro) <;> first | trivial | omega | (simp at *; omega) | (simp; done) | decide)) ?_
  refine Tr.needH [] (cs := []) (p := Int.toNat (0 : Int) < List.length ([] ++ List.take (6 : Nat) (List.drop (0 : Nat) partsL))) (by kernel_rfl) trivial (by first | rfl | decide | ((repeat' apply And.intro) <;> first | trivial | omega | (simp at *; omega) | (simp; done) | decide)) ?_
  rcases Bool.eq_false_or_eq_true (ByteArray.toList n0 == ByteArray.toList s) with g0 | g0
  · skip
    refine Tr.needH [.yes, .run 1] (cs := [(_, true)]) (p := (0 : Int) ≤ (0 : Int) ∧ (0 : Int) < (6 : Int)) (by kernel_rfl) ⟨g0, trivial⟩ (by first | rfl | decide | ((repeat' apply And.intro) <;> first | trivial | omega | (simp at *; omega) | (simp; done) | decide)) ?_
    refine Tr.needH [] (cs := []) (p := Int.toNat (0 : Int) < List.length ([] ++ List.take (6 : Nat) (List.drop (0 : Nat) partsL))) (by kernel_rfl) trivial (by first | rfl | decide | ((repeat' apply And.intro) <;> first | trivial | omega | (simp at *; omega) | (simp; done) | decide)) ?_
    exact Tr.postH [] (cs := []) (by kernel_rfl) trivial (findO s) (fun _ h => h) [0, 1] (by kernel_rfl) (q := Value.string n0 = Value.string (pName s) ∧ Value.int IntKind.i64 (0 : CK.T (CK.int IntKind.i64)) = Value.int IntKind.i64 (pFirst s) ∧ Value.int IntKind.i64 (2 : CK.T (CK.int IntKind.i64)) = Value.int IntKind.i64 (pMany s) ∧ Value.bool true = Value.bool (pOk s) ∧ true = true ∧ ((1 : Nat), (3 : Nat), (0 : Nat), (6 : Nat)) = ((1 : Nat), (3 : Nat), (0 : Nat), (6 : Nat)) ∧ Body.own (28 : TypeId) partK partsL = Body.own (28 : TypeId) partK partsL ∧ true = true ∧ True) (by kernel_rfl) (by (repeat' apply And.intro) <;> first | rfl | trivial | ((simp only [pName, pFirst, pMany, pOk, pAt, pN, cond_true, cond_false, *]); first | done | rfl))
  · skip
    refine Tr.needH [.no, .run 1] (cs := [(_, false)]) (p := (0 : Int) ≤ (1 : Int) ∧ (1 : Int) < (6 : Int)) (by kernel_rfl) ⟨g0, trivial⟩ (by first | rfl | decide | ((repeat' apply And.intro) <;> first | trivial | omega | (simp at *; omega) | (simp; done) | decide)) ?_
    refine Tr.needH [] (cs := []) (p := Int.toNat (1 : Int) < List.length ([] ++ List.take (6 : Nat) (List.drop (0 : Nat) partsL))) (by kernel_rfl) trivial (by first | rfl | decide | ((repeat' apply And.intro) <;> first | trivial | omega | (simp at *; omega) | (simp; done) | decide)) ?_
    rcases Bool.eq_false_or_eq_true (ByteArray.toList n1 == ByteArray.toList s) with g1 | g1
    · skip
      refine Tr.needH [.yes, .run 1] (cs := [(_, true)]) (p := (0 : Int) ≤ (1 : Int) ∧ (1 : Int) < (6 : Int)) (by kernel_rfl) ⟨g1, trivial⟩ (by first | rfl | decide | ((repeat' apply And.intro) <;> first | trivial | omega | (simp at *; omega) | (simp; done) | decide)) ?_
      refine Tr.needH [] (cs := []) (p := Int.toNat (1 : Int) < List.length ([] ++ List.take (6 : Nat) (List.drop (0 : Nat) partsL))) (by kernel_rfl) trivial (by first | rfl | decide | ((repeat' apply And.intro) <;> first | trivial | omega | (simp at *; omega) | (simp; done) | decide)) ?_
      exact Tr.postH [] (cs := []) (by kernel_rfl) trivial (findO s) (fun _ h => h) [0, 1] (by kernel_rfl) (q := Value.string n1 = Value.string (pName s) ∧ Value.int IntKind.i64 (2 : CK.T (CK.int IntKind.i64)) = Value.int IntKind.i64 (pFirst s) ∧ Value.int IntKind.i64 (2 : CK.T (CK.int IntKind.i64)) = Value.int IntKind.i64 (pMany s) ∧ Value.bool true = Value.bool (pOk s) ∧ true = true ∧ ((1 : Nat), (3 : Nat), (0 : Nat), (6 : Nat)) = ((1 : Nat), (3 : Nat), (0 : Nat), (6 : Nat)) ∧ Body.own (28 : TypeId) partK partsL = Body.own (28 : TypeId) partK partsL ∧ true = true ∧ True) (by kernel_rfl) (by (repeat' apply And.intro) <;> first | rfl | trivial | ((simp only [pName, pFirst, pMany, pOk, pAt, pN, cond_true, cond_false, *]); first | done | rfl))
    · skip
      refine Tr.needH [.no, .run 1] (cs := [(_, false)]) (p := (0 : Int) ≤ (2 : Int) ∧ (2 : Int) < (6 : Int)) (by kernel_rfl) ⟨g1, trivial⟩ (by first | rfl | decide | ((repeat' apply And.intro) <;> first | trivial | omega | (simp at *; omega) | (simp; done) | decide)) ?_
      refine Tr.needH [] (cs := []) (p := Int.toNat (2 : Int) < List.length ([] ++ List.take (6 : Nat) (List.drop (0 : Nat) partsL))) (by kernel_rfl) trivial (by first | rfl | decide | ((repeat' apply And.intro) <;> first | trivial | omega | (simp at *; omega) | (simp; done) | decide)) ?_
      rcases Bool.eq_false_or_eq_true (ByteArray.toList n2 == ByteArray.toList s) with g2 | g2
      · skip
        refine Tr.needH [.yes, .run 1] (cs := [(_, true)]) (p := (0 : Int) ≤ (2 : Int) ∧ (2 : Int) < (6 : Int)) (by kernel_rfl) ⟨g2, trivial⟩ (by first | rfl | decide | ((repeat' apply And.intro) <;> first | trivial | omega | (simp at *; omega) | (simp; done) | decide)) ?_
        refine Tr.needH [] (cs := []) (p := Int.toNat (2 : Int) < List.length ([] ++ List.take (6 : Nat) (List.drop (0 : Nat) partsL))) (by kernel_rfl) trivial (by first | rfl | decide | ((repeat' apply And.intro) <;> first | trivial | omega | (simp at *; omega) | (simp; done) | decide)) ?_
        exact Tr.postH [] (cs := []) (by kernel_rfl) trivial (findO s) (fun _ h => h) [0, 1] (by kernel_rfl) (q := Value.string n2 = Value.string (pName s) ∧ Value.int IntKind.i64 (4 : CK.T (CK.int IntKind.i64)) = Value.int IntKind.i64 (pFirst s) ∧ Value.int IntKind.i64 (1 : CK.T (CK.int IntKind.i64)) = Value.int IntKind.i64 (pMany s) ∧ Value.bool true = Value.bool (pOk s) ∧ true = true ∧ ((1 : Nat), (3 : Nat), (0 : Nat), (6 : Nat)) = ((1 : Nat), (3 : Nat), (0 : Nat), (6 : Nat)) ∧ Body.own (28 : TypeId) partK partsL = Body.own (28 : TypeId) partK partsL ∧ true = true ∧ True) (by kernel_rfl) (by (repeat' apply And.intro) <;> first | rfl | trivial | ((simp only [pName, pFirst, pMany, pOk, pAt, pN, cond_true, cond_false, *]); first | done | rfl))
      · skip
        refine Tr.needH [.no, .run 1] (cs := [(_, false)]) (p := (0 : Int) ≤ (3 : Int) ∧ (3 : Int) < (6 : Int)) (by kernel_rfl) ⟨g2, trivial⟩ (by first | rfl | decide | ((repeat' apply And.intro) <;> first | trivial | omega | (simp at *; omega) | (simp; done) | decide)) ?_
        refine Tr.needH [] (cs := []) (p := Int.toNat (3 : Int) < List.length ([] ++ List.take (6 : Nat) (List.drop (0 : Nat) partsL))) (by kernel_rfl) trivial (by first | rfl | decide | ((repeat' apply And.intro) <;> first | trivial | omega | (simp at *; omega) | (simp; done) | decide)) ?_
        rcases Bool.eq_false_or_eq_true (ByteArray.toList n3 == ByteArray.toList s) with g3 | g3
        · skip
          refine Tr.needH [.yes, .run 1] (cs := [(_, true)]) (p := (0 : Int) ≤ (3 : Int) ∧ (3 : Int) < (6 : Int)) (by kernel_rfl) ⟨g3, trivial⟩ (by first | rfl | decide | ((repeat' apply And.intro) <;> first | trivial | omega | (simp at *; omega) | (simp; done) | decide)) ?_
          refine Tr.needH [] (cs := []) (p := Int.toNat (3 : Int) < List.length ([] ++ List.take (6 : Nat) (List.drop (0 : Nat) partsL))) (by kernel_rfl) trivial (by first | rfl | decide | ((repeat' apply And.intro) <;> first | trivial | omega | (simp at *; omega) | (simp; done) | decide)) ?_
          exact Tr.postH [] (cs := []) (by kernel_rfl) trivial (findO s) (fun _ h => h) [0, 1] (by kernel_rfl) (q := Value.string n3 = Value.string (pName s) ∧ Value.int IntKind.i64 (5 : CK.T (CK.int IntKind.i64)) = Value.int IntKind.i64 (pFirst s) ∧ Value.int IntKind.i64 (1 : CK.T (CK.int IntKind.i64)) = Value.int IntKind.i64 (pMany s) ∧ Value.bool true = Value.bool (pOk s) ∧ true = true ∧ ((1 : Nat), (3 : Nat), (0 : Nat), (6 : Nat)) = ((1 : Nat), (3 : Nat), (0 : Nat), (6 : Nat)) ∧ Body.own (28 : TypeId) partK partsL = Body.own (28 : TypeId) partK partsL ∧ true = true ∧ True) (by kernel_rfl) (by (repeat' apply And.intro) <;> first | rfl | trivial | ((simp only [pName, pFirst, pMany, pOk, pAt, pN, cond_true, cond_false, *]); first | done | rfl))
        · skip
          refine Tr.needH [.no, .run 1] (cs := [(_, false)]) (p := (0 : Int) ≤ (4 : Int) ∧ (4 : Int) < (6 : Int)) (by kernel_rfl) ⟨g3, trivial⟩ (by first | rfl | decide | ((repeat' apply And.intro) <;> first | trivial | omega | (simp at *; omega) | (simp; done) | decide)) ?_
          refine Tr.needH [] (cs := []) (p := Int.toNat (4 : Int) < List.length ([] ++ List.take (6 : Nat) (List.drop (0 : Nat) partsL))) (by kernel_rfl) trivial (by first | rfl | decide | ((repeat' apply And.intro) <;> first | trivial | omega | (simp at *; omega) | (simp; done) | decide)) ?_
          rcases Bool.eq_false_or_eq_true (ByteArray.toList n4 == ByteArray.toList s) with g4 | g4
          · skip
            refine Tr.needH [.yes, .run 1] (cs := [(_, true)]) (p := (0 : Int) ≤ (4 : Int) ∧ (4 : Int) < (6 : Int)) (by kernel_rfl) ⟨g4, trivial⟩ (by first | rfl | decide | ((repeat' apply And.intro) <;> first | trivial | omega | (simp at *; omega) | (simp; done) | decide)) ?_
            refine Tr.needH [] (cs := []) (p := Int.toNat (4 : Int) < List.length ([] ++ List.take (6 : Nat) (List.drop (0 : Nat) partsL))) (by kernel_rfl) trivial (by first | rfl | decide | ((repeat' apply And.intro) <;> first | trivial | omega | (simp at *; omega) | (simp; done) | decide)) ?_
            exact Tr.postH [] (cs := []) (by kernel_rfl) trivial (findO s) (fun _ h => h) [0, 1] (by kernel_rfl) (q := Value.string n4 = Value.string (pName s) ∧ Value.int IntKind.i64 (8 : CK.T (CK.int IntKind.i64)) = Value.int IntKind.i64 (pFirst s) ∧ Value.int IntKind.i64 (20 : CK.T (CK.int IntKind.i64)) = Value.int IntKind.i64 (pMany s) ∧ Value.bool true = Value.bool (pOk s) ∧ true = true ∧ ((1 : Nat), (3 : Nat), (0 : Nat), (6 : Nat)) = ((1 : Nat), (3 : Nat), (0 : Nat), (6 : Nat)) ∧ Body.own (28 : TypeId) partK partsL = Body.own (28 : TypeId) partK partsL ∧ true = true ∧ True) (by kernel_rfl) (by (repeat' apply And.intro) <;> first | rfl | trivial | ((simp only [pName, pFirst, pMany, pOk, pAt, pN, cond_true, cond_false, *]); first | done | rfl))
          · skip
            refine Tr.needH [.no, .run 1] (cs := [(_, false)]) (p := (0 : Int) ≤ (5 : Int) ∧ (5 : Int) < (6 : Int)) (by kernel_rfl) ⟨g4, trivial⟩ (by first | rfl | decide | ((repeat' apply And.intro) <;> first | trivial | omega | (simp at *; omega) | (simp; done) | decide)) ?_
            refine Tr.needH [] (cs := []) (p := Int.toNat (5 : Int) < List.length ([] ++ List.take (6 : Nat) (List.drop (0 : Nat) partsL))) (by kernel_rfl) trivial (by first | rfl | decide | ((repeat' apply And.intro) <;> first | trivial | omega | (simp at *; omega) | (simp; done) | decide)) ?_
            rcases Bool.eq_false_or_eq_true (ByteArray.toList n5 == ByteArray.toList s) with g5 | g5
            · skip
              refine Tr.needH [.yes, .run 1] (cs := [(_, true)]) (p := (0 : Int) ≤ (5 : Int) ∧ (5 : Int) < (6 : Int)) (by kernel_rfl) ⟨g5, trivial⟩ (by first | rfl | decide | ((repeat' apply And.intro) <;> first | trivial | omega | (simp at *; omega) | (simp; done) | decide)) ?_
              refine Tr.needH [] (cs := []) (p := Int.toNat (5 : Int) < List.length ([] ++ List.take (6 : Nat) (List.drop (0 : Nat) partsL))) (by kernel_rfl) trivial (by first | rfl | decide | ((repeat' apply And.intro) <;> first | trivial | omega | (simp at *; omega) | (simp; done) | decide)) ?_
              exact Tr.postH [] (cs := []) (by kernel_rfl) trivial (findO s) (fun _ h => h) [0, 1] (by kernel_rfl) (q := Value.string n5 = Value.string (pName s) ∧ Value.int IntKind.i64 (28 : CK.T (CK.int IntKind.i64)) = Value.int IntKind.i64 (pFirst s) ∧ Value.int IntKind.i64 (20 : CK.T (CK.int IntKind.i64)) = Value.int IntKind.i64 (pMany s) ∧ Value.bool true = Value.bool (pOk s) ∧ true = true ∧ ((1 : Nat), (3 : Nat), (0 : Nat), (6 : Nat)) = ((1 : Nat), (3 : Nat), (0 : Nat), (6 : Nat)) ∧ Body.own (28 : TypeId) partK partsL = Body.own (28 : TypeId) partK partsL ∧ true = true ∧ True) (by kernel_rfl) (by (repeat' apply And.intro) <;> first | rfl | trivial | ((simp only [pName, pFirst, pMany, pOk, pAt, pN, cond_true, cond_false, *]); first | done | rfl))
            · skip
              exact Tr.postH [.no, .run 2] (cs := [(_, false)]) (by kernel_rfl) ⟨g5, trivial⟩ (findO s) (fun _ h => h) [0, 1] (by kernel_rfl) (q := Value.string (ByteArray.mk #[]) = Value.string (pName s) ∧ Value.int IntKind.i64 (0 : Int) = Value.int IntKind.i64 (pFirst s) ∧ Value.int IntKind.i64 (0 : Int) = Value.int IntKind.i64 (pMany s) ∧ Value.bool false = Value.bool (pOk s) ∧ true = true ∧ ((1 : Nat), (3 : Nat), (0 : Nat), (6 : Nat)) = ((1 : Nat), (3 : Nat), (0 : Nat), (6 : Nat)) ∧ Body.own (28 : TypeId) partK partsL = Body.own (28 : TypeId) partK partsL ∧ true = true ∧ True) (by kernel_rfl) (by (repeat' apply And.intro) <;> first | rfl | trivial | ((simp only [pName, pFirst, pMany, pOk, pAt, pN, cond_true, cond_false, *]); first | done | rfl))
def eFind : Entry := frameE [] (toldE 15 (tabOf findO))
theorem find_ok : EntryOK Try.prog eFind := frameE_ok (toldE_ok hng hmix (l := []) (cut := noCut) (wr := noWr) (by simp) 400 15 Try.func15 (by kernel_rfl) (by simp) (by
  intro args mem T hT R hR
  obtain ⟨s, rfl, rfl, h⟩ := tabOf_some hT hR
  exact Tr.Holds.mono (find_tree s) fun r hr => h _ _ hr))
def tEntries : List Entry := [eTable, eFind]
theorem tEntries_ok : ∀ e ∈ tEntries, EntryOK Try.prog e := by
  intro e he
  simp only [tEntries, List.mem_cons, List.not_mem_nil, or_false] at he
  rcases he with rfl | rfl
  · exact table_ok
  · exact find_ok
def tEnv : Env := Env.of tEntries noCut noWr
theorem awake_tree : (callX Try.prog tEnv 400 7 [] [] fin).Holds fun r => r.1 = b true := by
  refine Tr.needH [.run 93] (cs := []) (p := partsL = partsL) (by kernel_rfl) trivial (by first | rfl | decide | ((repeat' apply And.intro) <;> first | trivial | omega | (simp at *; omega) | (simp; done) | decide)) ?_
  refine Tr.needH [.run 4] (cs := []) (p := partsL = partsL) (by kernel_rfl) trivial (by first | rfl | decide | ((repeat' apply And.intro) <;> first | trivial | omega | (simp at *; omega) | (simp; done) | decide)) ?_
  refine Tr.needH [.run 5] (cs := []) (p := partsL = partsL) (by kernel_rfl) trivial (by first | rfl | decide | ((repeat' apply And.intro) <;> first | trivial | omega | (simp at *; omega) | (simp; done) | decide)) ?_
  refine Tr.needH [.run 1] (cs := []) (p := True ∧ True ∧ (1 : Nat) ≤ (9223372036854775807 : Nat) ∧ (8 : Nat) ≤ (140737488355328 : Nat)) (by kernel_rfl) trivial (by first | rfl | decide | ((repeat' apply And.intro) <;> first | trivial | omega | (simp at *; omega) | (simp; done) | decide)) ?_
  refine Tr.needH [.run 1] (cs := []) (p := (1 : Nat) ≤ List.length ([] ++ [((0 : Int), ())]) ∧ True ∧ (2 : Nat) ≤ (9223372036854775807 : Nat) ∧ (16 : Nat) ≤ (140737488355328 : Nat)) (by kernel_rfl) trivial (by first | rfl | decide | ((repeat' apply And.intro) <;> first | trivial | omega | (simp at *; omega) | (simp; done) | decide)) ?_
  refine Tr.needH [.run 4] (cs := []) (p := partsL = partsL) (by kernel_rfl) trivial (by first | rfl | decide | ((repeat' apply And.intro) <;> first | trivial | omega | (simp at *; omega) | (simp; done) | decide)) ?_
  refine Tr.needH [.run 1] (cs := []) (p := (2 : Nat) ≤ List.length (List.take (1 : Nat) ([] ++ [((0 : Int), ())]) ++ [((1 : Int), ())]) ∧ True ∧ (3 : Nat) ≤ (9223372036854775807 : Nat) ∧ (24 : Nat) ≤ (140737488355328 : Nat)) (by kernel_rfl) trivial (by first | rfl | decide | ((repeat' apply And.intro) <;> first | trivial | omega | (simp at *; omega) | (simp; done) | decide)) ?_
  refine Tr.needH [.run 1] (cs := []) (p := (3 : Nat) ≤ List.length (List.take (2 : Nat) (List.take (1 : Nat) ([] ++ [((0 : Int), ())]) ++ [((1 : Int), ())]) ++ [((2 : Int), ())]) ∧ True ∧ (4 : Nat) ≤ (9223372036854775807 : Nat) ∧ (32 : Nat) ≤ (140737488355328 : Nat)) (by kernel_rfl) trivial (by first | rfl | decide | ((repeat' apply And.intro) <;> first | trivial | omega | (simp at *; omega) | (simp; done) | decide)) ?_
  refine Tr.needH [.run 11] (cs := []) (p := (0 : Int) ≤ (0 : Int) ∧ (0 : Int) < (4 : Int)) (by kernel_rfl) trivial (by first | rfl | decide | ((repeat' apply And.intro) <;> first | trivial | omega | (simp at *; omega) | (simp; done) | decide)) ?_
  refine Tr.needH [] (cs := []) (p := Int.toNat (0 : Int) < List.length (List.take (3 : Nat) (List.take (2 : Nat) (List.take (1 : Nat) ([] ++ [((0 : Int), ())]) ++ [((1 : Int), ())]) ++ [((2 : Int), ())]) ++ [((3 : Int), ())])) (by kernel_rfl) trivial (by first | rfl | decide | ((repeat' apply And.intro) <;> first | trivial | omega | (simp at *; omega) | (simp; done) | decide)) ?_
  refine Tr.needH [.run 8] (cs := []) (p := (0 : Int) ≤ (1 : Int) ∧ (1 : Int) < (4 : Int)) (by kernel_rfl) trivial (by first | rfl | decide | ((repeat' apply And.intro) <;> first | trivial | omega | (simp at *; omega) | (simp; done) | decide)) ?_
  refine Tr.needH [] (cs := []) (p := Int.toNat (1 : Int) < List.length (List.take (3 : Nat) (List.take (2 : Nat) (List.take (1 : Nat) ([] ++ [((0 : Int), ())]) ++ [((1 : Int), ())]) ++ [((2 : Int), ())]) ++ [((3 : Int), ())])) (by kernel_rfl) trivial (by first | rfl | decide | ((repeat' apply And.intro) <;> first | trivial | omega | (simp at *; omega) | (simp; done) | decide)) ?_
  refine Tr.needH [.run 9] (cs := []) (p := (0 : Int) ≤ (2 : Int) ∧ (2 : Int) < (4 : Int)) (by kernel_rfl) trivial (by first | rfl | decide | ((repeat' apply And.intro) <;> first | trivial | omega | (simp at *; omega) | (simp; done) | decide)) ?_
  refine Tr.needH [] (cs := []) (p := Int.toNat (2 : Int) < List.length (List.take (3 : Nat) (List.take (2 : Nat) (List.take (1 : Nat) ([] ++ [((0 : Int), ())]) ++ [((1 : Int), ())]) ++ [((2 : Int), ())]) ++ [((3 : Int), ())])) (by kernel_rfl) trivial (by first | rfl | decide | ((repeat' apply And.intro) <;> first | trivial | omega | (simp at *; omega) | (simp; done) | decide)) ?_
  refine Tr.needH [.run 10] (cs := []) (p := (0 : Int) ≤ (3 : Int) ∧ (3 : Int) < (4 : Int)) (by kernel_rfl) trivial (by first | rfl | decide | ((repeat' apply And.intro) <;> first | trivial | omega | (simp at *; omega) | (simp; done) | decide)) ?_
  refine Tr.needH [] (cs := []) (p := Int.toNat (3 : Int) < List.length (List.take (3 : Nat) (List.take (2 : Nat) (List.take (1 : Nat) ([] ++ [((0 : Int), ())]) ++ [((1 : Int), ())]) ++ [((2 : Int), ())]) ++ [((3 : Int), ())])) (by kernel_rfl) trivial (by first | rfl | decide | ((repeat' apply And.intro) <;> first | trivial | omega | (simp at *; omega) | (simp; done) | decide)) ?_
  exact Tr.endH [.run 12] (cs := []) (Prod.fst) (y := SV.v (Value.bool true)) (by kernel_rfl) trivial (fun a ha => ha.trans rfl)
end Go.Proofs.Ytaockbenmamgeaa
