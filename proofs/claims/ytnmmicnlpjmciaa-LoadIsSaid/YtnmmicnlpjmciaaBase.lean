/-
  Words for the memory's rows: spans that meet, spans that may be laid.
-/
import Derived.Test.YtnmmicnlpjmciaaSy
import Derived.Test.YtnmmicnlpjmciaaRows
set_option linter.unusedVariables false
set_option linter.unusedSimpArgs false
namespace Go.Proofs.Ytnmmicnlpjmciaa
open Sx
set_option maxRecDepth 100000
set_option maxHeartbeats 4000000
def i (n : Int) : SV := .v (.int .i64 n)
def b (n : Bool) : SV := .v (.bool n)
def str (s : ByteArray) : SV := .v (.string s)
def fin (s : SV) (mem : List Blk) : Tr (SV × List Blk) := .ok (s, mem)
def noCut : FuncId → Nat → Bool := fun _ _ => false
def noWr : FuncId → Nat → List Nat := fun _ _ => []
theorem wrapId {n : Int} (h0 : -9223372036854775808 ≤ n) (h1 : n ≤ 9223372036854775807) : IntKind.i64.wrap n = n := by
  simp [IntKind.wrap, IntKind.signed, IntKind.bits]; split <;> omega
theorem wrapSucc {n : Nat} (h : n ≤ 1000) : IntKind.i64.wrap ((n : Int) + 1) = (n : Int) + 1 := wrapId (by omega) (by omega)
theorem hng : NoNG Try.prog := by
  have h : (Try.prog.funcs.all fun fn => !(fn.name == "runtime.NumGoroutine")) = true := by kernel_rfl
  intro f fn hf
  have := Array.all_eq_true'.1 h fn (Array.mem_of_getElem? hf)
  simpa using this
theorem hmix : Try.prog.follows .mixedOrders = true := by kernel_rfl
theorem Tr.Holds.mono {α : Type} {Q Q' : α → Prop} {t : Tr α} (h : t.Holds Q) (hq : ∀ a, Q a → Q' a) : t.Holds Q' := ⟨Tr.holds.mono hq t h.out⟩
def spanK : List CK := [.int .i64, .int .i64]

/-- do two spans meet? -/
def meetI (a n c m : Int) : Bool := decide (0 < n ∧ 0 < m ∧ a < IntKind.i64.wrap (c + m) ∧ c < IntKind.i64.wrap (a + n))
def meetX (a n : Int) (y : RowT spanK) : Bool := meetI a n y.1 y.2.1
def meetsB (a n : Int) (l : List (RowT spanK)) : Bool := l.any (meetX a n)
def insideI (a n : Int) : Bool := decide (0 ≤ a ∧ 0 ≤ n ∧ a ≤ 65536 ∧ n ≤ 65536 - a)
def two : List SV → Option (Int × Int × Int × Int)
  | [.agg [.v (.int .i64 a), .v (.int .i64 n)], .agg [.v (.int .i64 c), .v (.int .i64 m)]] => some (a, n, c, m)
  | _ => none
theorem two_some {args : List SV} {a n c m : Int} (h : two args = some (a, n, c, m)) : args = [.agg [i a, i n], .agg [i c, i m]] := by
  unfold two at h
  split at h
  · cases h; rfl
  · cases h
theorem meet_tree (a n c m : Int) : (callX Try.prog (Env.of [] noCut noWr) 400 19 [.agg [i a, i n], .agg [i c, i m]] [] fin).Holds fun r => r.1 = b (meetI a n c m) := by
  rcases Bool.eq_false_or_eq_true (decide (n > (0 : Int))) with g0 | g0
  · skip
    rcases Bool.eq_false_or_eq_true (decide (m > (0 : Int))) with g1 | g1
    · skip
      rcases Bool.eq_false_or_eq_true (decide (a < IntKind.wrap IntKind.i64 (c + m))) with g2 | g2
      · skip
        exact Tr.endH [.yes, .run 3, .yes, .run 8, .yes, .run 8] (cs := [(_, true), (_, true), (_, true)]) (Prod.fst) (y := SV.v (Value.bool (decide (c < IntKind.wrap IntKind.i64 (a + n))))) (by kernel_rfl) ⟨g0, g1, g2, trivial⟩ (fun a ha => ha.trans (by first | (simp_all [meetI, b]; done) | (unfold meetI b; congr 2; (try simp only [q1, beq_iff_eq, beq_eq_false_iff_ne, ne_eq, bne_iff_ne, bne_eq_false_iff_eq, ge_iff_le, gt_iff_lt, if_true, if_false, reduceIte, nadd_eq, true_eq_decide_iff, false_eq_decide_iff, List.drop_zero, List.take_length, Nat.zero_add, Int.toNat_natCast] at *); omega)))
      · skip
        exact Tr.endH [.yes, .run 3, .yes, .run 8, .no, .run 8] (cs := [(_, true), (_, true), (_, false)]) (Prod.fst) (y := SV.v (Value.bool false)) (by kernel_rfl) ⟨g0, g1, g2, trivial⟩ (fun a ha => ha.trans (by first | (simp_all [meetI, b]; done) | (unfold meetI b; congr 2; (try simp only [q1, beq_iff_eq, beq_eq_false_iff_ne, ne_eq, bne_iff_ne, bne_eq_false_iff_eq, ge_iff_le, gt_iff_lt, if_true, if_false, reduceIte, nadd_eq, true_eq_decide_iff, false_eq_decide_iff, List.drop_zero, List.take_length, Nat.zero_add, Int.toNat_natCast] at *); omega)))
    · skip
      exact Tr.endH [.yes, .run 3, .no, .run 17] (cs := [(_, true), (_, false)]) (Prod.fst) (y := SV.v (Value.bool false)) (by kernel_rfl) ⟨g0, g1, trivial⟩ (fun a ha => ha.trans (by first | (simp_all [meetI, b]; done) | (unfold meetI b; congr 2; (try simp only [q1, beq_iff_eq, beq_eq_false_iff_ne, ne_eq, bne_iff_ne, bne_eq_false_iff_eq, ge_iff_le, gt_iff_lt, if_true, if_false, reduceIte, nadd_eq, true_eq_decide_iff, false_eq_decide_iff, List.drop_zero, List.take_length, Nat.zero_add, Int.toNat_natCast] at *); omega)))
  · skip
    exact Tr.endH [.no, .run 21] (cs := [(_, false)]) (Prod.fst) (y := SV.v (Value.bool false)) (by kernel_rfl) ⟨g0, trivial⟩ (fun a ha => ha.trans (by first | (simp_all [meetI, b]; done) | (unfold meetI b; congr 2; (try simp only [q1, beq_iff_eq, beq_eq_false_iff_ne, ne_eq, bne_iff_ne, bne_eq_false_iff_eq, ge_iff_le, gt_iff_lt, if_true, if_false, reduceIte, nadd_eq, true_eq_decide_iff, false_eq_decide_iff, List.drop_zero, List.take_length, Nat.zero_add, Int.toNat_natCast] at *); omega)))
def eMeet : Entry := pureE 19 fun args => (two args).map fun q => b (meetI q.1 q.2.1 q.2.2.1 q.2.2.2)
theorem meet_ok : EntryOK Try.prog eMeet :=
  pureE_ok hng hmix (l := []) (cut := noCut) (wr := noWr) (by simp) 400 19 Try.func19 rfl (by simp) (by
    intro args s h
    obtain ⟨⟨a, n, c, m⟩, hq, rfl⟩ := Option.map_eq_some_iff.1 h
    obtain rfl := two_some hq
    exact ⟨rfl, rfl, (meet_tree a n c m).out⟩)
/-- the same, of one that was caught -/
def capOf : List SV → List Blk → Option (Int × Int × Int × Int)
  | [.agg [.v (.int .i64 c), .v (.int .i64 m)], .ptr 0 0], [⟨true, .lit [.v (.int .i64 a), .v (.int .i64 n)]⟩] => some (a, n, c, m)
  | _, _ => none
theorem capOf_some {args : List SV} {mem : List Blk} {a n c m : Int} (h : capOf args mem = some (a, n, c, m)) : args = [.agg [i c, i m], .ptr 0 0] ∧ mem = [⟨true, .lit [i a, i n]⟩] := by
  unfold capOf at h
  split at h
  · cases h; exact ⟨rfl, rfl⟩
  · cases h
def capO (a n c m : Int) : SV × List Blk := (b (meetI a n c m), [⟨true, .lit [i a, i n]⟩])
theorem cap_tree (a n c m : Int) : (callX Try.prog (Env.of [] noCut noWr) 400 30 [.agg [i c, i m], .ptr 0 0] [⟨true, .lit [i a, i n]⟩] fin).Holds (Post 1 (.ok (capO a n c m))) := by
  rcases Bool.eq_false_or_eq_true (decide (n > (0 : Int))) with g0 | g0
  · skip
    rcases Bool.eq_false_or_eq_true (decide (m > (0 : Int))) with g1 | g1
    · skip
      rcases Bool.eq_false_or_eq_true (decide (a < IntKind.wrap IntKind.i64 (c + m))) with g2 | g2
      · skip
        exact Tr.postH [.yes, .run 3, .yes, .run 8, .yes, .run 8] (cs := [(_, true), (_, true), (_, true)]) (by kernel_rfl) ⟨g0, g1, g2, trivial⟩ (capO a n c m) (fun _ h => h) [0] (by kernel_rfl) (q := Value.bool (decide (c < IntKind.wrap IntKind.i64 (a + n))) = Value.bool (meetI a n c m) ∧ true = true ∧ Value.int IntKind.i64 a = Value.int IntKind.i64 a ∧ Value.int IntKind.i64 n = Value.int IntKind.i64 n ∧ True) (by kernel_rfl) (by (repeat' apply And.intro) <;> first | rfl | trivial | (simp_all [meetI]; done) | (unfold meetI; refine congrArg Value.bool ?_; (try simp only [q1, beq_iff_eq, beq_eq_false_iff_ne, ne_eq, bne_iff_ne, bne_eq_false_iff_eq, ge_iff_le, gt_iff_lt, if_true, if_false, reduceIte, nadd_eq, true_eq_decide_iff, false_eq_decide_iff, List.drop_zero, List.take_length, Nat.zero_add, Int.toNat_natCast] at *); omega))
      · skip
        exact Tr.postH [.yes, .run 3, .yes, .run 8, .no, .run 8] (cs := [(_, true), (_, true), (_, false)]) (by kernel_rfl) ⟨g0, g1, g2, trivial⟩ (capO a n c m) (fun _ h => h) [0] (by kernel_rfl) (q := Value.bool false = Value.bool (meetI a n c m) ∧ true = true ∧ Value.int IntKind.i64 a = Value.int IntKind.i64 a ∧ Value.int IntKind.i64 n = Value.int IntKind.i64 n ∧ True) (by kernel_rfl) (by (repeat' apply And.intro) <;> first | rfl | trivial | (simp_all [meetI]; done) | (unfold meetI; refine congrArg Value.bool ?_; (try simp only [q1, beq_iff_eq, beq_eq_false_iff_ne, ne_eq, bne_iff_ne, bne_eq_false_iff_eq, ge_iff_le, gt_iff_lt, if_true, if_false, reduceIte, nadd_eq, true_eq_decide_iff, false_eq_decide_iff, List.drop_zero, List.take_length, Nat.zero_add, Int.toNat_natCast] at *); omega))
    · skip
      exact Tr.postH [.yes, .run 3, .no, .run 17] (cs := [(_, true), (_, false)]) (by kernel_rfl) ⟨g0, g1, trivial⟩ (capO a n c m) (fun _ h => h) [0] (by kernel_rfl) (q := Value.bool false = Value.bool (meetI a n c m) ∧ true = true ∧ Value.int IntKind.i64 a = Value.int IntKind.i64 a ∧ Value.int IntKind.i64 n = Value.int IntKind.i64 n ∧ True) (by kernel_rfl) (by (repeat' apply And.intro) <;> first | rfl | trivial | (simp_all [meetI]; done) | (unfold meetI; refine congrArg Value.bool ?_; (try simp only [q1, beq_iff_eq, beq_eq_false_iff_ne, ne_eq, bne_iff_ne, bne_eq_false_iff_eq, ge_iff_le, gt_iff_lt, if_true, if_false, reduceIte, nadd_eq, true_eq_decide_iff, false_eq_decide_iff, List.drop_zero, List.take_length, Nat.zero_add, Int.toNat_natCast] at *); omega))
  · skip
    exact Tr.postH [.no, .run 21] (cs := [(_, false)]) (by kernel_rfl) ⟨g0, trivial⟩ (capO a n c m) (fun _ h => h) [0] (by kernel_rfl) (q := Value.bool false = Value.bool (meetI a n c m) ∧ true = true ∧ Value.int IntKind.i64 a = Value.int IntKind.i64 a ∧ Value.int IntKind.i64 n = Value.int IntKind.i64 n ∧ True) (by kernel_rfl) (by (repeat' apply And.intro) <;> first | rfl | trivial | (simp_all [meetI]; done) | (unfold meetI; refine congrArg Value.bool ?_; (try simp only [q1, beq_iff_eq, beq_eq_false_iff_ne, ne_eq, bne_iff_ne, bne_eq_false_iff_eq, ge_iff_le, gt_iff_lt, if_true, if_false, reduceIte, nadd_eq, true_eq_decide_iff, false_eq_decide_iff, List.drop_zero, List.take_length, Nat.zero_add, Int.toNat_natCast] at *); omega))
def eCap : Entry := frameE [] (toldE 30 fun args mem => (capOf args mem).map fun q => .ok (capO q.1 q.2.1 q.2.2.1 q.2.2.2))
theorem cap_ok : EntryOK Try.prog eCap := frameE_ok (toldE_ok hng hmix (l := []) (cut := noCut) (wr := noWr) (by simp) 400 30 Try.func30 (by kernel_rfl) (by simp) (by
  intro args mem T hT R hR
  obtain ⟨⟨a, n, c, m⟩, hq, rfl⟩ := Option.map_eq_some_iff.1 hT
  obtain ⟨rfl, rfl⟩ := capOf_some hq
  exact cap_tree a n c m))
/-! ### does one meet some? -/
def ms1 : List Entry := [eCap]
theorem ms1_ok : ∀ e ∈ ms1, EntryOK Try.prog e := by intro e he; simp only [ms1, List.mem_cons, List.not_mem_nil, or_false] at he; subst he; exact cap_ok
def meMem (l : List (RowT spanK)) (a n : Int) : List Blk := [⟨false, .rows spanK l⟩, ⟨true, .lit [i a, i n]⟩]
def meS (l : List (RowT spanK)) (a n : Int) (j : Nat) : St := ⟨slots 19 0 [(0, .oslc 0 2 0 l.length), (1, .fn 30 [.ptr 1 0]), (7, i l.length), (8, i j)], meMem l a n⟩
inductive FY where
  | done
  | found (k : Nat)
def meO (l : List (RowT spanK)) (a n : Int) : FY → Ex × St
  | .done => (.exit 0, meS l a n l.length)
  | .found k => (.ret, ⟨slots 19 0 [(4, i k)], meMem l a n⟩)
def meP (l : List (RowT spanK)) (a n : Int) : FY → Prop
  | .done => meetsB a n l = false
  | .found k => meetsB a n l = true
theorem me_round (l : List (RowT spanK)) (a n : Int) (j : Nat) (c : Bool) (hj : j ≤ l.length) (hlen : l.length ≤ 1000) (hm : meetsB a n (l.take j) = false) (e3 : meetI a n (List.getD l j (RowT.dflt spanK)).1 (List.getD l j (RowT.dflt spanK)).2.1 = c) (f0 : l.length ≤ j → meetsB a n l = false) (f1 : c = false → j < l.length → meetsB a n (l.take (j + 1)) = false) (f2 : c = true → j < l.length → meetsB a n l = true) (hwr : IntKind.i64.wrap ((j : Int) + 1) = (j : Int) + 1) :
    (exec Try.prog (Env.of ms1 noCut noWr) 400 31 (loopOf Try.prog 31 2) (meS l a n j) fun e st => .ok (e, st)).Holds (RoundPost (fun j => j ≤ l.length ∧ meetsB a n (l.take j) = false) (meS l a n) (fun j => l.length - j) 2 (meP l a n) (meO l a n) (l.length - j)) := by
  rcases Bool.eq_false_or_eq_true (decide ((↑j : Int) < (↑(List.length l) : Int))) with g0 | g0
  · skip
    refine Tr.needH [.yes] (cs := [(_, true)]) (p := (0 : Int) ≤ (↑j : Int) ∧ (↑j : Int) < (↑(List.length l) : Int)) (by kernel_rfl) ⟨g0, trivial⟩ (by ((try simp only [q1, beq_iff_eq, beq_eq_false_iff_ne, ne_eq, bne_iff_ne, bne_eq_false_iff_eq, ge_iff_le, gt_iff_lt, if_true, if_false, reduceIte, nadd_eq, true_eq_decide_iff, false_eq_decide_iff, List.drop_zero, List.take_length, Nat.zero_add, Int.toNat_natCast] at *); (try simp only [Nat.zero_add, List.take_length, List.drop_zero, List.length_take, List.length_drop] at *); (try dsimp only [CK.T] at *); first | done | omega | (simp_all; done) | (simp_all; omega) | ((repeat' apply And.intro) <;> first | trivial | omega | (simp; done) | (simp_all; done)))) ?_
    refine Tr.needH [] (cs := []) (p := j < List.length l) (by kernel_rfl) trivial (by ((try simp only [q1, beq_iff_eq, beq_eq_false_iff_ne, ne_eq, bne_iff_ne, bne_eq_false_iff_eq, ge_iff_le, gt_iff_lt, if_true, if_false, reduceIte, nadd_eq, true_eq_decide_iff, false_eq_decide_iff, List.drop_zero, List.take_length, Nat.zero_add, Int.toNat_natCast] at *); (try simp only [Nat.zero_add, List.take_length, List.drop_zero, List.length_take, List.length_drop] at *); (try dsimp only [CK.T] at *); first | done | omega | (simp_all; done) | (simp_all; omega) | ((repeat' apply And.intro) <;> first | trivial | omega | (simp; done) | (simp_all; done)))) ?_
    rcases Bool.eq_false_or_eq_true (meetI a n (List.getD l j (RowT.dflt spanK)).fst (List.getD l j (RowT.dflt spanK)).snd.fst) with g1 | g1
    · skip
      exact Tr.outH [.yes] (cs := [(_, true)]) (by kernel_rfl) ⟨g1, trivial⟩ (FY.found j) (by kernel_rfl) (by kernel_rfl) (by (simp only [meP]; ((try simp only [e3] at *); ((try simp only [q1, beq_iff_eq, beq_eq_false_iff_ne, ne_eq, bne_iff_ne, bne_eq_false_iff_eq, ge_iff_le, gt_iff_lt, if_true, if_false, reduceIte, nadd_eq, true_eq_decide_iff, false_eq_decide_iff, List.drop_zero, List.take_length, Nat.zero_add, Int.toNat_natCast] at *); (try simp only [Nat.zero_add, List.take_length, List.drop_zero, List.length_take, List.length_drop] at *); (try dsimp only [CK.T] at *); first | done | omega | (simp_all; done) | (simp_all; omega) | ((repeat' apply And.intro) <;> first | trivial | omega | (simp; done) | (simp_all; done)))))) [0, 1] (by kernel_rfl) (q := Value.int IntKind.i64 (↑j : Int) = Value.int IntKind.i64 (↑j : Int) ∧ Body.rows spanK l = Body.rows spanK l ∧ false = false ∧ true = true ∧ Value.int IntKind.i64 a = Value.int IntKind.i64 a ∧ Value.int IntKind.i64 n = Value.int IntKind.i64 n ∧ True) (by kernel_rfl) (by (repeat' apply And.intro) <;> first | rfl | trivial | (refine congrArg (Value.int _) ?_; ((try simp only [q1, beq_iff_eq, beq_eq_false_iff_ne, ne_eq, bne_iff_ne, bne_eq_false_iff_eq, ge_iff_le, gt_iff_lt, if_true, if_false, reduceIte, nadd_eq, true_eq_decide_iff, false_eq_decide_iff, List.drop_zero, List.take_length, Nat.zero_add, Int.toNat_natCast] at *); (try simp only [Nat.zero_add, List.take_length, List.drop_zero, List.length_take, List.length_drop] at *); (try dsimp only [CK.T] at *); first | done | omega | (simp_all; done) | (simp_all; omega) | ((repeat' apply And.intro) <;> first | trivial | omega | (simp; done) | (simp_all; done)))) | (simp_all; done))
    · skip
      exact Tr.againH [.no] (cs := [(_, false)]) (by kernel_rfl) ⟨g1, trivial⟩ (j + 1) (by kernel_rfl) (by ((try simp only [e3] at *); ((try simp only [q1, beq_iff_eq, beq_eq_false_iff_ne, ne_eq, bne_iff_ne, bne_eq_false_iff_eq, ge_iff_le, gt_iff_lt, if_true, if_false, reduceIte, nadd_eq, true_eq_decide_iff, false_eq_decide_iff, List.drop_zero, List.take_length, Nat.zero_add, Int.toNat_natCast] at *); (try simp only [Nat.zero_add, List.take_length, List.drop_zero, List.length_take, List.length_drop] at *); (try dsimp only [CK.T] at *); first | done | omega | (simp_all; done) | (simp_all; omega) | ((repeat' apply And.intro) <;> first | trivial | omega | (simp; done) | (simp_all; done))))) (by ((try simp only [e3] at *); ((try simp only [q1, beq_iff_eq, beq_eq_false_iff_ne, ne_eq, bne_iff_ne, bne_eq_false_iff_eq, ge_iff_le, gt_iff_lt, if_true, if_false, reduceIte, nadd_eq, true_eq_decide_iff, false_eq_decide_iff, List.drop_zero, List.take_length, Nat.zero_add, Int.toNat_natCast] at *); (try simp only [Nat.zero_add, List.take_length, List.drop_zero, List.length_take, List.length_drop] at *); (try dsimp only [CK.T] at *); first | done | omega | (simp_all; done) | (simp_all; omega) | ((repeat' apply And.intro) <;> first | trivial | omega | (simp; done) | (simp_all; done))))) [0, 1] (by kernel_rfl) (q := ((0 : Nat), (2 : Nat), (0 : Nat), List.length l) = ((0 : Nat), (2 : Nat), (0 : Nat), List.length l) ∧ nat_lit 30 = nat_lit 30 ∧ ((1 : Nat), (0 : Nat)) = ((1 : Nat), (0 : Nat)) ∧ Value.int IntKind.i64 (↑(List.length l) : Int) = Value.int IntKind.i64 (↑(List.length l) : Int) ∧ Value.int IntKind.i64 (IntKind.wrap IntKind.i64 ((↑j : Int) + (1 : Int))) = Value.int IntKind.i64 (↑(j + (1 : Nat)) : Int) ∧ Body.rows spanK l = Body.rows spanK l ∧ false = false ∧ true = true ∧ Value.int IntKind.i64 a = Value.int IntKind.i64 a ∧ Value.int IntKind.i64 n = Value.int IntKind.i64 n ∧ True) (by kernel_rfl) (by (repeat' apply And.intro) <;> first | rfl | trivial | (refine congrArg (Value.int _) ?_; ((try simp only [q1, beq_iff_eq, beq_eq_false_iff_ne, ne_eq, bne_iff_ne, bne_eq_false_iff_eq, ge_iff_le, gt_iff_lt, if_true, if_false, reduceIte, nadd_eq, true_eq_decide_iff, false_eq_decide_iff, List.drop_zero, List.take_length, Nat.zero_add, Int.toNat_natCast] at *); (try simp only [Nat.zero_add, List.take_length, List.drop_zero, List.length_take, List.length_drop] at *); (try dsimp only [CK.T] at *); first | done | omega | (simp_all; done) | (simp_all; omega) | ((repeat' apply And.intro) <;> first | trivial | omega | (simp; done) | (simp_all; done)))) | (simp_all; done))
  · skip
    exact Tr.outH [.no] (cs := [(_, false)]) (by kernel_rfl) ⟨g0, trivial⟩ (FY.done) (by kernel_rfl) (by kernel_rfl) (by (simp only [meP]; ((try simp only [e3] at *); ((try simp only [q1, beq_iff_eq, beq_eq_false_iff_ne, ne_eq, bne_iff_ne, bne_eq_false_iff_eq, ge_iff_le, gt_iff_lt, if_true, if_false, reduceIte, nadd_eq, true_eq_decide_iff, false_eq_decide_iff, List.drop_zero, List.take_length, Nat.zero_add, Int.toNat_natCast] at *); (try simp only [Nat.zero_add, List.take_length, List.drop_zero, List.length_take, List.length_drop] at *); (try dsimp only [CK.T] at *); first | done | omega | (simp_all; done) | (simp_all; omega) | ((repeat' apply And.intro) <;> first | trivial | omega | (simp; done) | (simp_all; done)))))) [0, 1] (by kernel_rfl) (q := ((0 : Nat), (2 : Nat), (0 : Nat), List.length l) = ((0 : Nat), (2 : Nat), (0 : Nat), List.length l) ∧ nat_lit 30 = nat_lit 30 ∧ ((1 : Nat), (0 : Nat)) = ((1 : Nat), (0 : Nat)) ∧ Value.int IntKind.i64 (↑(List.length l) : Int) = Value.int IntKind.i64 (↑(List.length l) : Int) ∧ Value.int IntKind.i64 (↑j : Int) = Value.int IntKind.i64 (↑(List.length l) : Int) ∧ Body.rows spanK l = Body.rows spanK l ∧ false = false ∧ true = true ∧ Value.int IntKind.i64 a = Value.int IntKind.i64 a ∧ Value.int IntKind.i64 n = Value.int IntKind.i64 n ∧ True) (by kernel_rfl) (by (repeat' apply And.intro) <;> first | rfl | trivial | (refine congrArg (Value.int _) ?_; ((try simp only [q1, beq_iff_eq, beq_eq_false_iff_ne, ne_eq, bne_iff_ne, bne_eq_false_iff_eq, ge_iff_le, gt_iff_lt, if_true, if_false, reduceIte, nadd_eq, true_eq_decide_iff, false_eq_decide_iff, List.drop_zero, List.take_length, Nat.zero_add, Int.toNat_natCast] at *); (try simp only [Nat.zero_add, List.take_length, List.drop_zero, List.length_take, List.length_drop] at *); (try dsimp only [CK.T] at *); first | done | omega | (simp_all; done) | (simp_all; omega) | ((repeat' apply And.intro) <;> first | trivial | omega | (simp; done) | (simp_all; done)))) | (simp_all; done))
theorem any_take_succ {α : Type} (f : α → Bool) : ∀ (l : List α) (j : Nat) (x : α), l[j]? = some x → (l.take (j + 1)).any f = ((l.take j).any f || f x)
  | [], j, x, h => by simp at h
  | y :: ys, 0, x, h => by simp at h; simp [h]
  | y :: ys, j + 1, x, h => by
    have := any_take_succ f ys j x (by simpa using h)
    simp only [List.take_succ_cons, List.any_cons, this, Bool.or_assoc]
theorem getD_some {ks : List CK} {l : List (RowT ks)} {j : Nat} (h : j < l.length) : l[j]? = some (List.getD l j (RowT.dflt ks)) := by
  rw [List.getD_eq_getElem?_getD, List.getElem?_eq_getElem h]; rfl
theorem me_loop (l : List (RowT spanK)) (a n : Int) (hlen : l.length ≤ 1000) : LoopFrom Try.prog (loopOf Try.prog 31 2) 2 (meS l a n 0) FY (meP l a n) (meO l a n) :=
  loopFromH hng hmix (Γ := Env.of ms1 noCut noWr) (EnvOK.of ms1_ok) 400 31 (fun j => j ≤ l.length ∧ meetsB a n (l.take j) = false) (meS l a n) (fun j => l.length - j) 2 0 ⟨Nat.zero_le _, by simp [meetsB]⟩ fun j hj => by
    have hs : j < l.length → meetsB a n (l.take (j + 1)) = (meetsB a n (l.take j) || meetI a n (List.getD l j (RowT.dflt spanK)).1 (List.getD l j (RowT.dflt spanK)).2.1) := fun h => any_take_succ _ l j _ (getD_some h)
    refine me_round l a n j _ hj.1 hlen hj.2 rfl (fun h => by have := hj.2; rw [List.take_of_length_le h] at this; exact this) (fun h1 h2 => by rw [hs h2, hj.2, h1]; rfl) (fun h1 h2 => ?_) (wrapSucc (Nat.le_trans hj.1 hlen))
    unfold meetsB
    rw [List.any_eq_true]
    exact ⟨_, List.mem_of_getElem? (getD_some h2), h1⟩
def meetsO (l : List (RowT spanK)) (a n : Int) : SV × List Blk := (b (meetsB a n l), [⟨false, .rows spanK l⟩])
theorem meets_tree (l : List (RowT spanK)) (a n : Int) (hlen : l.length ≤ 1000) : (callX Try.prog (Env.of ms1 (fun f _ => f == 31) noWr) 400 28 [.agg [i a, i n], .oslc 0 2 0 l.length] [⟨false, .rows spanK l⟩] fin).Holds (Post 1 (.need (l.length ≤ 1000) (.ok (meetsO l a n)))) := by
  refine Tr.loopH [] (cs := []) (by kernel_rfl) trivial (b := loopOf Try.prog 31 2) (by kernel_rfl) (st1 := meS l a n 0) (by kernel_rfl) [0, 1] (by kernel_rfl) (q := ((0 : Nat), (2 : Nat), (0 : Nat), List.length l) = ((0 : Nat), (2 : Nat), (0 : Nat), List.length l) ∧ nat_lit 30 = nat_lit 30 ∧ ((1 : Nat), (0 : Nat)) = ((1 : Nat), (0 : Nat)) ∧ Value.int IntKind.i64 (↑(List.length l) : Int) = Value.int IntKind.i64 (↑(List.length l) : Int) ∧ Value.int IntKind.i64 (0 : Int) = Value.int IntKind.i64 (0 : Int) ∧ Body.rows spanK l = Body.rows spanK l ∧ false = false ∧ true = true ∧ Value.int IntKind.i64 a = Value.int IntKind.i64 a ∧ Value.int IntKind.i64 n = Value.int IntKind.i64 n ∧ True) (by kernel_rfl) (by simp) (me_loop l a n hlen) ?_
  intro y0 hy0
  rcases y0 with _ | k
  · skip
    exact Tr.postH [] (cs := []) (by kernel_rfl) trivial (meetsO l a n) (fun _ h => Post.need h) [0] (by kernel_rfl) (q := Value.bool false = Value.bool (meetsB a n l) ∧ Body.rows spanK l = Body.rows spanK l ∧ false = false ∧ True) (by kernel_rfl) (by (repeat' apply And.intro) <;> first | rfl | trivial | (simp only [meP] at *; simp_all; done))
  · skip
    exact Tr.postH [] (cs := []) (by kernel_rfl) trivial (meetsO l a n) (fun _ h => Post.need h) [0] (by kernel_rfl) (q := Value.bool (decide ((↑k : Int) ≥ (0 : Int))) = Value.bool (meetsB a n l) ∧ Body.rows spanK l = Body.rows spanK l ∧ false = false ∧ True) (by kernel_rfl) (by (repeat' apply And.intro) <;> first | rfl | trivial | (simp only [meP] at *; simp_all; done))
def meetsG (args : List SV) (mem : List Blk) : Option (Tr (SV × List Blk)) := match args, mem with
  | [.agg [.v (.int .i64 a), .v (.int .i64 n)], .oslc 0 2 0 k], [⟨false, .rows [.int .i64, .int .i64] l⟩] => some (.need (k = l.length) (.need (l.length ≤ 1000) (.ok (meetsO l a n))))
  | _, _ => none
def eMeets : Entry := frameE [(1, spanK)] (toldE 28 meetsG)
theorem meets_ok : EntryOK Try.prog eMeets := frameE_ok (toldE_ok hng hmix (l := ms1) (cut := fun f _ => f == 31) (wr := noWr) ms1_ok 400 28 Try.func28 (by kernel_rfl) (by simp [ms1, eCap, frameE, toldE]) (by
  intro args mem T hT R hR
  unfold meetsG at hT
  split at hT
  · cases hT
    obtain ⟨rfl, h2⟩ := hR
    exact Tr.Holds.mono (meets_tree _ _ _ (h2 rfl).1) fun r h => Post.need h
  · cases hT))
end Go.Proofs.Ytnmmicnlpjmciaa
