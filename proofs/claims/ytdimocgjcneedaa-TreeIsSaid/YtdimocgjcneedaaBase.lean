/-
  Words for trees; which trees are low.
-/
import Derived.Test.YtdimocgjcneedaaSy
import Derived.Test.YtdimocgjcneedaaRows
set_option linter.unusedVariables false
set_option linter.unusedSimpArgs false
namespace Go.Proofs.Ytdimocgjcneedaa
open Sx
set_option maxRecDepth 100000
set_option maxHeartbeats 4000000
def i (n : Int) : SV := .v (.int .i64 n)
def b (n : Bool) : SV := .v (.bool n)
def str (s : ByteArray) : SV := .v (.string s)
def fin (s : SV) (mem : List Blk) : Tr (SV × List Blk) := .ok (s, mem)
def noCut : FuncId → Nat → Bool := fun _ _ => false
def noWr : FuncId → Nat → List Nat := fun _ _ => []
theorem wrapId {n : Int} (h0 : -9223372036854775808 ≤ n) (h1 : n ≤ 9223372036854775807) : IntKind.i64.wrap n = n := by
  simp [IntKind.wrap, IntKind.signed, IntKind.bits]; split <;> omega
theorem wrapSucc {n : Nat} (h : n ≤ 1000) : IntKind.i64.wrap ((n : Int) + 1) = (n : Int) + 1 := wrapId (by omega) (by omega)
theorem hng : NoNG Try.prog := by
  have h : (Try.prog.funcs.all fun fn => !(fn.name == "runtime.NumGoroutine")) = true := by kernel_rfl
  intro f fn hf
  have := Array.all_eq_true'.1 h fn (Array.mem_of_getElem? hf)
  simpa using this
theorem hmix : Try.prog.follows .mixedOrders = true := by kernel_rfl
theorem Tr.Holds.mono {α : Type} {Q Q' : α → Prop} {t : Tr α} (h : t.Holds Q) (hq : ∀ a, Q a → Q' a) : t.Holds Q' := ⟨Tr.holds.mono hq t h.out⟩
theorem getD_at {α : Type} {l : List α} {j : Nat} (d : α) (h : j < l.length) : l.drop j = List.getD l j d :: l.drop (j + 1) := by
  rw [List.getD_eq_getElem?_getD, List.getElem?_eq_getElem h]; exact List.drop_eq_getElem_cons h
theorem all_drop {α : Type} (f : α → Bool) (l : List α) (d : α) {j : Nat} (h : j < l.length) : (l.drop j).all f = (f (List.getD l j d) && (l.drop (j + 1)).all f) := by rw [getD_at d h, List.all_cons]
theorem and_true_of {a c r : Bool} (q : (a && c) = r) (h : a = true) : c = r := by rw [h, Bool.true_and] at q; exact q
theorem and_false_of {a c r : Bool} (q : (a && c) = r) (h : a = false) : r = false := by rw [h, Bool.false_and] at q; exact q.symm
/-- a node in a block of its own -/
def nodeCells (n : PNode) : List SV := [.v (.string n.name), .sv (.sl propK) (n.pv, n.props), .sv .nodes (n.kv, n.kids)]
def nodeB (n : PNode) : Blk := ⟨true, .lit (nodeCells n)⟩
mutual
/-- no node has many parts -/
def okT : PNode → Prop
  | .mk _ _ ps _ ks => ps.length ≤ 1000 ∧ ks.length ≤ 1000 ∧ okL ks
def okL : List PNode → Prop
  | [] => True
  | n :: l => okT n ∧ okL l
end
theorem okL_mem : ∀ {l : List PNode}, okL l → ∀ n ∈ l, okT n
  | m :: l, ⟨h1, h2⟩, n, h => by
    rcases List.mem_cons.1 h with rfl | h
    · exact h1
    · exact okL_mem h2 n h
theorem okL_of : ∀ {l : List PNode}, (∀ n ∈ l, okT n) → okL l
  | [], _ => trivial
  | n :: l, h => ⟨h n (by simp), okL_of fun m hm => h m (by simp [hm])⟩
theorem okT_props {n : PNode} (h : okT n) : n.props.length ≤ 1000 := by cases n; exact h.1
theorem okT_kids {n : PNode} (h : okT n) : n.kids.length ≤ 1000 := by cases n; exact h.2.1
theorem okT_list {n : PNode} (h : okT n) : okL n.kids := by cases n; exact h.2.2
theorem okT_mk {n : PNode} (h1 : n.props.length ≤ 1000) (h2 : n.kids.length ≤ 1000) (h3 : ∀ k ∈ n.kids, okT k) : okT n := by cases n; exact ⟨h1, h2, okL_of h3⟩
theorem getD_mem {α : Type} {l : List α} {j : Nat} (d : α) (h : j < l.length) : List.getD l j d ∈ l := by
  rw [List.getD_eq_getElem?_getD, List.getElem?_eq_getElem h]; exact List.getElem_mem h
theorem okT_kid {n : PNode} (h : okT n) (j : Nat) : okT (List.getD n.kids j nodeDflt) := by
  by_cases hj : j < n.kids.length
  · exact okL_mem (okT_list h) _ (getD_mem _ hj)
  · rw [List.getD_eq_getElem?_getD, List.getElem?_eq_none (by omega)]
    exact ⟨Nat.zero_le _, Nat.zero_le _, trivial⟩
def tPre (a : PNode × Int) : Prop := (0 ≤ a.2 ∧ a.2 ≤ 1000) ∧ okT a.1
theorem tPre_mk {n : PNode} {lv : Int} {k : Nat} (h : 0 ≤ lv) (h1 : lv ≤ 1000) (h2 : lv < k) (h3 : okT n) : tPre (n, lv) ∧ lv.toNat < k := ⟨⟨⟨h, h1⟩, h3⟩, by omega⟩
inductive FY where
  | done
  | found
/-! ### low -/
def lowP (x : RowT propK) : Bool := decide (((x.1 : ByteArray).size : Int) ≤ 100) && decide (((x.2.1 : ByteArray).size : Int) ≤ 300)
theorem lowP_true {x : RowT propK} (h1 : (x.1 : ByteArray).size ≤ 100) (h2 : (x.2.1 : ByteArray).size ≤ 300) : lowP x = true := by
  simp only [lowP, Bool.and_eq_true, decide_eq_true_eq]; omega
theorem lowP_false {x : RowT propK} (h : ¬ ((x.1 : ByteArray).size ≤ 100 ∧ (x.2.1 : ByteArray).size ≤ 300)) : lowP x = false := by
  rw [Bool.eq_false_iff]; intro hc
  simp only [lowP, Bool.and_eq_true, decide_eq_true_eq] at hc
  exact h (by omega)
def lowF : Nat → PNode → Bool
  | 0, _ => false
  | lv + 1, n => decide ((n.name.size : Int) ≤ 100) && decide ((n.props.length : Int) ≤ 300) && decide ((n.kids.length : Int) ≤ 80) && n.props.all lowP && n.kids.all (lowF lv)
theorem lowF_ok : ∀ (lv : Nat) (n : PNode), lowF lv n = true → okT n
  | 0, n, h => by simp [lowF] at h
  | lv + 1, n, h => by
    simp only [lowF, Bool.and_eq_true, decide_eq_true_eq, List.all_eq_true] at h
    exact okT_mk (by omega) (by omega) fun k hk => lowF_ok lv k (h.2 k hk)
theorem lowF_eq {lv : Int} (h : 0 ≤ lv) (h0 : lv ≠ 0) (n : PNode) : lowF lv.toNat n = (decide ((n.name.size : Int) ≤ 100) && decide ((n.props.length : Int) ≤ 300) && decide ((n.kids.length : Int) ≤ 80) && n.props.all lowP && n.kids.all (lowF (lv - 1).toNat)) := by
  have : lv.toNat = (lv - 1).toNat + 1 := by omega
  rw [this]; rfl
def lvPre (a : PNode × Int) : Prop := 0 ≤ a.2 ∧ a.2 ≤ 1000
theorem lvPre_mk {n : PNode} {lv : Int} {k : Nat} (h : 0 ≤ lv) (h1 : lv ≤ 1000) (h2 : lv < k) : lvPre (n, lv) ∧ lv.toNat < k := ⟨⟨h, h1⟩, by omega⟩
def lvM (a : PNode × Int) : Nat := a.2.toNat
def lowR (a : PNode × Int) : SV := b (lowF a.2.toNat a.1)
def lowK (k : Nat) : Entry := pureSk 27 shN1i lvPre lowR lvM k
def low1S (n : PNode) (lv : Int) (j : Nat) : St := ⟨slots 68 0 [(1, i lv), (2, .ptr 0 0), (5, i j)], [nodeB n]⟩
def low1O (n : PNode) (lv : Int) : FY → Ex × St
  | .done => (.exit 0, ⟨slots 68 0 [(1, i lv), (2, .ptr 0 0)], [nodeB n]⟩)
  | .found => (.ret, ⟨slots 68 0 [(4, b false)], [nodeB n]⟩)
def low1P (n : PNode) : FY → Prop
  | .done => n.props.all lowP = true
  | .found => n.props.all lowP = false
def low1I (n : PNode) (j : Nat) : Prop := j ≤ n.props.length ∧ (n.props.drop j).all lowP = n.props.all lowP
theorem low1_round (n : PNode) (lv : Int) (j : Nat) (hj : j ≤ n.props.length) (hlen : n.props.length ≤ 300) (hwr : IntKind.i64.wrap ((j : Int) + 1) = (j : Int) + 1) (f0 : n.props.length ≤ j → n.props.all lowP = true) (f1 : j < n.props.length → ((List.getD n.props j (RowT.dflt propK)).1 : ByteArray).size ≤ 100 → ((List.getD n.props j (RowT.dflt propK)).2.1 : ByteArray).size ≤ 300 → low1I n (j + 1)) (f2 : j < n.props.length → ¬ (((List.getD n.props j (RowT.dflt propK)).1 : ByteArray).size ≤ 100 ∧ ((List.getD n.props j (RowT.dflt propK)).2.1 : ByteArray).size ≤ 300) → n.props.all lowP = false) : (exec Try.prog (Env.of [] noCut noWr) 400 27 (loopOf Try.prog 27 4) (low1S n lv j) fun e st => Tr.ok (e, st)).Holds (RoundPost (low1I n) (low1S n lv) (fun j => n.props.length - j) 1 (low1P n) (low1O n lv) (n.props.length - j)) := by
  rcases Bool.eq_false_or_eq_true (decide ((↑j : Int) < (↑(List.length (PNode.props n)) : Int))) with g0 | g0
  · skip
    refine Tr.needH [.yes] (cs := [(_, true)]) (p := (0 : Int) ≤ (↑j : Int) ∧ (↑j : Int) < (↑(List.length (PNode.props n)) : Int)) (by kernel_rfl) ⟨g0, trivial⟩ (by ((try clear f0); (try clear f1); (try clear f2); (try clear f3); (try clear f4); (try simp only [hw, hwr] at *); (try simp only [q1, q2, ne_eq, reduceIte, PNode.ofRow] at *); (try dsimp only [CK.T] at *); first | done | omega)) ?_
    refine Tr.needH [] (cs := []) (p := j < List.length (PNode.props n)) (by kernel_rfl) trivial (by ((try clear f0); (try clear f1); (try clear f2); (try clear f3); (try clear f4); (try simp only [hw, hwr] at *); (try simp only [q1, q2, ne_eq, reduceIte, PNode.ofRow] at *); (try dsimp only [CK.T] at *); first | done | omega)) ?_
    rcases Bool.eq_false_or_eq_true (decide ((↑(ByteArray.size (List.getD (PNode.props n) j (RowT.dflt propK)).fst) : Int) > (100 : Int))) with g1 | g1
    · skip
      exact Tr.outH [.yes, .run 9] (cs := [(_, true)]) (by kernel_rfl) ⟨g1, trivial⟩ (FY.found) (by kernel_rfl) (by kernel_rfl) (by first | exact f0 (by ((try clear f0); (try clear f1); (try clear f2); (try clear f3); (try clear f4); (try simp only [hw, hwr] at *); (try simp only [q1, q2, ne_eq, reduceIte, PNode.ofRow] at *); (try dsimp only [CK.T] at *); first | done | omega)) | exact f2 (by ((try clear f0); (try clear f1); (try clear f2); (try clear f3); (try clear f4); (try simp only [hw, hwr] at *); (try simp only [q1, q2, ne_eq, reduceIte, PNode.ofRow] at *); (try dsimp only [CK.T] at *); first | done | omega)) (by ((try clear f0); (try clear f1); (try clear f2); (try clear f3); (try clear f4); (try simp only [hw, hwr] at *); (try simp only [q1, q2, ne_eq, reduceIte, PNode.ofRow] at *); (try dsimp only [CK.T] at *); first | done | omega))) [0] (by kernel_rfl) (q := true = true ∧ Value.bool false = Value.bool false ∧ true = true ∧ Value.string (PNode.name n) = Value.string (PNode.name n) ∧ some (PNode.pv n, PNode.props n) = some (PNode.pv n, PNode.props n) ∧ some (PNode.kv n, PNode.kids n) = some (PNode.kv n, PNode.kids n) ∧ True) (by kernel_rfl) (by (repeat' apply And.intro) <;> first | rfl | trivial | (refine congrArg (Value.int _) ?_; ((try clear f0); (try clear f1); (try clear f2); (try clear f3); (try clear f4); (try simp only [hw, hwr] at *); (try simp only [q1, q2, ne_eq, reduceIte, PNode.ofRow] at *); (try dsimp only [CK.T] at *); first | done | omega)))
    · skip
      refine Tr.needH [.no, .run 3] (cs := [(_, false)]) (p := (0 : Int) ≤ (↑j : Int) ∧ (↑j : Int) < (↑(List.length (PNode.props n)) : Int)) (by kernel_rfl) ⟨g1, trivial⟩ (by ((try clear f0); (try clear f1); (try clear f2); (try clear f3); (try clear f4); (try simp only [hw, hwr] at *); (try simp only [q1, q2, ne_eq, reduceIte, PNode.ofRow] at *); (try dsimp only [CK.T] at *); first | done | omega)) ?_
      refine Tr.needH [.run 2] (cs := []) (p := j < List.length (PNode.props n)) (by kernel_rfl) trivial (by ((try clear f0); (try clear f1); (try clear f2); (try clear f3); (try clear f4); (try simp only [hw, hwr] at *); (try simp only [q1, q2, ne_eq, reduceIte, PNode.ofRow] at *); (try dsimp only [CK.T] at *); first | done | omega)) ?_
      rcases Bool.eq_false_or_eq_true (decide ((↑(ByteArray.size (List.getD (PNode.props n) j (RowT.dflt propK)).snd.fst) : Int) > (300 : Int))) with g2 | g2
      · skip
        exact Tr.outH [.run 3, .yes] (cs := [(_, true)]) (by kernel_rfl) ⟨g2, trivial⟩ (FY.found) (by kernel_rfl) (by kernel_rfl) (by first | exact f0 (by ((try clear f0); (try clear f1); (try clear f2); (try clear f3); (try clear f4); (try simp only [hw, hwr] at *); (try simp only [q1, q2, ne_eq, reduceIte, PNode.ofRow] at *); (try dsimp only [CK.T] at *); first | done | omega)) | exact f2 (by ((try clear f0); (try clear f1); (try clear f2); (try clear f3); (try clear f4); (try simp only [hw, hwr] at *); (try simp only [q1, q2, ne_eq, reduceIte, PNode.ofRow] at *); (try dsimp only [CK.T] at *); first | done | omega)) (by ((try clear f0); (try clear f1); (try clear f2); (try clear f3); (try clear f4); (try simp only [hw, hwr] at *); (try simp only [q1, q2, ne_eq, reduceIte, PNode.ofRow] at *); (try dsimp only [CK.T] at *); first | done | omega))) [0] (by kernel_rfl) (q := true = true ∧ Value.bool false = Value.bool false ∧ true = true ∧ Value.string (PNode.name n) = Value.string (PNode.name n) ∧ some (PNode.pv n, PNode.props n) = some (PNode.pv n, PNode.props n) ∧ some (PNode.kv n, PNode.kids n) = some (PNode.kv n, PNode.kids n) ∧ True) (by kernel_rfl) (by (repeat' apply And.intro) <;> first | rfl | trivial | (refine congrArg (Value.int _) ?_; ((try clear f0); (try clear f1); (try clear f2); (try clear f3); (try clear f4); (try simp only [hw, hwr] at *); (try simp only [q1, q2, ne_eq, reduceIte, PNode.ofRow] at *); (try dsimp only [CK.T] at *); first | done | omega)))
      · skip
        exact Tr.againH [.run 3, .no] (cs := [(_, false)]) (by kernel_rfl) ⟨g2, trivial⟩ (j + 1) (by kernel_rfl) (by exact f1 (by ((try clear f0); (try clear f1); (try clear f2); (try clear f3); (try clear f4); (try simp only [hw, hwr] at *); (try simp only [q1, q2, ne_eq, reduceIte, PNode.ofRow] at *); (try dsimp only [CK.T] at *); first | done | omega)) (by ((try clear f0); (try clear f1); (try clear f2); (try clear f3); (try clear f4); (try simp only [hw, hwr] at *); (try simp only [q1, q2, ne_eq, reduceIte, PNode.ofRow] at *); (try dsimp only [CK.T] at *); first | done | omega)) (by ((try clear f0); (try clear f1); (try clear f2); (try clear f3); (try clear f4); (try simp only [hw, hwr] at *); (try simp only [q1, q2, ne_eq, reduceIte, PNode.ofRow] at *); (try dsimp only [CK.T] at *); first | done | omega))) (by ((try clear f0); (try clear f1); (try clear f2); (try clear f3); (try clear f4); (try simp only [hw, hwr] at *); (try simp only [q1, q2, ne_eq, reduceIte, PNode.ofRow] at *); (try dsimp only [CK.T] at *); first | done | omega)) [0] (by kernel_rfl) (q := true = true ∧ Value.int IntKind.i64 lv = Value.int IntKind.i64 lv ∧ ((0 : Nat), (0 : Nat)) = ((0 : Nat), (0 : Nat)) ∧ Value.int IntKind.i64 (IntKind.wrap IntKind.i64 ((↑j : Int) + (1 : Int))) = Value.int IntKind.i64 (↑(j + (1 : Nat)) : Int) ∧ true = true ∧ Value.string (PNode.name n) = Value.string (PNode.name n) ∧ some (PNode.pv n, PNode.props n) = some (PNode.pv n, PNode.props n) ∧ some (PNode.kv n, PNode.kids n) = some (PNode.kv n, PNode.kids n) ∧ True) (by kernel_rfl) (by (repeat' apply And.intro) <;> first | rfl | trivial | (refine congrArg (Value.int _) ?_; ((try clear f0); (try clear f1); (try clear f2); (try clear f3); (try clear f4); (try simp only [hw, hwr] at *); (try simp only [q1, q2, ne_eq, reduceIte, PNode.ofRow] at *); (try dsimp only [CK.T] at *); first | done | omega)))
  · skip
    exact Tr.outH [.no] (cs := [(_, false)]) (by kernel_rfl) ⟨g0, trivial⟩ (FY.done) (by kernel_rfl) (by kernel_rfl) (by first | exact f0 (by ((try clear f0); (try clear f1); (try clear f2); (try clear f3); (try clear f4); (try simp only [hw, hwr] at *); (try simp only [q1, q2, ne_eq, reduceIte, PNode.ofRow] at *); (try dsimp only [CK.T] at *); first | done | omega)) | exact f2 (by ((try clear f0); (try clear f1); (try clear f2); (try clear f3); (try clear f4); (try simp only [hw, hwr] at *); (try simp only [q1, q2, ne_eq, reduceIte, PNode.ofRow] at *); (try dsimp only [CK.T] at *); first | done | omega)) (by ((try clear f0); (try clear f1); (try clear f2); (try clear f3); (try clear f4); (try simp only [hw, hwr] at *); (try simp only [q1, q2, ne_eq, reduceIte, PNode.ofRow] at *); (try dsimp only [CK.T] at *); first | done | omega))) [0] (by kernel_rfl) (q := true = true ∧ Value.int IntKind.i64 lv = Value.int IntKind.i64 lv ∧ ((0 : Nat), (0 : Nat)) = ((0 : Nat), (0 : Nat)) ∧ true = true ∧ Value.string (PNode.name n) = Value.string (PNode.name n) ∧ some (PNode.pv n, PNode.props n) = some (PNode.pv n, PNode.props n) ∧ some (PNode.kv n, PNode.kids n) = some (PNode.kv n, PNode.kids n) ∧ True) (by kernel_rfl) (by (repeat' apply And.intro) <;> first | rfl | trivial | (refine congrArg (Value.int _) ?_; ((try clear f0); (try clear f1); (try clear f2); (try clear f3); (try clear f4); (try simp only [hw, hwr] at *); (try simp only [q1, q2, ne_eq, reduceIte, PNode.ofRow] at *); (try dsimp only [CK.T] at *); first | done | omega)))
theorem low1 (n : PNode) (lv : Int) (hlen : n.props.length ≤ 300) : LoopFrom Try.prog (loopOf Try.prog 27 4) 1 (low1S n lv 0) FY (low1P n) (low1O n lv) :=
  loopFromH hng hmix (Γ := Env.of [] noCut noWr) (EnvOK.of (by simp)) 400 27 (low1I n) (low1S n lv) (fun j => n.props.length - j) 1 0 ⟨Nat.zero_le _, by simp⟩ fun j hj => by
    have ha := fun h => (all_drop (α := RowT propK) lowP n.props (RowT.dflt propK) (j := j) h).symm.trans hj.2
    refine low1_round n lv j hj.1 hlen (wrapSucc (by have := hj.1; omega)) (fun h => ?_) (fun h h1 h2 => ⟨h, ?_⟩) (fun h h1 => ?_)
    · have := hj.2; rw [List.drop_eq_nil_of_le h] at this; rw [← this]; rfl
    · have q := ha h
      exact and_true_of q (lowP_true h1 h2)
    · have q := ha h
      exact (and_false_of q (lowP_false h1))
def low2S (n : PNode) (lv : Int) (j : Nat) : St := ⟨slots 68 0 [(1, i lv), (2, .ptr 0 0), (6, i j)], [nodeB n]⟩
def low2O (n : PNode) (lv : Int) : FY → Ex × St
  | .done => (.exit 2, ⟨slots 68 0 [], [nodeB n]⟩)
  | .found => (.ret, ⟨slots 68 0 [(4, b false)], [nodeB n]⟩)
def low2P (n : PNode) (lv : Int) : FY → Prop
  | .done => n.kids.all (lowF (lv - 1).toNat) = true
  | .found => n.kids.all (lowF (lv - 1).toNat) = false
def low2I (n : PNode) (lv : Int) (j : Nat) : Prop := j ≤ n.kids.length ∧ (n.kids.drop j).all (lowF (lv - 1).toNat) = n.kids.all (lowF (lv - 1).toNat)
theorem low2_round (n : PNode) (lv : Int) (j k : Nat) (c : Bool) (hlv : 0 ≤ lv) (hlv1 : lv ≤ 1000) (hlv0 : lv ≠ 0) (hk : lv ≤ k) (hj : j ≤ n.kids.length) (hlen : n.kids.length ≤ 80) (hw : IntKind.i64.wrap (lv - 1) = lv - 1) (hwr : IntKind.i64.wrap ((j : Int) + 1) = (j : Int) + 1) (e3 : lowF (lv - 1).toNat (List.getD n.kids j nodeDflt) = c) (f0 : n.kids.length ≤ j → low2P n lv .done) (f1 : j < n.kids.length → c = true → low2I n lv (j + 1)) (f2 : j < n.kids.length → c = false → low2P n lv .found) : (exec Try.prog (Env.of [lowK k] noCut noWr) 400 27 (loopOf Try.prog 27 9) (low2S n lv j) fun e st => Tr.ok (e, st)).Holds (RoundPost (low2I n lv) (low2S n lv) (fun j => n.kids.length - j) 1 (low2P n lv) (low2O n lv) (n.kids.length - j)) := by
  rcases Bool.eq_false_or_eq_true (decide ((↑j : Int) < (↑(List.length (PNode.kids n)) : Int))) with g0 | g0
  · skip
    refine Tr.needH [.yes] (cs := [(_, true)]) (p := (0 : Int) ≤ (↑j : Int) ∧ (↑j : Int) < (↑(List.length (PNode.kids n)) : Int)) (by kernel_rfl) ⟨g0, trivial⟩ (by first | (((try clear f0); (try clear f1); (try clear f2); (try clear f3); (try clear f4); (try simp only [hw, hwr] at *); (try simp only [q1, q2, ne_eq, reduceIte, PNode.ofRow] at *); (try dsimp only [CK.T] at *); first | done | omega)) | (refine lvPre_mk ?_ ?_ ?_ <;> ((try clear f0); (try clear f1); (try clear f2); (try clear f3); (try clear f4); (try simp only [hw, hwr] at *); (try simp only [q1, q2, ne_eq, reduceIte, PNode.ofRow] at *); (try dsimp only [CK.T] at *); first | done | omega))) ?_
    refine Tr.needH [] (cs := []) (p := j < List.length (PNode.kids n)) (by kernel_rfl) trivial (by first | (((try clear f0); (try clear f1); (try clear f2); (try clear f3); (try clear f4); (try simp only [hw, hwr] at *); (try simp only [q1, q2, ne_eq, reduceIte, PNode.ofRow] at *); (try dsimp only [CK.T] at *); first | done | omega)) | (refine lvPre_mk ?_ ?_ ?_ <;> ((try clear f0); (try clear f1); (try clear f2); (try clear f3); (try clear f4); (try simp only [hw, hwr] at *); (try simp only [q1, q2, ne_eq, reduceIte, PNode.ofRow] at *); (try dsimp only [CK.T] at *); first | done | omega))) ?_
    refine Tr.needH [] (cs := []) (p := lvPre (PNode.ofRow (PNode.name (List.getD (PNode.kids n) j nodeDflt), (PNode.pv (List.getD (PNode.kids n) j nodeDflt), PNode.props (List.getD (PNode.kids n) j nodeDflt)), (PNode.kv (List.getD (PNode.kids n) j nodeDflt), PNode.kids (List.getD (PNode.kids n) j nodeDflt)), ()), IntKind.wrap IntKind.i64 (lv - (1 : Int))) ∧ lvM (PNode.ofRow (PNode.name (List.getD (PNode.kids n) j nodeDflt), (PNode.pv (List.getD (PNode.kids n) j nodeDflt), PNode.props (List.getD (PNode.kids n) j nodeDflt)), (PNode.kv (List.getD (PNode.kids n) j nodeDflt), PNode.kids (List.getD (PNode.kids n) j nodeDflt)), ()), IntKind.wrap IntKind.i64 (lv - (1 : Int))) < k) (by kernel_rfl) trivial (by first | (((try clear f0); (try clear f1); (try clear f2); (try clear f3); (try clear f4); (try simp only [hw, hwr] at *); (try simp only [q1, q2, ne_eq, reduceIte, PNode.ofRow] at *); (try dsimp only [CK.T] at *); first | done | omega)) | (refine lvPre_mk ?_ ?_ ?_ <;> ((try clear f0); (try clear f1); (try clear f2); (try clear f3); (try clear f4); (try simp only [hw, hwr] at *); (try simp only [q1, q2, ne_eq, reduceIte, PNode.ofRow] at *); (try dsimp only [CK.T] at *); first | done | omega))) ?_
    rcases Bool.eq_false_or_eq_true (!lowF (Int.toNat (IntKind.wrap IntKind.i64 (lv - (1 : Int)))) (PNode.ofRow (PNode.name (List.getD (PNode.kids n) j nodeDflt), (PNode.pv (List.getD (PNode.kids n) j nodeDflt), PNode.props (List.getD (PNode.kids n) j nodeDflt)), (PNode.kv (List.getD (PNode.kids n) j nodeDflt), PNode.kids (List.getD (PNode.kids n) j nodeDflt)), ()))) with g1 | g1
    · skip
      exact Tr.outH [.yes] (cs := [(_, true)]) (by kernel_rfl) ⟨g1, trivial⟩ (FY.found) (by kernel_rfl) (by kernel_rfl) (by first | exact f0 (by ((try clear f0); (try clear f1); (try clear f2); (try clear f3); (try clear f4); (try simp only [hw, hwr] at *); (try simp only [q1, q2, ne_eq, reduceIte, PNode.ofRow] at *); (try dsimp only [CK.T] at *); first | done | omega)) | exact f2 (by ((try clear f0); (try clear f1); (try clear f2); (try clear f3); (try clear f4); (try simp only [hw, hwr] at *); (try simp only [q1, q2, ne_eq, reduceIte, PNode.ofRow] at *); (try dsimp only [CK.T] at *); first | done | omega)) (by ((try clear f0); (try clear f1); (try clear f2); (try clear f3); (try clear f4); (try simp only [hw, hwr] at *); (try simp only [q1, q2, ne_eq, reduceIte, PNode.ofRow] at *); (try simp only [e3] at *); (try dsimp only [CK.T] at *); first | done | assumption | omega | (simp_all; done)))) [0] (by kernel_rfl) (q := true = true ∧ Value.bool false = Value.bool false ∧ true = true ∧ Value.string (PNode.name n) = Value.string (PNode.name n) ∧ some (PNode.pv n, PNode.props n) = some (PNode.pv n, PNode.props n) ∧ some (PNode.kv n, PNode.kids n) = some (PNode.kv n, PNode.kids n) ∧ True) (by kernel_rfl) (by (repeat' apply And.intro) <;> first | rfl | trivial | (refine congrArg (Value.int _) ?_; ((try clear f0); (try clear f1); (try clear f2); (try clear f3); (try clear f4); (try simp only [hw, hwr] at *); (try simp only [q1, q2, ne_eq, reduceIte, PNode.ofRow] at *); (try dsimp only [CK.T] at *); first | done | omega)))
    · skip
      exact Tr.againH [.no] (cs := [(_, false)]) (by kernel_rfl) ⟨g1, trivial⟩ (j + 1) (by kernel_rfl) (by exact f1 (by ((try clear f0); (try clear f1); (try clear f2); (try clear f3); (try clear f4); (try simp only [hw, hwr] at *); (try simp only [q1, q2, ne_eq, reduceIte, PNode.ofRow] at *); (try dsimp only [CK.T] at *); first | done | omega)) (by ((try clear f0); (try clear f1); (try clear f2); (try clear f3); (try clear f4); (try simp only [hw, hwr] at *); (try simp only [q1, q2, ne_eq, reduceIte, PNode.ofRow] at *); (try simp only [e3] at *); (try dsimp only [CK.T] at *); first | done | assumption | omega | (simp_all; done)))) (by ((try clear f0); (try clear f1); (try clear f2); (try clear f3); (try clear f4); (try simp only [hw, hwr] at *); (try simp only [q1, q2, ne_eq, reduceIte, PNode.ofRow] at *); (try dsimp only [CK.T] at *); first | done | omega)) [0] (by kernel_rfl) (q := true = true ∧ Value.int IntKind.i64 lv = Value.int IntKind.i64 lv ∧ ((0 : Nat), (0 : Nat)) = ((0 : Nat), (0 : Nat)) ∧ Value.int IntKind.i64 (IntKind.wrap IntKind.i64 ((↑j : Int) + (1 : Int))) = Value.int IntKind.i64 (↑(j + (1 : Nat)) : Int) ∧ true = true ∧ Value.string (PNode.name n) = Value.string (PNode.name n) ∧ some (PNode.pv n, PNode.props n) = some (PNode.pv n, PNode.props n) ∧ some (PNode.kv n, PNode.kids n) = some (PNode.kv n, PNode.kids n) ∧ True) (by kernel_rfl) (by (repeat' apply And.intro) <;> first | rfl | trivial | (refine congrArg (Value.int _) ?_; ((try clear f0); (try clear f1); (try clear f2); (try clear f3); (try clear f4); (try simp only [hw, hwr] at *); (try simp only [q1, q2, ne_eq, reduceIte, PNode.ofRow] at *); (try dsimp only [CK.T] at *); first | done | omega)))
  · skip
    exact Tr.outH [.no] (cs := [(_, false)]) (by kernel_rfl) ⟨g0, trivial⟩ (FY.done) (by kernel_rfl) (by kernel_rfl) (by first | exact f0 (by ((try clear f0); (try clear f1); (try clear f2); (try clear f3); (try clear f4); (try simp only [hw, hwr] at *); (try simp only [q1, q2, ne_eq, reduceIte, PNode.ofRow] at *); (try dsimp only [CK.T] at *); first | done | omega)) | exact f2 (by ((try clear f0); (try clear f1); (try clear f2); (try clear f3); (try clear f4); (try simp only [hw, hwr] at *); (try simp only [q1, q2, ne_eq, reduceIte, PNode.ofRow] at *); (try dsimp only [CK.T] at *); first | done | omega)) (by ((try clear f0); (try clear f1); (try clear f2); (try clear f3); (try clear f4); (try simp only [hw, hwr] at *); (try simp only [q1, q2, ne_eq, reduceIte, PNode.ofRow] at *); (try simp only [e3] at *); (try dsimp only [CK.T] at *); first | done | assumption | omega | (simp_all; done)))) [0] (by kernel_rfl) (q := true = true ∧ true = true ∧ Value.string (PNode.name n) = Value.string (PNode.name n) ∧ some (PNode.pv n, PNode.props n) = some (PNode.pv n, PNode.props n) ∧ some (PNode.kv n, PNode.kids n) = some (PNode.kv n, PNode.kids n) ∧ True) (by kernel_rfl) (by (repeat' apply And.intro) <;> first | rfl | trivial | (refine congrArg (Value.int _) ?_; ((try clear f0); (try clear f1); (try clear f2); (try clear f3); (try clear f4); (try simp only [hw, hwr] at *); (try simp only [q1, q2, ne_eq, reduceIte, PNode.ofRow] at *); (try dsimp only [CK.T] at *); first | done | omega)))
theorem low2 (n : PNode) (lv : Int) (k : Nat) (hlv : 0 ≤ lv) (hlv1 : lv ≤ 1000) (hlv0 : lv ≠ 0) (hk : lv ≤ k) (hE : EntryOK Try.prog (lowK k)) (hlen : n.kids.length ≤ 80) : LoopFrom Try.prog (loopOf Try.prog 27 9) 1 (low2S n lv 0) FY (low2P n lv) (low2O n lv) :=
  loopFromH hng hmix (Γ := Env.of [lowK k] noCut noWr) (EnvOK.of (by simpa using hE)) 400 27 (low2I n lv) (low2S n lv) (fun j => n.kids.length - j) 1 0 ⟨Nat.zero_le _, by simp⟩ fun j hj => by
    have ha := fun h => (all_drop (lowF (lv - 1).toNat) n.kids nodeDflt (j := j) h).symm.trans hj.2
    refine low2_round n lv j k _ hlv hlv1 hlv0 hk hj.1 hlen (wrapId (by omega) (by omega)) (wrapSucc (by have := hj.1; omega)) rfl (fun h => ?_) (fun h h1 => ⟨h, ?_⟩) (fun h h1 => ?_)
    · have := hj.2; rw [List.drop_eq_nil_of_le h] at this; exact this.symm
    · have q := ha h; rw [h1, Bool.true_and] at q; exact q
    · have q := ha h; rw [h1, Bool.false_and] at q; exact q.symm
theorem low_body (n : PNode) (lv : Int) (k : Nat) (hlv : 0 ≤ lv) (hlv1 : lv ≤ 1000) (hk : lv ≤ k) (hE : EntryOK Try.prog (lowK k)) (f0 : lv = 0 → lowF lv.toNat n = false) (f1 : lv ≠ 0 → lowF lv.toNat n = (decide ((n.name.size : Int) ≤ 100) && decide ((n.props.length : Int) ≤ 300) && decide ((n.kids.length : Int) ≤ 80) && n.props.all lowP && n.kids.all (lowF (lv - 1).toNat))) : (bodyX Try.prog (Env.of [lowK k] (fun f _ => f == 27) noWr) 400 27 [nodeSV n, i lv] [] fin).Holds fun r => r.1 = lowR (n, lv) := by
  rcases Bool.eq_false_or_eq_true (lv == (0 : Int)) with g0 | g0
  · skip
    exact Tr.endH [.yes, .run 15] (cs := [(_, true)]) (Prod.fst) (y := SV.v (Value.bool false)) (by kernel_rfl) ⟨g0, trivial⟩ (fun a ha => ha.trans (by simp only [low1P, low2P, lowR] at *; (try simp only [q1, q2, ne_eq, reduceIte, PNode.ofRow] at *); first | (rw [f0 (by omega)]; rfl) | (rw [f1 (by omega)]; simp_all [b]; done) | (rw [f1 (by omega)]; simp_all [b]; omega)))
  · skip
    rcases Bool.eq_false_or_eq_true (decide ((↑(ByteArray.size (PNode.name n)) : Int) > (100 : Int))) with g1 | g1
    · skip
      exact Tr.endH [.no, .run 4, .yes, .run 10] (cs := [(_, false), (_, true)]) (Prod.fst) (y := SV.v (Value.bool false)) (by kernel_rfl) ⟨g0, g1, trivial⟩ (fun a ha => ha.trans (by simp only [low1P, low2P, lowR] at *; (try simp only [q1, q2, ne_eq, reduceIte, PNode.ofRow] at *); first | (rw [f0 (by omega)]; rfl) | (rw [f1 (by omega)]; simp_all [b]; done) | (rw [f1 (by omega)]; simp_all [b]; omega)))
    · skip
      rcases Bool.eq_false_or_eq_true (decide ((↑(List.length (PNode.props n)) : Int) > (300 : Int))) with g2 | g2
      · skip
        exact Tr.endH [.no, .run 4, .no, .run 4, .yes, .run 5] (cs := [(_, false), (_, false), (_, true)]) (Prod.fst) (y := SV.v (Value.bool false)) (by kernel_rfl) ⟨g0, g1, g2, trivial⟩ (fun a ha => ha.trans (by simp only [low1P, low2P, lowR] at *; (try simp only [q1, q2, ne_eq, reduceIte, PNode.ofRow] at *); first | (rw [f0 (by omega)]; rfl) | (rw [f1 (by omega)]; simp_all [b]; done) | (rw [f1 (by omega)]; simp_all [b]; omega)))
      · skip
        rcases Bool.eq_false_or_eq_true (decide ((↑(List.length (PNode.kids n)) : Int) > (80 : Int))) with g3 | g3
        · skip
          exact Tr.endH [.no, .run 4, .no, .run 4, .no, .run 4, .yes] (cs := [(_, false), (_, false), (_, false), (_, true)]) (Prod.fst) (y := SV.v (Value.bool false)) (by kernel_rfl) ⟨g0, g1, g2, g3, trivial⟩ (fun a ha => ha.trans (by simp only [low1P, low2P, lowR] at *; (try simp only [q1, q2, ne_eq, reduceIte, PNode.ofRow] at *); first | (rw [f0 (by omega)]; rfl) | (rw [f1 (by omega)]; simp_all [b]; done) | (rw [f1 (by omega)]; simp_all [b]; omega)))
        · skip
          refine Tr.loopH [.no, .run 4, .no, .run 4, .no, .run 4, .no] (cs := [(_, false), (_, false), (_, false), (_, false)]) (by kernel_rfl) ⟨g0, g1, g2, g3, trivial⟩ (b := loopOf Try.prog 27 4) (by kernel_rfl) (st1 := low1S n lv 0) (by kernel_rfl) [0] (by kernel_rfl) (q := true = true ∧ Value.int IntKind.i64 lv = Value.int IntKind.i64 lv ∧ ((0 : Nat), (0 : Nat)) = ((0 : Nat), (0 : Nat)) ∧ Value.int IntKind.i64 (0 : Int) = Value.int IntKind.i64 (0 : Int) ∧ true = true ∧ Value.string (PNode.name n) = Value.string (PNode.name n) ∧ some (PNode.pv n, PNode.props n) = some (PNode.pv n, PNode.props n) ∧ some (PNode.kv n, PNode.kids n) = some (PNode.kv n, PNode.kids n) ∧ True) (by kernel_rfl) (by (repeat' apply And.intro) <;> first | rfl | trivial) (low1 n lv (by ((try clear f0); (try clear f1); (try clear f2); (try clear f3); (try clear f4); (try simp only [hw, hwr] at *); (try simp only [q1, q2, ne_eq, reduceIte, PNode.ofRow] at *); (try dsimp only [CK.T] at *); first | done | omega))) ?_
          intro y4 hy4
          rcases y4 with _ | _
          · skip
            refine Tr.loopH [] (cs := []) (by kernel_rfl) trivial (b := loopOf Try.prog 27 9) (by kernel_rfl) (st1 := low2S n lv 0) (by kernel_rfl) [0] (by kernel_rfl) (q := true = true ∧ Value.int IntKind.i64 lv = Value.int IntKind.i64 lv ∧ ((0 : Nat), (0 : Nat)) = ((0 : Nat), (0 : Nat)) ∧ Value.int IntKind.i64 (0 : Int) = Value.int IntKind.i64 (0 : Int) ∧ true = true ∧ Value.string (PNode.name n) = Value.string (PNode.name n) ∧ some (PNode.pv n, PNode.props n) = some (PNode.pv n, PNode.props n) ∧ some (PNode.kv n, PNode.kids n) = some (PNode.kv n, PNode.kids n) ∧ True) (by kernel_rfl) (by (repeat' apply And.intro) <;> first | rfl | trivial) (low2 n lv k hlv hlv1 (by ((try clear f0); (try clear f1); (try clear f2); (try clear f3); (try clear f4); (try simp only [hw, hwr] at *); (try simp only [q1, q2, ne_eq, reduceIte, PNode.ofRow] at *); (try dsimp only [CK.T] at *); first | done | omega)) hk hE (by ((try clear f0); (try clear f1); (try clear f2); (try clear f3); (try clear f4); (try simp only [hw, hwr] at *); (try simp only [q1, q2, ne_eq, reduceIte, PNode.ofRow] at *); (try dsimp only [CK.T] at *); first | done | omega))) ?_
            intro y5 hy5
            rcases y5 with _ | _
            · skip
              exact Tr.endH [] (cs := []) (Prod.fst) (y := SV.v (Value.bool true)) (by kernel_rfl) trivial (fun a ha => ha.trans (by simp only [low1P, low2P, lowR] at *; (try simp only [q1, q2, ne_eq, reduceIte, PNode.ofRow] at *); first | (rw [f0 (by omega)]; rfl) | (rw [f1 (by omega)]; simp_all [b]; done) | (rw [f1 (by omega)]; simp_all [b]; omega)))
            · skip
              exact Tr.endH [] (cs := []) (Prod.fst) (y := SV.v (Value.bool false)) (by kernel_rfl) trivial (fun a ha => ha.trans (by simp only [low1P, low2P, lowR] at *; (try simp only [q1, q2, ne_eq, reduceIte, PNode.ofRow] at *); first | (rw [f0 (by omega)]; rfl) | (rw [f1 (by omega)]; simp_all [b]; done) | (rw [f1 (by omega)]; simp_all [b]; omega)))
          · skip
            exact Tr.endH [] (cs := []) (Prod.fst) (y := SV.v (Value.bool false)) (by kernel_rfl) trivial (fun a ha => ha.trans (by simp only [low1P, low2P, lowR] at *; (try simp only [q1, q2, ne_eq, reduceIte, PNode.ofRow] at *); first | (rw [f0 (by omega)]; rfl) | (rw [f1 (by omega)]; simp_all [b]; done) | (rw [f1 (by omega)]; simp_all [b]; omega)))
def eLow : Entry := pureS 27 shN1i lvPre lowR
theorem low_ok : EntryOK Try.prog eLow :=
  pureS_ok hng hmix (l := []) (cut := fun f _ => f == 27) (wr := noWr) (by simp) 400 27 Try.func27 (by kernel_rfl) shN1i lvM (fun _ => rfl) (fun _ => rfl) fun k a hE hp hm => by
    obtain ⟨n, lv⟩ := a
    obtain ⟨h1, h2⟩ := hp
    have hm : lv.toNat ≤ k := hm
    exact low_body n lv k h1 h2 (by simp only at h1; omega) hE (fun h => by rw [h]; rfl) (fun h => lowF_eq h1 h n)
end Go.Proofs.Ytdimocgjcneedaa
