import Derived.WalkKit
import Derived.OrdersHeld
import Derived.KernelRfl
import Derived.ProofKit
import Derived.OpenShut
import Derived.Deep.Slices
import Derived.Deep.Fields
import Derived.Laws.MakeOwn
import Derived.Laws.BytesString
set_option linter.unusedVariables false
set_option linter.unusedSimpArgs false
namespace Go.Proofs.Ytdimocgjcneedaa.Sx

/-! ## 0. Words on Booleans, for what is known on a way -/
theorem nb_beq (a b : Int) : (a == b) = decide (a = b) := by by_cases h : a = b <;> simp [h]
theorem nb_bne (a b : Int) : (a != b) = decide (a ≠ b) := by by_cases h : a = b <;> simp [h]
theorem nb_beqN (a b : Nat) : (a == b) = decide (a = b) := by by_cases h : a = b <;> simp [h]
theorem nb_not (p : Prop) [Decidable p] : (!decide p) = decide (¬ p) := by by_cases h : p <;> simp [h]
theorem nb_or (p q : Prop) [Decidable p] [Decidable q] : (decide p || decide q) = decide (p ∨ q) := by by_cases h : p <;> simp [h]
theorem nb_and (p q : Prop) [Decidable p] [Decidable q] : (decide p && decide q) = decide (p ∧ q) := by by_cases h : p <;> simp [h]
theorem nb_iff (p q : Prop) [Decidable p] [Decidable q] : (decide p == decide q) = decide (p ↔ q) := by by_cases h : p <;> by_cases k : q <;> simp [h, k]
theorem nb_niff (p q : Prop) [Decidable p] [Decidable q] : (decide p != decide q) = decide (¬ (p ↔ q)) := by by_cases h : p <;> by_cases k : q <;> simp [h, k]
theorem nb_eq (p q : Prop) [Decidable p] [Decidable q] : (decide p = decide q) = (p ↔ q) := by by_cases h : p <;> by_cases k : q <;> simp [h, k]

/-! ## 1. Symbolic values, blocks, states -/
/-- a tree's node as it lies in memory: its slices' own values are kept -/
inductive PNode where
  | mk (name : ByteArray) (pv : Value) (props : List (ByteArray × ByteArray × Unit)) (kv : Value) (kids : List PNode)
/-- kinds of cells: flat ones; slices that stay as they are; slices of a tree's nodes; slices that are owned -/
inductive CK where
  | bool
  | int (k : IntKind)
  | str
  | sl (ks : List CK)
  | nodes
  | osl (e : TypeId) (ks : List CK)
mutual
def CK.beq : CK → CK → Bool
  | .bool, .bool => true
  | .int a, .int b => decide (a = b)
  | .str, .str => true
  | .sl a, .sl b => CK.beqL a b
  | .nodes, .nodes => true
  | .osl e a, .osl e' b => decide (e = e') && CK.beqL a b
  | _, _ => false
def CK.beqL : List CK → List CK → Bool
  | [], [] => true
  | a :: as, b :: bs => CK.beq a b && CK.beqL as bs
  | _, _ => false
end
mutual
theorem CK.beq_eq : ∀ a b : CK, CK.beq a b = true → a = b
  | .bool, b, h => by cases b <;> simp_all [CK.beq]
  | .int a, b, h => by cases b <;> simp_all [CK.beq]
  | .str, b, h => by cases b <;> simp_all [CK.beq]
  | .nodes, b, h => by cases b <;> simp_all [CK.beq]
  | .sl a, b, h => by
    cases b <;> simp [CK.beq] at h
    rw [CK.beqL_eq a _ h]
  | .osl e a, b, h => by
    cases b <;> simp [CK.beq] at h
    rw [CK.beqL_eq a _ h.2, h.1]
theorem CK.beqL_eq : ∀ a b : List CK, CK.beqL a b = true → a = b
  | [], b, h => by cases b <;> simp_all [CK.beqL]
  | a :: as, b, h => by
    cases b with
    | nil => simp [CK.beqL] at h
    | cons b bs =>
      simp [CK.beqL] at h
      rw [CK.beq_eq a b h.1, CK.beqL_eq as bs h.2]
end
mutual
theorem CK.beq_refl : ∀ a : CK, CK.beq a a = true
  | .bool | .str | .nodes => rfl
  | .int _ => by simp [CK.beq]
  | .sl a => by simp [CK.beq, CK.beqL_refl a]
  | .osl e a => by simp [CK.beq, CK.beqL_refl a]
theorem CK.beqL_refl : ∀ a : List CK, CK.beqL a a = true
  | [] => rfl
  | a :: as => by simp [CK.beqL, CK.beq_refl a, CK.beqL_refl as]
end
instance : DecidableEq CK := fun a b => if h : CK.beq a b = true then .isTrue (CK.beq_eq a b h) else .isFalse fun e => h (e ▸ CK.beq_refl a)
mutual
abbrev CK.T : CK → Type
  | .bool => Bool
  | .int _ => Int
  | .str => ByteArray
  | .sl ks => Value × List (RowT ks)
  | .nodes => Value × List PNode
  | .osl _ ks => Value × Bool × List (RowT ks)
abbrev RowT : List CK → Type
  | [] => Unit
  | k :: ks => CK.T k × RowT ks
end
inductive SV where
  | v (x : Value)
  | ptr (b off : Nat)
  | eptr (b sz k j : Nat)
  | slc (b off len cap : Nat)
  | eslc (b sz k len cap : Nat)
  | oslc (b sz k len : Nat)
  | zslc (b : Nat)
  | fn (f : FuncId) (caps : List SV)
  | agg (cs : List SV)
  | tup (cs : List SV)
  | sv (k : CK) (x : k.T)
  | sptr (k : CK) (x : k.T) (i j : Nat)
  | osv (b i j : Nat) (e : TypeId) (ks : List CK) (x : Value × Bool × List (RowT ks))
  | optr (b k j : Nat) (e : TypeId) (ks : List CK) (x : Value × Bool × List (RowT ks)) (i jj : Nat)
  | any
def nilV : Value := .slice none 0 0
def CK.toV : (k : CK) → k.T → Value
  | .bool, b => .bool b
  | .int k, n => .int k n
  | .str, s => .string s
  | .sl _, x => x.1
  | .nodes, x => x.1
  | .osl _ _, x => x.1
def CK.toSV : (k : CK) → k.T → SV
  | .bool, b => .v (.bool b)
  | .int k, n => .v (.int k n)
  | .str, s => .v (.string s)
  | .sl ks, x => .sv (.sl ks) x
  | .nodes, x => .sv .nodes x
  | .osl _ _, x => .v x.1
def CK.wf : (k : CK) → k.T → Prop
  | .bool, _ => True
  | .int k, n => (Lit.int k n).wf = true
  | .str, s => s.size ≤ maxLen
  | .sl _, _ => True
  | .nodes, _ => True
  | .osl _ _, _ => True
def CK.dflt : (k : CK) → k.T
  | .bool => false
  | .int _ => (0 : Int)
  | .str => ByteArray.empty
  | .sl _ => (nilV, [])
  | .nodes => (nilV, [])
  | .osl _ _ => (nilV, true, [])
def RowT.dflt : (ks : List CK) → RowT ks
  | [] => ()
  | k :: ks => (k.dflt, RowT.dflt ks)
def rowV : (ks : List CK) → RowT ks → List Value
  | [], _ => []
  | k :: ks, r => k.toV r.1 :: rowV ks r.2
def rowSV : (ks : List CK) → RowT ks → List SV
  | [], _ => []
  | k :: ks, r => k.toSV r.1 :: rowSV ks r.2
def RowWF : (ks : List CK) → RowT ks → Prop
  | [], _ => True
  | k :: ks, r => k.wf r.1 ∧ RowWF ks r.2
def rowsV (ks : List CK) (l : List (RowT ks)) : List Value := l.flatMap (rowV ks)
def PNode.name : PNode → ByteArray
  | .mk nm _ _ _ _ => nm
def PNode.pv : PNode → Value
  | .mk _ pv _ _ _ => pv
def PNode.props : PNode → List (ByteArray × ByteArray × Unit)
  | .mk _ _ ps _ _ => ps
def PNode.kv : PNode → Value
  | .mk _ _ _ kv _ => kv
def PNode.kids : PNode → List PNode
  | .mk _ _ _ _ ks => ks
def PNode.rowV (n : PNode) : List Value := [.string n.name, n.pv, n.kv]
def nodesV (l : List PNode) : List Value := l.flatMap PNode.rowV
def propK : List CK := [.str, .str]
def nodeK : List CK := [.str, .sl propK, .nodes]
def nodeDflt : PNode := .mk ByteArray.empty nilV [] nilV []
def PNode.row (n : PNode) : RowT nodeK := (n.name, (n.pv, n.props), (n.kv, n.kids), ())
def PNode.ofRow (r : RowT nodeK) : PNode := .mk r.1 r.2.1.1 r.2.1.2 r.2.2.1.1 r.2.2.1.2
theorem PNode.mk_eta (n : PNode) : PNode.mk n.name n.pv n.props n.kv n.kids = n := by cases n; rfl
/-! ### what stays as it is -/
/-- blocks of memory that nobody writes any more -/
abbrev Base := Nat → Option Obj
def Base.cell (B : Base) (b j : Nat) : Option Value :=
  match B b with
  | some (.cells c _ _) => c[j]?
  | _ => none
def Base.le (B B' : Base) : Prop := ∀ k o, B k = some o → B' k = some o
theorem Base.cell_le {B B' : Base} (h : Base.le B B') {b j : Nat} {v : Value} (hc : Base.cell B b j = some v) : Base.cell B' b j = some v := by
  unfold Base.cell at hc ⊢
  split at hc
  · rename_i c t m ho; rw [h _ _ ho]; exact hc
  · cases hc
theorem Base.cell_world {B : Base} {w : World} (h : ∀ k o, B k = some o → w.heap[k]? = some o) {b j : Nat} {v : Value} (hc : Base.cell B b j = some v) : w.cell? ⟨b, j, none⟩ = some v := by
  unfold Base.cell at hc
  split at hc
  · rename_i c t m ho
    unfold World.cell?
    rw [h _ _ ho]
    simpa using hc
  · cases hc
/-- a value is a slice of so many elements whose cells are these -/
def SlcIs (B : Base) (v : Value) (n : Nat) (vs : List Value) : Prop :=
  ∃ a c, v = .slice a n c ∧ n ≤ c ∧ (0 < n → ∃ b o, a = some ⟨b, o, none⟩ ∧ ∀ (j : Nat) x, vs[j]? = some x → Base.cell B b (o + j) = some x)
theorem SlcIs.le {B B' : Base} (h : Base.le B B') {v : Value} {n : Nat} {vs : List Value} (hs : SlcIs B v n vs) : SlcIs B' v n vs := by
  obtain ⟨a, c, h1, h2, h3⟩ := hs
  refine ⟨a, c, h1, h2, fun hn => ?_⟩
  obtain ⟨b, o, e, h4⟩ := h3 hn
  exact ⟨b, o, e, fun j x hj => Base.cell_le h (h4 j x hj)⟩
mutual
def PNode.good (B : Base) : PNode → Prop
  | .mk _ pv ps kv ks => SlcIs B pv ps.length (rowsV propK ps) ∧ SlcIs B kv ks.length (nodesV ks) ∧ goodL B ks
def goodL (B : Base) : List PNode → Prop
  | [] => True
  | n :: l => n.good B ∧ goodL B l
end
mutual
theorem PNode.good.le {B B' : Base} (h : Base.le B B') : ∀ (n : PNode), n.good B → n.good B'
  | .mk _ _ _ _ ks, ⟨h1, h2, h3⟩ => ⟨h1.le h, h2.le h, goodL.le h ks h3⟩
theorem goodL.le {B B' : Base} (h : Base.le B B') : ∀ (l : List PNode), goodL B l → goodL B' l
  | [], _ => trivial
  | n :: l, ⟨h1, h2⟩ => ⟨PNode.good.le h n h1, goodL.le h l h2⟩
end
theorem goodL.mem {B : Base} : ∀ {l : List PNode}, goodL B l → ∀ {k : Nat} {n : PNode}, l[k]? = some n → n.good B
  | [], _, k, n, h => by simp at h
  | m :: l, ⟨h1, h2⟩, 0, n, h => by simp at h; subst h; exact h1
  | m :: l, ⟨h1, h2⟩, k + 1, n, h => goodL.mem h2 (by simpa using h)
/-- a slice of so many elements, wherever it is -/
def OslIs (v : Value) (n : Nat) : Prop := ∃ a c, v = .slice a n c ∧ (0 < n → ∃ b o, a = some ⟨b, o, none⟩)
mutual
def CK.good (B : Base) : (k : CK) → k.T → Prop
  | .sl ks, x => SlcIs B x.1 x.2.length (rowsV ks x.2) ∧ ∀ r ∈ x.2, RowGood B ks r
  | .nodes, x => SlcIs B x.1 x.2.length (nodesV x.2) ∧ goodL B x.2
  | .bool, _ => True
  | .int _, _ => True
  | .str, _ => True
  | .osl _ ks, x => OslIs x.1 x.2.2.length ∧ ∀ r ∈ x.2.2, RowGood B ks r
def RowGood (B : Base) : (ks : List CK) → RowT ks → Prop
  | [], _ => True
  | k :: ks, r => k.good B r.1 ∧ RowGood B ks r.2
end
mutual
theorem CK.good.le {B B' : Base} (h : Base.le B B') : ∀ (k : CK) (x : k.T), k.good B x → k.good B' x
  | .sl ks, x, ⟨h1, h2⟩ => ⟨h1.le h, fun r hr => RowGood.le h ks r (h2 r hr)⟩
  | .nodes, x, ⟨h1, h2⟩ => ⟨h1.le h, goodL.le h x.2 h2⟩
  | .bool, _, _ => trivial
  | .int _, _, _ => trivial
  | .str, _, _ => trivial
  | .osl _ ks, x, h1 => ⟨h1.1, fun r hr => RowGood.le h ks r (h1.2 r hr)⟩
theorem RowGood.le {B B' : Base} (h : Base.le B B') : ∀ (ks : List CK) (r : RowT ks), RowGood B ks r → RowGood B' ks r
  | [], _, _ => trivial
  | k :: ks, r, ⟨h1, h2⟩ => ⟨CK.good.le h k r.1 h1, RowGood.le h ks r.2 h2⟩
end
inductive Body where
  | lit (cs : List SV)
  | row (n sz : Nat) (get : Nat → List SV)
  | rows (ks : List CK) (l : List (RowT ks))
  | own (e : TypeId) (ks : List CK) (l : List (RowT ks))
  | dead
structure Blk where
  rw : Bool
  body : Body
structure St where
  tmps : List SV
  mem : List Blk
structure Place where
  blk : Nat
  off : Nat
  ptr : Option Addr
  cap : Nat
/-- where the blocks are, and what stays as it is -/
structure Loc where
  at_ : Nat → Option Place
  base : Base
instance : CoeFun Loc fun _ => Nat → Option Place := ⟨Loc.at_⟩
theorem Base.le_refl (B : Base) : Base.le B B := fun _ _ h => h
theorem Base.le_trans {a b c : Base} (h : Base.le a b) (k : Base.le b c) : Base.le a c := fun x o hx => k x o (h x o hx)
structure Ext (ρ ρ' : Loc) : Prop where
  places : ∀ b r, ρ b = some r → ρ' b = some r
  base : Base.le ρ.base ρ'.base
instance {ρ ρ' : Loc} : CoeFun (Ext ρ ρ') fun _ => ∀ b r, ρ b = some r → ρ' b = some r := ⟨Ext.places⟩
theorem Ext.refl (ρ : Loc) : Ext ρ ρ := ⟨fun _ _ h => h, Base.le_refl _⟩
theorem Ext.trans {a b c : Loc} (h : Ext a b) (k : Ext b c) : Ext a c := ⟨fun x r hx => k x r (h x r hx), Base.le_trans h.base k.base⟩
/-- a pointer into a slice that stays as it is: the cells of its elements -/
def stabV : (k : CK) → k.T → List Value
  | .sl ks, x => rowsV ks x.2
  | .nodes, x => nodesV x.2
  | _, _ => []
def stabSz : CK → Nat
  | .sl ks => ks.length
  | .nodes => 3
  | _ => 0
def CK.isStab : CK → Bool
  | .sl _ | .nodes => true
  | _ => false
def stabN : (k : CK) → k.T → Nat
  | .sl _, x => x.2.length
  | .nodes, x => x.2.length
  | _, _ => 0

mutual
def Rel (ρ : Loc) : SV → Value → Prop
  | .v x, y => y = x
  | .ptr b off, y => ∃ r, ρ b = some r ∧ y = .pointer (some ⟨r.1, r.2 + off, none⟩)
  | .eptr b sz k j, y => ∃ r, ρ b = some r ∧ y = .pointer (some ⟨r.1, r.2 + (k * sz + j), none⟩)
  | .slc b off len cap, y => ∃ r, ρ b = some r ∧ y = .slice (some ⟨r.1, r.2 + off, none⟩) len cap
  | .eslc b sz k len cap, y => ∃ r, ρ b = some r ∧ y = .slice (some ⟨r.1, r.2 + k * sz, none⟩) len cap
  | .oslc b sz k len, y => ∃ r, ρ b = some r ∧ y = .slice (if r.cap = k then r.ptr else r.ptr.map (·.add (k * sz))) len (r.cap - k) ∧ (0 < len → r.ptr = some ⟨r.1, r.2, none⟩ ∧ k + len ≤ r.cap)
  | .zslc b, y => ∃ r, ρ b = some r ∧ y = .slice r.ptr 0 0
  | .fn f caps, y => ∃ ys, RelL ρ caps ys ∧ y = .func (.func f) #[] ys.toArray
  | .agg cs, y => ∃ ys, RelL ρ cs ys ∧ y = .agg ys.toArray
  | .tup cs, y => ∃ ys, RelL ρ cs ys ∧ y = .tuple ys.toArray
  | .sv k x, y => y = k.toV x ∧ k.good ρ.base x
  | .sptr k x i j, y => k.good ρ.base x ∧ ∃ b o c, k.toV x = .slice (some ⟨b, o, none⟩) (stabN k x) c ∧ y = .pointer (some ⟨b, o + (i * stabSz k + j), none⟩)
  | .osv _ _ _ _ _ x, y => y = x.1 ∧ OslIs x.1 x.2.2.length
  | .optr _ _ _ _ ks x i jj, y => ∃ b0 o c, x.1 = .slice (some ⟨b0, o, none⟩) x.2.2.length c ∧ y = .pointer (some ⟨b0, o + (i * ks.length + jj), none⟩)
  | .any, _ => True
def RelL (ρ : Loc) : List SV → List Value → Prop
  | [], ys => ys = []
  | x :: xs, ys => ∃ y ys', ys = y :: ys' ∧ Rel ρ x y ∧ RelL ρ xs ys'
end

mutual
theorem Rel.mono {ρ ρ' : Loc} (h : Ext ρ ρ') : ∀ (s : SV) (y : Value), Rel ρ s y → Rel ρ' s y
  | .v x, y => by simp [Rel]
  | .ptr b off, y => by simp only [Rel]; rintro ⟨r, hr, e⟩; exact ⟨r, h _ _ hr, e⟩
  | .eptr b sz k j, y => by simp only [Rel]; rintro ⟨r, hr, e⟩; exact ⟨r, h _ _ hr, e⟩
  | .slc b off len cap, y => by simp only [Rel]; rintro ⟨r, hr, e⟩; exact ⟨r, h _ _ hr, e⟩
  | .eslc b sz k len cap, y => by simp only [Rel]; rintro ⟨r, hr, e⟩; exact ⟨r, h _ _ hr, e⟩
  | .oslc b sz k len, y => by simp only [Rel]; rintro ⟨r, hr, e⟩; exact ⟨r, h _ _ hr, e⟩
  | .zslc b, y => by simp only [Rel]; rintro ⟨r, hr, e⟩; exact ⟨r, h _ _ hr, e⟩
  | .fn f caps, y => by simp only [Rel]; rintro ⟨ys, hr, e⟩; exact ⟨ys, RelL.mono h _ _ hr, e⟩
  | .agg caps, y => by simp only [Rel]; rintro ⟨ys, hr, e⟩; exact ⟨ys, RelL.mono h _ _ hr, e⟩
  | .tup caps, y => by simp only [Rel]; rintro ⟨ys, hr, e⟩; exact ⟨ys, RelL.mono h _ _ hr, e⟩
  | .sv k x, y => by simp only [Rel]; rintro ⟨e, g⟩; exact ⟨e, CK.good.le h.base k x g⟩
  | .sptr k x i j, y => by simp only [Rel]; rintro ⟨g, e⟩; exact ⟨CK.good.le h.base k x g, e⟩
  | .osv .., y => by simp [Rel]
  | .optr .., y => by simp only [Rel]; exact id
  | .any, y => by simp [Rel]
theorem RelL.mono {ρ ρ' : Loc} (h : Ext ρ ρ') : ∀ (s : List SV) (y : List Value), RelL ρ s y → RelL ρ' s y
  | [], y => by simp [RelL]
  | x :: xs, y => by
    simp only [RelL]
    rintro ⟨y0, ys, e, h1, h2⟩
    exact ⟨y0, ys, e, Rel.mono h _ _ h1, RelL.mono h _ _ h2⟩
end
mutual
def SV.sure : SV → Bool
  | .any => false
  | .fn _ cs | .agg cs | .tup cs => sureL cs
  | _ => true
def sureL : List SV → Bool
  | [] => true
  | s :: ss => s.sure && sureL ss
end
mutual
theorem Rel.unique {ρ : Loc} : ∀ (s : SV) {y z : Value}, s.sure = true → Rel ρ s y → Rel ρ s z → y = z
  | .v x, y, z, _, h1, h2 => by simp only [Rel] at h1 h2; rw [h1, h2]
  | .ptr b off, y, z, _, h1, h2 => by simp only [Rel] at h1 h2; obtain ⟨r, hr, rfl⟩ := h1; obtain ⟨r', hr', rfl⟩ := h2; rw [hr] at hr'; cases hr'; rfl
  | .eptr b sz k j, y, z, _, h1, h2 => by simp only [Rel] at h1 h2; obtain ⟨r, hr, rfl⟩ := h1; obtain ⟨r', hr', rfl⟩ := h2; rw [hr] at hr'; cases hr'; rfl
  | .slc b off len cap, y, z, _, h1, h2 => by simp only [Rel] at h1 h2; obtain ⟨r, hr, rfl⟩ := h1; obtain ⟨r', hr', rfl⟩ := h2; rw [hr] at hr'; cases hr'; rfl
  | .eslc b sz k len cap, y, z, _, h1, h2 => by simp only [Rel] at h1 h2; obtain ⟨r, hr, rfl⟩ := h1; obtain ⟨r', hr', rfl⟩ := h2; rw [hr] at hr'; cases hr'; rfl
  | .oslc b sz k len, y, z, _, h1, h2 => by simp only [Rel] at h1 h2; obtain ⟨r, hr, rfl, _⟩ := h1; obtain ⟨r', hr', rfl, _⟩ := h2; rw [hr] at hr'; cases hr'; rfl
  | .zslc b, y, z, _, h1, h2 => by simp only [Rel] at h1 h2; obtain ⟨r, hr, rfl⟩ := h1; obtain ⟨r', hr', rfl⟩ := h2; rw [hr] at hr'; cases hr'; rfl
  | .fn f cs, y, z, hs, h1, h2 => by simp only [Rel, SV.sure] at hs h1 h2; obtain ⟨ys, hy, rfl⟩ := h1; obtain ⟨zs, hz, rfl⟩ := h2; rw [RelL.unique cs hs hy hz]
  | .agg cs, y, z, hs, h1, h2 => by simp only [Rel, SV.sure] at hs h1 h2; obtain ⟨ys, hy, rfl⟩ := h1; obtain ⟨zs, hz, rfl⟩ := h2; rw [RelL.unique cs hs hy hz]
  | .tup cs, y, z, hs, h1, h2 => by simp only [Rel, SV.sure] at hs h1 h2; obtain ⟨ys, hy, rfl⟩ := h1; obtain ⟨zs, hz, rfl⟩ := h2; rw [RelL.unique cs hs hy hz]
  | .sv k x, y, z, hs, h1, h2 => by simp only [Rel] at h1 h2; rw [h1.1, h2.1]
  | .sptr k x i j, y, z, hs, h1, h2 => by
    simp only [Rel] at h1 h2
    obtain ⟨_, b, o, c, e1, rfl⟩ := h1; obtain ⟨_, b', o', c', e2, rfl⟩ := h2
    rw [e1] at e2; cases e2; rfl
  | .osv .., y, z, hs, h1, h2 => by simp only [Rel] at h1 h2; rw [h1.1, h2.1]
  | .optr .., y, z, hs, h1, h2 => by
    simp only [Rel] at h1 h2
    obtain ⟨b, o, c, e1, rfl⟩ := h1; obtain ⟨b', o', c', e2, rfl⟩ := h2
    rw [e1] at e2; cases e2; rfl
  | .any, y, z, hs, h1, h2 => by simp [SV.sure] at hs
theorem RelL.unique {ρ : Loc} : ∀ (s : List SV) {y z : List Value}, sureL s = true → RelL ρ s y → RelL ρ s z → y = z
  | [], y, z, _, h1, h2 => by simp only [RelL] at h1 h2; rw [h1, h2]
  | s :: ss, y, z, hs, h1, h2 => by
    simp only [RelL] at h1 h2
    simp only [sureL, Bool.and_eq_true] at hs
    obtain ⟨y0, ys, rfl, a1, a2⟩ := h1
    obtain ⟨z0, zs, rfl, b1, b2⟩ := h2
    rw [Rel.unique s hs.1 a1 b1, RelL.unique ss hs.2 a2 b2]
end
mutual
def SV.lo (n : Nat) : SV → Bool
  | .v _ | .any | .sv .. | .sptr .. | .osv .. | .optr .. => true
  | .ptr b _ | .eptr b _ _ _ | .slc b _ _ _ | .eslc b _ _ _ _ | .oslc b _ _ _ | .zslc b => decide (b < n)
  | .fn _ cs | .agg cs | .tup cs => loL n cs
def loL (n : Nat) : List SV → Bool
  | [] => true
  | s :: ss => s.lo n && loL n ss
end
structure Down (n : Nat) (ρ' ρ : Loc) : Prop where
  places : ∀ i, i < n → ∀ r, ρ' i = some r → ρ i = some r
  base : Base.le ρ'.base ρ.base
instance {n : Nat} {ρ' ρ : Loc} : CoeFun (Down n ρ' ρ) fun _ => ∀ i, i < n → ∀ r, ρ' i = some r → ρ i = some r := ⟨Down.places⟩
mutual
theorem Rel.down {n : Nat} {ρ ρ' : Loc} (h : Down n ρ' ρ) : ∀ (s : SV) {y : Value}, s.lo n = true → Rel ρ' s y → Rel ρ s y
  | .v x, y, _, h1 => by simpa only [Rel] using h1
  | .any, y, _, h1 => by simp [Rel]
  | .ptr b off, y, hb, h1 => by simp only [Rel, SV.lo, decide_eq_true_eq] at hb h1 ⊢; obtain ⟨r, hr, e⟩ := h1; exact ⟨r, h _ hb _ hr, e⟩
  | .eptr b sz k j, y, hb, h1 => by simp only [Rel, SV.lo, decide_eq_true_eq] at hb h1 ⊢; obtain ⟨r, hr, e⟩ := h1; exact ⟨r, h _ hb _ hr, e⟩
  | .slc b off len cap, y, hb, h1 => by simp only [Rel, SV.lo, decide_eq_true_eq] at hb h1 ⊢; obtain ⟨r, hr, e⟩ := h1; exact ⟨r, h _ hb _ hr, e⟩
  | .eslc b sz k len cap, y, hb, h1 => by simp only [Rel, SV.lo, decide_eq_true_eq] at hb h1 ⊢; obtain ⟨r, hr, e⟩ := h1; exact ⟨r, h _ hb _ hr, e⟩
  | .oslc b sz k len, y, hb, h1 => by simp only [Rel, SV.lo, decide_eq_true_eq] at hb h1 ⊢; obtain ⟨r, hr, e⟩ := h1; exact ⟨r, h _ hb _ hr, e⟩
  | .zslc b, y, hb, h1 => by simp only [Rel, SV.lo, decide_eq_true_eq] at hb h1 ⊢; obtain ⟨r, hr, e⟩ := h1; exact ⟨r, h _ hb _ hr, e⟩
  | .fn f cs, y, hb, h1 => by simp only [Rel, SV.lo] at hb h1 ⊢; obtain ⟨ys, hy, e⟩ := h1; exact ⟨ys, RelL.down h cs hb hy, e⟩
  | .agg cs, y, hb, h1 => by simp only [Rel, SV.lo] at hb h1 ⊢; obtain ⟨ys, hy, e⟩ := h1; exact ⟨ys, RelL.down h cs hb hy, e⟩
  | .tup cs, y, hb, h1 => by simp only [Rel, SV.lo] at hb h1 ⊢; obtain ⟨ys, hy, e⟩ := h1; exact ⟨ys, RelL.down h cs hb hy, e⟩
  | .sv k x, y, _, h1 => by simp only [Rel] at h1 ⊢; exact ⟨h1.1, CK.good.le h.base k x h1.2⟩
  | .sptr k x i j, y, _, h1 => by simp only [Rel] at h1 ⊢; exact ⟨CK.good.le h.base k x h1.1, h1.2⟩
  | .osv .., y, _, h1 => by simpa only [Rel] using h1
  | .optr .., y, _, h1 => by simpa only [Rel] using h1
theorem RelL.down {n : Nat} {ρ ρ' : Loc} (h : Down n ρ' ρ) : ∀ (s : List SV) {y : List Value}, loL n s = true → RelL ρ' s y → RelL ρ s y
  | [], y, _, h1 => by simpa only [RelL] using h1
  | s :: ss, y, hb, h1 => by
    simp only [RelL, loL, Bool.and_eq_true] at hb h1 ⊢
    obtain ⟨y0, ys, e, a1, a2⟩ := h1
    exact ⟨y0, ys, e, Rel.down h s hb.1 a1, RelL.down h ss hb.2 a2⟩
end
section
variable {ρ : Loc}
theorem RelL.nil : RelL ρ [] [] := by simp [RelL]
theorem RelL.cons {x : SV} {y : Value} {xs : List SV} {ys : List Value} (h : Rel ρ x y) (hs : RelL ρ xs ys) : RelL ρ (x :: xs) (y :: ys) := by
  simp only [RelL]; exact ⟨y, ys, rfl, h, hs⟩
theorem RelL.cons_inv {x : SV} {xs : List SV} {ys : List Value} (h : RelL ρ (x :: xs) ys) : ∃ y ys', ys = y :: ys' ∧ Rel ρ x y ∧ RelL ρ xs ys' := by simpa only [RelL] using h
theorem RelL.length {xs : List SV} {ys : List Value} (h : RelL ρ xs ys) : xs.length = ys.length := by
  induction xs generalizing ys with
  | nil => simp only [RelL] at h; simp [h]
  | cons x xs ih => obtain ⟨y, ys', rfl, _, h2⟩ := h.cons_inv; simp [ih h2]
theorem RelL.get {xs : List SV} {ys : List Value} (h : RelL ρ xs ys) {i : Nat} {x : SV} (hi : xs[i]? = some x) : ∃ y, ys[i]? = some y ∧ Rel ρ x y := by
  induction xs generalizing ys i with
  | nil => simp at hi
  | cons x0 xs ih =>
    obtain ⟨y, ys', rfl, h1, h2⟩ := h.cons_inv
    cases i with
    | zero => simp at hi; subst hi; exact ⟨y, by simp, h1⟩
    | succ i => simp at hi; simpa using ih h2 hi
theorem RelL.of_get : ∀ {xs : List SV} {ys : List Value}, xs.length = ys.length → (∀ (i : Nat) x y, xs[i]? = some x → ys[i]? = some y → Rel ρ x y) → RelL ρ xs ys
  | [], [], _, _ => .nil
  | [], _ :: _, h, _ => by simp at h
  | _ :: _, [], h, _ => by simp at h
  | x :: xs, y :: ys, h, g => .cons (g 0 x y (by simp) (by simp)) (RelL.of_get (by simpa using h) fun i x y hx hy => g (i + 1) x y (by simpa using hx) (by simpa using hy))
theorem RelL.getD {xs : List SV} {ys : List Value} (h : RelL ρ xs ys) (i : Nat) : Rel ρ (xs.getD i (.v undef)) (ys.getD i undef) := by
  by_cases hi : i < xs.length
  · obtain ⟨y, hy, hr⟩ := h.get (List.getElem?_eq_getElem hi)
    simp only [List.getD_eq_getElem?_getD, hy, List.getElem?_eq_getElem hi, Option.getD_some]; exact hr
  · have h1 : xs[i]? = none := by simp; omega
    have h2 : ys[i]? = none := by have := h.length; simp; omega
    simp [List.getD_eq_getElem?_getD, h1, h2, Rel]
theorem RelL.set {xs : List SV} {ys : List Value} (h : RelL ρ xs ys) {s : SV} {y : Value} (hs : Rel ρ s y) (i : Nat) : RelL ρ (xs.set i s) (ys.set i y) := by
  induction xs generalizing ys i with
  | nil => simp only [RelL] at h; subst h; simpa using RelL.nil
  | cons x0 xs ih =>
    obtain ⟨y0, ys', rfl, h1, h2⟩ := h.cons_inv
    cases i with
    | zero => exact .cons hs h2
    | succ i => exact .cons h1 (ih h2 i)
theorem RelL.append {xs xs' : List SV} {ys ys' : List Value} (h : RelL ρ xs ys) (h' : RelL ρ xs' ys') : RelL ρ (xs ++ xs') (ys ++ ys') := by
  induction xs generalizing ys with
  | nil => simp only [RelL] at h; subst h; exact h'
  | cons x0 xs ih => obtain ⟨y0, ys0, rfl, h1, h2⟩ := h.cons_inv; exact .cons h1 (ih h2)
theorem RelL.drop {xs : List SV} {ys : List Value} (h : RelL ρ xs ys) (n : Nat) : RelL ρ (xs.drop n) (ys.drop n) := by
  induction n generalizing xs ys with
  | zero => exact h
  | succ n ih => cases xs with
    | nil => simp only [RelL] at h; subst h; simpa using RelL.nil
    | cons x xs => obtain ⟨y0, ys0, rfl, h1, h2⟩ := h.cons_inv; exact ih h2
theorem RelL.take {xs : List SV} {ys : List Value} (h : RelL ρ xs ys) (n : Nat) : RelL ρ (xs.take n) (ys.take n) := by
  induction n generalizing xs ys with
  | zero => simpa using RelL.nil
  | succ n ih => cases xs with
    | nil => simp only [RelL] at h; subst h; simpa using RelL.nil
    | cons x xs => obtain ⟨y0, ys0, rfl, h1, h2⟩ := h.cons_inv; exact .cons h1 (ih h2)
theorem RelL.replicate {s : SV} {y : Value} (h : Rel ρ s y) (n : Nat) : RelL ρ (List.replicate n s) (List.replicate n y) := by
  induction n with
  | zero => simpa using RelL.nil
  | succ n ih => simpa [List.replicate_succ] using RelL.cons h ih
theorem RelL.map_v (ys : List Value) : RelL ρ (ys.map .v) ys := by
  induction ys with
  | nil => exact .nil
  | cons y ys ih => exact .cons (by simp [Rel]) ih
theorem RelL.of_map_v {xs ys : List Value} (h : RelL ρ (xs.map .v) ys) : ys = xs := by
  induction xs generalizing ys with
  | nil => simpa [RelL] using h
  | cons x xs ih => obtain ⟨y0, ys0, rfl, h1, h2⟩ := h.cons_inv; simp only [Rel] at h1; rw [h1, ih h2]
theorem RelL.mapAll {α : Type} {l : List α} {f : α → SV} {g : α → Value} (h : ∀ a, Rel ρ (f a) (g a)) : RelL ρ (l.map f) (l.map g) := by
  induction l with
  | nil => exact .nil
  | cons a l ih => exact .cons (h a) ih
end

theorem CK.rel {ρ : Loc} : ∀ (k : CK) (x : k.T), k.good ρ.base x → Rel ρ (k.toSV x) (k.toV x)
  | .bool, _, _ => by simp [CK.toSV, CK.toV, Rel]
  | .int _, _, _ => by simp [CK.toSV, CK.toV, Rel]
  | .str, _, _ => by simp [CK.toSV, CK.toV, Rel]
  | .sl _, x, h => by unfold CK.toSV Rel; exact ⟨rfl, h⟩
  | .nodes, x, h => by unfold CK.toSV Rel; exact ⟨rfl, h⟩
  | .osl _ _, x, h => by simp [CK.toSV, CK.toV, Rel]
theorem CK.one {B : Base} : ∀ (k : CK) (x : k.T), k.good B x → (k.toV x).oneCell' = true ∧ (k.toV x).cells = #[k.toV x]
  | .bool, _, _ => ⟨rfl, rfl⟩
  | .int _, _, _ => ⟨rfl, rfl⟩
  | .str, _, _ => ⟨rfl, rfl⟩
  | .sl _, x, h => by obtain ⟨⟨a, c, e, _⟩, _⟩ := h; simp only [CK.toV, e]; exact ⟨rfl, rfl⟩
  | .nodes, x, h => by obtain ⟨⟨a, c, e, _⟩, _⟩ := h; simp only [CK.toV, e]; exact ⟨rfl, rfl⟩
  | .osl _ _, x, h => by obtain ⟨⟨a, c, e⟩, _⟩ := h; simp only [CK.toV, e]; exact ⟨rfl, rfl⟩
theorem CK.stab_slc {B : Base} : ∀ (k : CK) (x : k.T), k.isStab = true → k.good B x → ∃ a c, k.toV x = .slice a (stabN k x) c ∧ stabN k x ≤ c ∧ (0 < stabN k x → ∃ b o, a = some ⟨b, o, none⟩)
  | .sl _, x, _, ⟨⟨a, c, h1, h2, h3⟩, _⟩ => ⟨a, c, h1, h2, fun h => let ⟨b, o, e, _⟩ := h3 h; ⟨b, o, e⟩⟩
  | .nodes, x, _, ⟨⟨a, c, h1, h2, h3⟩, _⟩ => ⟨a, c, h1, h2, fun h => let ⟨b, o, e, _⟩ := h3 h; ⟨b, o, e⟩⟩
  | .bool, _, h, _ | .int _, _, h, _ | .str, _, h, _ | .osl _ _, _, h, _ => nomatch h
theorem row_rel {ρ : Loc} : ∀ (ks : List CK) (r : RowT ks), RowGood ρ.base ks r → RelL ρ (rowSV ks r) (rowV ks r)
  | [], _, _ => .nil
  | k :: ks, r, h => .cons (k.rel r.1 h.1) (row_rel ks r.2 h.2)
theorem rowV_length : ∀ (ks : List CK) (r : RowT ks), (rowV ks r).length = ks.length
  | [], _ => rfl
  | k :: ks, r => by simp [rowV, rowV_length ks r.2]
theorem rowSV_length : ∀ (ks : List CK) (r : RowT ks), (rowSV ks r).length = ks.length
  | [], _ => rfl
  | k :: ks, r => by simp [rowSV, rowSV_length ks r.2]
theorem rowSV_lo : ∀ (ks : List CK) (r : RowT ks) (n j : Nat) (s : SV), (rowSV ks r)[j]? = some s → s.lo n = true
  | [], _, n, j, s, h => by simp [rowSV] at h
  | k :: ks, r, n, 0, s, h => by
    simp [rowSV] at h
    subst h
    cases k <;> rfl
  | k :: ks, r, n, j + 1, s, h => rowSV_lo ks r.2 n j s (by simpa [rowSV] using h)
/-! ## 2. The tree of what may come -/
inductive Ex where
  | normal
  | exit (id : Nat)
  | ret
def Ex.to : Ex → Exit
  | .normal => .normal
  | .exit i => .exit i
  | .ret => .ret
inductive Tr (α : Type) : Type 1 where
  | ok (a : α)
  | br (c : Bool) (t e : Tr α)
  | both (t e : Tr α)
  | need (p : Prop) (k : Tr α)
  | same (x y : List Blk) (k : Tr α)
  | all (X : Type) (p : X → Prop) (k : X → Tr α)
  | lp (P : Program) (b : Code) (st : St) (k : Ex → St → Tr α)
  | fail (why : Nat)

/-! ## 3. Worldless terms of the model, by evaluation -/
def val? (P : Program) {α : Type} : Sem α → Option α
  | .pure a => some a
  | .program k => val? P (k P)
  | _ => none
theorem run_of_val? {P : Program} {α : Type} : ∀ (s : Sem α) {a : α}, val? P s = some a → ∀ w, s.run P w = .ok a w
  | .pure x, a, h, w => by simp [val?] at h; subst h; rfl
  | .program k, a, h, w => by
    simp only [val?] at h
    exact run_of_val? (k P) h w
  | .load .., a, h, w => by simp [val?] at h
  | .store .., a, h, w => by simp [val?] at h
  | .new .., a, h, w => by simp [val?] at h
  | .shape .., a, h, w => by simp [val?] at h
  | .freeze .., a, h, w => by simp [val?] at h
  | .frozen .., a, h, w => by simp [val?] at h
  | .getObj .., a, h, w => by simp [val?] at h
  | .setObj .., a, h, w => by simp [val?] at h
  | .choose .., a, h, w => by simp [val?] at h
  | .sys .., a, h, w => by simp [val?] at h
  | .mark .., a, h, w => by simp [val?] at h
  | .halt .., a, h, w => by simp [val?] at h

/-! ## 4. What is known of the world -/
def CellOK (ρ : Loc) (w : World) (rw : Bool) (r : Place) (j : Nat) (s : SV) : Prop :=
  ∃ y, w.cell? ⟨r.1, r.2 + j, none⟩ = some y ∧ Rel ρ s y ∧ (rw = true → w.frozen? ⟨r.1, r.2 + j, none⟩ = false)
def RowsOK (w : World) (rw : Bool) (r : Place) (ks : List CK) (l : List (RowT ks)) : Prop :=
  ∀ k x, l[k]? = some x → ∀ j c, (rowV ks x)[j]? = some c → w.cell? ⟨r.1, r.2 + (k * ks.length + j), none⟩ = some c ∧ (rw = true → w.frozen? ⟨r.1, r.2 + (k * ks.length + j), none⟩ = false)
def RoomOK (w : World) (r : Place) (e : TypeId) (sz n : Nat) : Prop :=
  n ≤ r.cap ∧ r.cap ≤ maxLen ∧ (0 < r.cap → r.2 = 0 ∧ r.ptr = some ⟨r.1, 0, none⟩ ∧ ∃ cur, w.heap[r.1]? = some (.cells cur e (0, 0)) ∧ cur.size = r.cap * sz)
/-- are all rows' slices as they are said to be? -/
def RowsGood (B : Base) (ks : List CK) (l : List (RowT ks)) : Prop := ∀ r ∈ l, RowGood B ks r
/-- the block that an owned slice lies in -/
def ownBlk : Value → List Nat
  | .slice (some a) _ (_ + 1) => [a.block]
  | _ => []
def CK.owned : (k : CK) → k.T → List Nat
  | .osl _ _, x => match x.2.1 with
    | true => ownBlk x.1
    | false => []
  | _, _ => []
def rowOwned : (ks : List CK) → RowT ks → List Nat
  | [], _ => []
  | k :: ks, r => k.owned r.1 ++ rowOwned ks r.2
def rowsOwned (ks : List CK) (l : List (RowT ks)) : List Nat := l.flatMap (rowOwned ks)
def plOf : Value → Place
  | .slice (some a) _ c => ⟨a.block, a.off, some a, c⟩
  | .slice none _ c => ⟨0, 0, none, c⟩
  | _ => ⟨0, 0, none, 0⟩
def noOsl : List CK → Bool
  | [] => true
  | .osl _ _ :: _ => false
  | _ :: ks => noOsl ks
/-- an owned slice is a whole block of rows -/
def CK.oslOK (w : World) : (k : CK) → k.T → Prop
  | .osl e ks, x => x.2.1 = true → RowsOK w true (plOf x.1) ks x.2.2 ∧ RoomOK w (plOf x.1) e ks.length x.2.2.length ∧ noOsl ks = true
  | _, _ => True
def rowOsl (w : World) : (ks : List CK) → RowT ks → Prop
  | [], _ => True
  | k :: ks, r => k.oslOK w r.1 ∧ rowOsl w ks r.2
def RowsOsl (w : World) (ks : List CK) (l : List (RowT ks)) : Prop := ∀ r ∈ l, rowOsl w ks r
/-- what else an own block's rows bring with them -/
structure OwnX (B : Base) (w : World) (r : Place) (ks : List CK) (l : List (RowT ks)) : Prop where
  good : RowsGood B ks l
  osl : RowsOsl w ks l
  nodup : (rowsOwned ks l).Nodup
  self : ∀ k ∈ rowsOwned ks l, 0 < r.cap → k ≠ r.1
def BodyOK (ρ : Loc) (w : World) (rw : Bool) (r : Place) : Body → Prop
  | .lit cs => ∀ j s, cs[j]? = some s → CellOK ρ w rw r j s
  | .row n sz get => ∀ k, k < n → (get k).length = sz ∧ ∀ j s, (get k)[j]? = some s → s.lo 0 = true ∧ CellOK ρ w rw r (k * sz + j) s
  | .rows ks l => RowsOK w rw r ks l ∧ RowsGood ρ.base ks l
  | .own e ks l => RowsOK w true r ks l ∧ RoomOK w r e ks.length l.length ∧ OwnX ρ.base w r ks l
  | .dead => True
/-- the other blocks that a block's rows own -/
def Body.own2 : Body → List Nat
  | .own _ ks l => rowsOwned ks l
  | _ => []
def Body.live : Body → Bool
  | .dead => false
  | _ => true
/-- is there something of the world in it? -/
def Body.hold : Body → Place → Prop
  | .dead, _ => False
  | .rows _ l, _ => 0 < l.length
  | .own _ _ _, r => 0 < r.cap
  | _, _ => True
/-- which old blocks may be written; what stayed as it was at first -/
structure Lim where
  at_ : Nat → Prop
  b0 : Base
instance : CoeFun Lim fun _ => Nat → Prop := ⟨Lim.at_⟩
structure MemOK (ρ : Loc) (w0 : World) (X : Lim) (mem : List Blk) (w : World) : Prop where
  blk : ∀ i b, mem[i]? = some b → ∃ r, ρ i = some r ∧ BodyOK ρ w b.rw r b.body ∧ (b.body.hold r → r.1 < w.heap.size ∧ (b.rw = true → w0.heap.size ≤ r.1 ∨ X r.1))
  past : ∀ i, mem.length ≤ i → ρ i = none
  apart : ∀ i j bi bj ri rj, i ≠ j → mem[i]? = some bi → mem[j]? = some bj → bi.rw = true → ρ i = some ri → ρ j = some rj → bi.body.hold ri → bj.body.hold rj → ri.1 ≠ rj.1
  more : ∀ (i : Nat) (b : Blk) (k : Nat), mem[i]? = some b → k ∈ b.body.own2 → k < w.heap.size ∧ (b.rw = true → (w0.heap.size ≤ k ∨ X k) ∧ ρ.base k = none)
  moreA : ∀ (i j : Nat) (bi bj : Blk) (rj : Place) (k : Nat), mem[i]? = some bi → mem[j]? = some bj → k ∈ bi.body.own2 → bi.rw = true ∨ bj.rw = true → ρ j = some rj → bj.body.hold rj → k ≠ rj.1
  moreB : ∀ (i j : Nat) (bi bj : Blk) (k : Nat), i ≠ j → mem[i]? = some bi → mem[j]? = some bj → bi.rw = true → k ∈ bi.body.own2 → k ∉ bj.body.own2
  base : ∀ (k : Nat) (o : Obj), ρ.base k = some o → w.heap[k]? = some o
  free : ∀ (i : Nat) (b : Blk) (r : Place), mem[i]? = some b → b.rw = true → ρ i = some r → b.body.hold r → ρ.base r.1 = none
  grow : ∀ (k : Nat) (o : Obj), ρ.base k = some o → X.b0 k = some o ∨ w0.heap.size ≤ k ∨ X k
/-- what is known of the blocks' contents alone -/
structure MemQ (q : Bool) (ρ : Loc) (mem : List Blk) (w : World) : Prop where
  blk : ∀ (i : Nat) (b : Blk), mem[i]? = some b → ∃ r, ρ i = some r ∧ BodyOK ρ w b.rw r b.body
  base : q = true → ∀ (k : Nat) (o : Obj), ρ.base k = some o → w.heap[k]? = some o
abbrev MemB := MemQ true
/-- does it stay as it is? -/
def SV.stab : SV → Bool
  | .sv .. | .sptr .. => true
  | _ => false
instance {q : Bool} {ρ : Loc} {mem : List Blk} {w : World} : CoeFun (MemQ q ρ mem w) fun _ => ∀ (i : Nat) (b : Blk), mem[i]? = some b → ∃ r, ρ i = some r ∧ BodyOK ρ w b.rw r b.body := ⟨MemQ.blk⟩
theorem MemOK.memB {ρ : Loc} {w0 : World} {X : Lim} {mem : List Blk} {w : World} (h : MemOK ρ w0 X mem w) : MemB ρ mem w := ⟨fun i b hi => let ⟨r, hr, hb, _⟩ := h.blk i b hi; ⟨r, hr, hb⟩, fun _ => h.base⟩
structure Frm (w0 : World) (X : Lim) (w : World) : Prop where
  os : w.os = w0.os
  tape : w.tape = w0.tape
  output : w.output = w0.output
  size : w0.heap.size ≤ w.heap.size
  block : ∀ k, k < w0.heap.size → ¬ X k → w.heap[k]? = w0.heap[k]?
structure Sim (ρ : Loc) (w0 : World) (X : Lim) (st : St) (a : Act) (w : World) : Prop where
  defers : a.defers = []
  tmps : RelL ρ st.tmps a.tmps.toList
  mem : MemOK ρ w0 X st.mem w
  frame : Frm w0 X w
section
variable {ρ : Loc} {w0 w w' : World} {X : Lim} {st : St} {a : Act}
theorem Frm.refl (w0 : World) (X : Lim) : Frm w0 X w0 := ⟨rfl, rfl, rfl, Nat.le_refl _, fun _ _ _ => rfl⟩
theorem RowsOK.of_block {rw : Bool} {r : Place} {ks : List CK} {l : List (RowT ks)} (h : RowsOK w rw r ks l) (hb : w'.heap[r.1]? = w.heap[r.1]?) : RowsOK w' rw r ks l := by
  intro k x hk j c hj
  obtain ⟨h1, h2⟩ := h k x hk j c hj
  exact ⟨by rw [World.cell?_of_block (w := w) hb]; exact h1, fun e => by rw [World.frozen?_of_block (w := w) hb]; exact h2 e⟩
theorem RoomOK.of_block {r : Place} {e : TypeId} {sz n : Nat} (h : RoomOK w r e sz n) (hb : 0 < r.cap → w'.heap[r.1]? = w.heap[r.1]?) : RoomOK w' r e sz n := by
  obtain ⟨h2, h3, h4⟩ := h
  refine ⟨h2, h3, fun hc => ?_⟩
  rw [hb hc]; exact h4 hc
theorem plOf_blk {v : Value} (h : 0 < (plOf v).cap) (hp : (plOf v).ptr ≠ none) : (plOf v).1 ∈ ownBlk v := by
  unfold plOf at h hp ⊢
  split at h
  · rename_i a n c
    obtain ⟨c, rfl⟩ : ∃ d, c = d + 1 := ⟨c - 1, by simp only at h; omega⟩
    simp [ownBlk]
  · simp at hp
  · simp at h
theorem CK.oslOK.of_block : ∀ (k : CK) (x : k.T), k.oslOK w x → (∀ b ∈ k.owned x, w'.heap[b]? = w.heap[b]?) → k.oslOK w' x
  | .bool, _, _, _ => trivial
  | .int _, _, _, _ => trivial
  | .str, _, _, _ => trivial
  | .sl _, _, _, _ => trivial
  | .nodes, _, _, _ => trivial
  | .osl e ks, x, h, hb => by
    intro hl
    obtain ⟨h2, h3, h4⟩ := h hl
    have hsame : 0 < (plOf x.1).cap → w'.heap[(plOf x.1).1]? = w.heap[(plOf x.1).1]? := fun hc => by
      refine hb _ ?_
      simp only [CK.owned, hl]
      refine plOf_blk hc ?_
      rw [(h3.2.2 hc).2.1]; simp
    refine ⟨?_, h3.of_block hsame, h4⟩
    by_cases hc : 0 < (plOf x.1).cap
    · exact h2.of_block (hsame hc)
    · have hn := h3.1
      have : x.2.2 = [] := List.eq_nil_of_length_eq_zero (by omega)
      rw [this]
      exact fun k y hk => by simp at hk
theorem rowOsl.of_block : ∀ (ks : List CK) (r : RowT ks), rowOsl w ks r → (∀ b ∈ rowOwned ks r, w'.heap[b]? = w.heap[b]?) → rowOsl w' ks r
  | [], _, _, _ => trivial
  | k :: ks, r, h, hb => ⟨CK.oslOK.of_block k r.1 h.1 fun b hm => hb b (List.mem_append_left _ hm), rowOsl.of_block ks r.2 h.2 fun b hm => hb b (List.mem_append_right _ hm)⟩
theorem RowsOsl.of_block {ks : List CK} {l : List (RowT ks)} (h : RowsOsl w ks l) (hb : ∀ b ∈ rowsOwned ks l, w'.heap[b]? = w.heap[b]?) : RowsOsl w' ks l := fun r hr =>
  rowOsl.of_block ks r (h r hr) fun b hm => hb b (List.mem_flatMap.2 ⟨r, hr, hm⟩)
theorem OwnX.of_block {B : Base} {r : Place} {ks : List CK} {l : List (RowT ks)} (h : OwnX B w r ks l) (hb : ∀ b ∈ rowsOwned ks l, w'.heap[b]? = w.heap[b]?) : OwnX B w' r ks l := ⟨h.good, h.osl.of_block hb, h.nodup, h.self⟩
theorem OwnX.le {B B' : Base} (hB : Base.le B B') {r : Place} {ks : List CK} {l : List (RowT ks)} (h : OwnX B w r ks l) : OwnX B' w r ks l := ⟨fun x hx => RowGood.le hB ks x (h.good x hx), h.osl, h.nodup, h.self⟩
theorem BodyOK.of_block {rw : Bool} {r : Place} {b : Body} (h : BodyOK ρ w rw r b) (hb : b.hold r → w'.heap[r.1]? = w.heap[r.1]?) (hx : ∀ k ∈ b.own2, w'.heap[k]? = w.heap[k]?) : BodyOK ρ w' rw r b := by
  cases b with
  | lit cs =>
    have hb := hb trivial
    intro j s hj; obtain ⟨y, h1, h2, h3⟩ := h j s hj; exact ⟨y, by rw [World.cell?_of_block (w := w) hb]; exact h1, h2, fun e => by rw [World.frozen?_of_block (w := w) hb]; exact h3 e⟩
  | row n sz get =>
    have hb := hb trivial
    intro k hk; refine ⟨(h k hk).1, fun j s hj => ?_⟩
    obtain ⟨h0, y, h1, h2, h3⟩ := (h k hk).2 j s hj; exact ⟨h0, y, by rw [World.cell?_of_block (w := w) hb]; exact h1, h2, fun e => by rw [World.frozen?_of_block (w := w) hb]; exact h3 e⟩
  | rows ks l =>
    by_cases hl : 0 < l.length
    · exact ⟨RowsOK.of_block h.1 (hb hl), h.2⟩
    · have hl0 : l = [] := List.eq_nil_of_length_eq_zero (by omega)
      subst hl0
      exact ⟨fun k x hk => by simp at hk, h.2⟩
  | own e ks l =>
    obtain ⟨h1, h2, h3⟩ := h
    refine ⟨?_, h2.of_block hb, h3.of_block hx⟩
    by_cases hc : 0 < r.cap
    · exact h1.of_block (hb hc)
    · have hl : l = [] := List.eq_nil_of_length_eq_zero (by have := h2.1; omega)
      subst hl
      exact fun k x hk => by simp at hk
  | dead => trivial
theorem BodyOK.mono {ρ' : Loc} {rw : Bool} {r : Place} {b : Body} (e : Ext ρ ρ') (h : BodyOK ρ w rw r b) : BodyOK ρ' w rw r b := by
  cases b with
  | lit cs => intro j s hj; obtain ⟨y, h1, h2, h3⟩ := h j s hj; exact ⟨y, h1, h2.mono e, h3⟩
  | row n sz get =>
    intro k hk; refine ⟨(h k hk).1, fun j s hj => ?_⟩
    obtain ⟨h0, y, h1, h2, h3⟩ := (h k hk).2 j s hj; exact ⟨h0, y, h1, h2.mono e, h3⟩
  | rows ks l => exact ⟨h.1, fun x hx => RowGood.le e.base ks x (h.2 x hx)⟩
  | own e' ks l => exact ⟨h.1, h.2.1, h.2.2.le e.base⟩
  | dead => trivial
theorem Act.put_toList (a : Act) (d : Tmp) (y : Value) : (a.put (some d) y).tmps.toList = a.tmps.toList.set d y := by simp [Act.put]
def St.put (st : St) (d : Option Tmp) (s : SV) : St :=
  match d with
  | some d => { st with tmps := st.tmps.set d s }
  | none => st
theorem Sim.put (S : Sim ρ w0 X st a w) {s : SV} {y : Value} (h : Rel ρ s y) (d : Option Tmp) : Sim ρ w0 X (st.put d s) (a.put d y) w := by
  cases d with
  | none => exact S
  | some d => exact ⟨S.defers, by rw [Act.put_toList]; exact S.tmps.set h d, S.mem, S.frame⟩
/-- the operand's symbolic value -/
def ofVal : Value → SV
  | .agg cs => .agg (cs.toList.map .v)
  | x => .v x
def ev (st : St) : Operand → SV
  | .tmp t => st.tmps.getD t (.v undef)
  | .const x => ofVal x
  | .global g => .v (.pointer (some ⟨g, 0, none⟩))
  | .func f => .fn f []
theorem ofVal_rel (x : Value) : Rel ρ (ofVal x) x := by
  cases x <;> first | (simp [ofVal, Rel]; done) | skip
  rename_i cs
  simp only [ofVal, Rel]
  exact ⟨cs.toList, RelL.map_v _, by simp⟩
theorem ev_rel (ht : RelL ρ st.tmps a.tmps.toList) (x : Operand) : Rel ρ (ev st x) (a.eval x) := by
  cases x with
  | tmp t =>
    have := ht.getD t
    simpa [Sx.ev, Act.eval, List.getD_eq_getElem?_getD, Array.getD_eq_getD_getElem?] using this
  | const x => exact ofVal_rel x
  | global g => simp [Sx.ev, Act.eval, Rel]
  | func f => simp only [Sx.ev, Act.eval, Rel]; exact ⟨[], .nil, rfl⟩
theorem Sim.ev (S : Sim ρ w0 X st a w) (x : Operand) : Rel ρ (ev st x) (a.eval x) := ev_rel S.tmps x
/-- what a value needs -/
structure SimB (ρ : Loc) (st : St) (a : Act) (w : World) : Prop where
  tmps : RelL ρ st.tmps a.tmps.toList
  mem : MemB ρ st.mem w
theorem SimB.ev (S : SimB ρ st a w) (x : Operand) : Rel ρ (Sx.ev st x) (a.eval x) := ev_rel S.tmps x
theorem Sim.toB (S : Sim ρ w0 X st a w) : SimB ρ st a w := ⟨S.tmps, S.mem.memB⟩
end

/-! ### what holds of a tree -/
/-- the words on a loop are true: it ends in one of these ways -/
def LoopSum (P : Program) (b : Code) (st : St) (Y : Type) (p : Y → Prop) (out : Y → Ex × St) : Prop :=
  ∀ (ρ : Loc) (w0 : World) (X : Lim) (a : Act) (w : World) (Q : Exit → Act → World → Prop), Sim ρ w0 X st a w →
    (∀ y, p y → ∀ ρ' a' w', Ext ρ ρ' → Sim ρ' w0 X (out y).2 a' w' → Q (out y).1.to a' w') → (Code.loop b).wp P Q a w
def Tr.holds {α : Type} (Q : α → Prop) : Tr α → Prop
  | .ok a => Q a
  | .br c t e => (c = true → t.holds Q) ∧ (c = false → e.holds Q)
  | .both t e => t.holds Q ∧ e.holds Q
  | .need p k => p ∧ (p → k.holds Q)
  | .same x y k => x = y ∧ (x = y → k.holds Q)
  | .all X p k => ∀ x : X, p x → (k x).holds Q
  | .lp P b st k => ∃ (Y : Type) (p : Y → Prop) (out : Y → Ex × St), LoopSum P b st Y p out ∧ ∀ y, p y → (k (out y).1 (out y).2).holds Q
  | .fail _ => False
def Tr.bind {α β : Type} : Tr β → (β → Tr α) → Tr α
  | .ok a, f => f a
  | .br c t e, f => .br c (t.bind f) (e.bind f)
  | .both t e, f => .both (t.bind f) (e.bind f)
  | .need p k, f => .need p (k.bind f)
  | .same x y k, f => .same x y (k.bind f)
  | .all X p k, f => .all X p fun x => (k x).bind f
  | .lp P b st k, f => .lp P b st fun e st => (k e st).bind f
  | .fail n, _ => .fail n
theorem Tr.holds_bind {α β : Type} {Q : α → Prop} : ∀ (t : Tr β) (f : β → Tr α), (t.bind f).holds Q ↔ t.holds fun b => (f b).holds Q
  | .ok a, f => Iff.rfl
  | .br c t e, f => by simp only [Tr.bind, Tr.holds, Tr.holds_bind t f, Tr.holds_bind e f]
  | .both t e, f => by simp only [Tr.bind, Tr.holds, Tr.holds_bind t f, Tr.holds_bind e f]
  | .need p k, f => by simp only [Tr.bind, Tr.holds, Tr.holds_bind k f]
  | .same x y k, f => by simp only [Tr.bind, Tr.holds, Tr.holds_bind k f]
  | .all X p k, f => by
    simp only [Tr.bind, Tr.holds]
    exact forall_congr' fun x => forall_congr' fun _ => Tr.holds_bind (k x) f
  | .lp P b st k, f => by
    simp only [Tr.bind, Tr.holds]
    constructor
    · rintro ⟨Y, p, out, h1, h2⟩; exact ⟨Y, p, out, h1, fun y hy => (Tr.holds_bind (k _ _) f).1 (h2 y hy)⟩
    · rintro ⟨Y, p, out, h1, h2⟩; exact ⟨Y, p, out, h1, fun y hy => (Tr.holds_bind (k _ _) f).2 (h2 y hy)⟩
  | .fail n, f => Iff.rfl
theorem Tr.holds.mono {α : Type} {Q Q' : α → Prop} (hq : ∀ a, Q a → Q' a) : ∀ (t : Tr α), t.holds Q → t.holds Q'
  | .ok a, h => hq a h
  | .br c t e, h => ⟨fun hc => Tr.holds.mono hq t (h.1 hc), fun hc => Tr.holds.mono hq e (h.2 hc)⟩
  | .both t e, h => ⟨Tr.holds.mono hq t h.1, Tr.holds.mono hq e h.2⟩
  | .need p k, h => ⟨h.1, fun hp => Tr.holds.mono hq k (h.2 hp)⟩
  | .same x y k, h => ⟨h.1, fun hp => Tr.holds.mono hq k (h.2 hp)⟩
  | .all X p k, h => fun x hx => Tr.holds.mono hq (k x) (h x hx)
  | .lp P b st k, ⟨Y, p, out, h1, h2⟩ => ⟨Y, p, out, h1, fun y hy => Tr.holds.mono hq (k _ _) (h2 y hy)⟩
  | .fail n, h => h


/-! ## 5. Memory: a new block, a load, a store -/
section
variable {ρ : Loc} {w0 w w' : World} {X : Lim} {st : St} {a : Act} {P : Program}
def ext (ρ : Loc) (i : Nat) (r : Place) : Loc := ⟨fun j => if j = i then some r else ρ j, ρ.base⟩
theorem ext_ext {ρ : Loc} {i : Nat} (h : ρ i = none) (r : Place) : Ext ρ (ext ρ i r) := by
  refine ⟨fun b r' hb => ?_, Base.le_refl _⟩
  show (if b = i then some r else ρ b) = some r'
  split
  · rename_i e; subst e; rw [h] at hb; cases hb
  · exact hb
theorem ext_at (ρ : Loc) (i : Nat) (r : Place) : ext ρ i r i = some r := by simp [ext]
theorem cell_alloc (w : World) (o : Obj) {b : Nat} (hb : b < w.heap.size) (j : Nat) : (w.alloc o).cell? ⟨b, j, none⟩ = w.cell? ⟨b, j, none⟩ := World.cell?_alloc_lt w o _ hb
theorem frozen_alloc (w : World) (o : Obj) {b : Nat} (hb : b < w.heap.size) (j : Nat) : (w.alloc o).frozen? ⟨b, j, none⟩ = w.frozen? ⟨b, j, none⟩ := World.frozen?_alloc_old w o _ (by simp; omega)
theorem Frm.alloc (h : Frm w0 X w) (o : Obj) : Frm w0 X (w.alloc o) :=
  ⟨h.os, h.tape, h.output, by simp; have := h.size; omega, fun k hk hx => by
    rw [← h.block k hk hx]
    show (w.heap.push o)[k]? = _
    rw [Array.getElem?_push, if_neg (by have := h.size; omega)]⟩
/-- a later world, the old blocks as they were -/
theorem MemOK.later {mem : List Blk} (h : MemOK ρ w0 X mem w) (ho : ∀ k, k < w.heap.size → w'.heap[k]? = w.heap[k]?) (hsz : w.heap.size ≤ w'.heap.size) : MemOK ρ w0 X mem w' := by
  refine ⟨fun i b hi => ?_, h.past, h.apart, fun i b k hi hk => ⟨Nat.lt_of_lt_of_le (h.more i b k hi hk).1 hsz, (h.more i b k hi hk).2⟩, h.moreA, h.moreB, fun k o hk => ?_, h.free, h.grow⟩
  · obtain ⟨r, hr, hb, hx⟩ := h.blk i b hi
    exact ⟨r, hr, hb.of_block (fun hh => ho _ (hx hh).1) fun k hk => ho _ (h.more i b k hi hk).1, fun hh => ⟨Nat.lt_of_lt_of_le (hx hh).1 hsz, (hx hh).2⟩⟩
  · have := h.base k o hk
    rw [ho k (Array.getElem?_eq_some_iff.1 this).1]; exact this
/-- a block of the world that nothing in memory holds -/
structure Free (ρ : Loc) (w0 : World) (X : Lim) (mem : List Blk) (w : World) (k : Nat) : Prop where
  lt : k < w.heap.size
  mine : w0.heap.size ≤ k ∨ X k
  hold : ∀ (j : Nat) (bj : Blk) (rj : Place), mem[j]? = some bj → ρ j = some rj → bj.body.hold rj → rj.1 ≠ k
  own2 : ∀ (j : Nat) (bj : Blk), mem[j]? = some bj → k ∉ bj.body.own2
  base : ρ.base k = none
theorem MemOK.newFree {mem : List Blk} (h : MemOK ρ w0 X mem w) (hw0 : w0.heap.size ≤ w.heap.size) {k : Nat} (h1 : w.heap.size ≤ k) (h2 : k < w'.heap.size) : Free ρ w0 X mem w' k := by
  refine ⟨h2, .inl (by omega), fun j bj rj hj hrj hh => ?_, fun j bj hj hk => ?_, ?_⟩
  · obtain ⟨r, hr, _, hx⟩ := h.blk j bj hj
    rw [hrj] at hr; cases hr
    have := (hx hh).1
    omega
  · have := (h.more j bj k hj hk).1; omega
  · cases hb : ρ.base k with
    | none => rfl
    | some o =>
      have := (Array.getElem?_eq_some_iff.1 (h.base k o hb)).1
      omega
/-- one more block -/
theorem MemOK.push {mem : List Blk} (h : MemOK ρ w0 X mem w) {r : Place} {body : Body} (hbody : BodyOK (ext ρ mem.length r) w true r body)
    (hh : body.hold r → Free ρ w0 X mem w r.1) (hx : ∀ k ∈ body.own2, Free ρ w0 X mem w k ∧ (body.hold r → k ≠ r.1)) :
    MemOK (ext ρ mem.length r) w0 X (mem ++ [⟨true, body⟩]) w := by
  have he : Ext ρ (ext ρ mem.length r) := ext_ext (h.past _ (Nat.le_refl _)) _
  have old : ∀ (k : Nat) bk rk, mem[k]? = some bk → ext ρ mem.length r k = some rk → ρ k = some rk := by
    intro k bk rk hk hrk
    obtain ⟨r0, hr0, _⟩ := h.blk k bk hk
    have := he _ _ hr0
    rw [this] at hrk; cases hrk; exact hr0
  have part : ∀ (i : Nat) b, (mem ++ [⟨true, body⟩])[i]? = some b → (i < mem.length ∧ mem[i]? = some b) ∨ (i = mem.length ∧ b = ⟨true, body⟩) := by
    intro i b hi
    by_cases hlt : i < mem.length
    · rw [List.getElem?_append_left hlt] at hi; exact .inl ⟨hlt, hi⟩
    · have hil : i = mem.length := by
        have := (List.getElem?_eq_some_iff.1 hi).1
        simp at this; omega
      subst hil
      simp at hi
      exact .inr ⟨rfl, hi.symm⟩
  refine ⟨fun i b hi => ?_, fun i hi => ?_, fun i j bi bj ri rj hij hbi hbj hrw hri hrj hli hlj => ?_, fun i b k hi hk => ?_, fun i j bi bj rj k hbi hbj hk hrw hrj hlj => ?_, fun i j bi bj k hij hbi hbj hrw hk hk2 => ?_, h.base, fun i b ri hi hrw hri hl => ?_, h.grow⟩
  · rcases part i b hi with ⟨_, hi⟩ | ⟨rfl, rfl⟩
    · obtain ⟨r0, hr0, hb, hx⟩ := h.blk i b hi
      exact ⟨r0, he _ _ hr0, hb.mono he, hx⟩
    · exact ⟨_, ext_at _ _ _, hbody, fun k => ⟨(hh k).lt, fun _ => (hh k).mine⟩⟩
  · simp at hi
    show (if i = mem.length then some r else ρ i) = none
    rw [if_neg (by omega)]
    exact h.past i (by omega)
  · rcases part i bi hbi with ⟨hi, hbi⟩ | ⟨rfl, rfl⟩
    · rcases part j bj hbj with ⟨hj, hbj⟩ | ⟨rfl, rfl⟩
      · exact h.apart i j bi bj ri rj hij hbi hbj hrw (old _ _ _ hbi hri) (old _ _ _ hbj hrj) hli hlj
      · rw [ext_at] at hrj; cases hrj
        exact (hh hlj).hold i bi ri hbi (old _ _ _ hbi hri) hli
    · rw [ext_at] at hri; cases hri
      rcases part j bj hbj with ⟨hj, hbj⟩ | ⟨rfl, rfl⟩
      · exact fun e => (hh hli).hold j bj rj hbj (old _ _ _ hbj hrj) hlj e.symm
      · exact absurd rfl hij
  · rcases part i b hi with ⟨_, hi⟩ | ⟨rfl, rfl⟩
    · exact h.more i b k hi hk
    · have := (hx k hk).1; exact ⟨this.lt, fun _ => ⟨this.mine, this.base⟩⟩
  · rcases part i bi hbi with ⟨hi, hbi⟩ | ⟨rfl, rfl⟩
    · rcases part j bj hbj with ⟨hj, hbj⟩ | ⟨rfl, rfl⟩
      · exact h.moreA i j bi bj rj k hbi hbj hk hrw (old _ _ _ hbj hrj) hlj
      · rw [ext_at] at hrj; cases hrj
        exact fun e => (hh hlj).own2 i bi hbi (e ▸ hk)
    · rcases part j bj hbj with ⟨hj, hbj⟩ | ⟨rfl, rfl⟩
      · exact fun e => (hx k hk).1.hold j bj rj hbj (old _ _ _ hbj hrj) hlj e.symm
      · rw [ext_at] at hrj; cases hrj
        exact (hx k hk).2 hlj
  · rcases part i bi hbi with ⟨hi, hbi⟩ | ⟨rfl, rfl⟩
    · rcases part j bj hbj with ⟨hj, hbj⟩ | ⟨rfl, rfl⟩
      · exact h.moreB i j bi bj k hij hbi hbj hrw hk hk2
      · exact (hx k hk2).1.own2 i bi hbi hk
    · rcases part j bj hbj with ⟨hj, hbj⟩ | ⟨rfl, rfl⟩
      · exact (hx k hk).1.own2 j bj hbj hk2
      · exact absurd rfl hij
  · rcases part i b hi with ⟨_, hi⟩ | ⟨rfl, rfl⟩
    · exact h.free i b ri hi hrw (old _ _ _ hi hri) hl
    · rw [ext_at] at hri; cases hri; exact (hh hl).base
/-- a block is written, or is looked at as another one -/
theorem MemOK.upd {mem : List Blk} (h : MemOK ρ w0 X mem w) {b : Nat} {body : Body} (hb : mem[b]? = some ⟨true, body⟩) {r : Place} (hr : ρ b = some r) (hoth : ∀ k, (body.hold r → k ≠ r.1) → w'.heap[k]? = w.heap[k]?) (hsz : w'.heap.size = w.heap.size) {body' : Body} (hh : body'.hold r → body.hold r)
    (hx' : ∀ k ∈ body'.own2, k ∈ body.own2 ∨ Free ρ w0 X mem w k) (hbody : BodyOK ρ w' true r body') : MemOK ρ w0 X (mem.set b ⟨true, body'⟩) w' := by
  have hbl : b < mem.length := (List.getElem?_eq_some_iff.1 hb).1
  obtain ⟨r', hr', hok, hx⟩ := h.blk b _ hb
  rw [hr] at hr'; cases hr'
  have get : ∀ (k : Nat) bk, (mem.set b ⟨true, body'⟩)[k]? = some bk → ∃ bk', mem[k]? = some bk' ∧ bk'.rw = bk.rw ∧ (∀ rk, ρ k = some rk → bk.body.hold rk → bk'.body.hold rk) ∧ ∀ q ∈ bk.body.own2, q ∈ bk'.body.own2 ∨ (k = b ∧ Free ρ w0 X mem w q) := by
    intro k bk hk
    by_cases hkb : k = b
    · subst hkb; simp [hbl] at hk; subst hk; exact ⟨_, hb, rfl, fun rk hrk hk => by rw [hr] at hrk; cases hrk; exact hh hk, fun q hq => (hx' q hq).imp id fun h => ⟨rfl, h⟩⟩
    · rw [List.getElem?_set_ne (Ne.symm hkb)] at hk; exact ⟨bk, hk, rfl, fun _ _ h => h, fun _ h => .inl h⟩
  refine ⟨fun i bi hi => ?_, fun i hi => h.past i (by simpa using hi), fun i k bi bk ri rk hik hbi hbk hrw hri hrk hli hlk => ?_, fun i bi k hi hk => ?_, fun i j bi bj rj k hbi hbj hk hrw hrj hlj => ?_, fun i j bi bj k hij hbi hbj hrw hk hk2 => ?_, fun k o hk => ?_, fun i bi ri hi hrw hri hl => ?_, h.grow⟩
  · by_cases hib : i = b
    · subst hib
      simp [hbl] at hi
      subst hi
      exact ⟨r, hr, hbody, fun k => ⟨by rw [hsz]; exact (hx (hh k)).1, (hx (hh k)).2⟩⟩
    · rw [List.getElem?_set_ne (Ne.symm hib)] at hi
      obtain ⟨ri, hri, hbi, hxi⟩ := h.blk i bi hi
      refine ⟨ri, hri, hbi.of_block (fun hk => hoth _ fun hbh => ?_) (fun k hk => hoth _ fun hbh => ?_), fun hk => ⟨by rw [hsz]; exact (hxi hk).1, (hxi hk).2⟩⟩
      · exact fun e => h.apart b i _ bi r ri (Ne.symm hib) hb hi rfl hr hri hbh hk e.symm
      · exact h.moreA i b bi _ r k hi hb hk (.inr rfl) hr hbh
  · obtain ⟨bi', h1i, h2i, h3i, _⟩ := get i bi hbi
    obtain ⟨bk', h1k, h2k, h3k, _⟩ := get k bk hbk
    exact h.apart i k bi' bk' ri rk hik h1i h1k (h2i.trans hrw) hri hrk (h3i _ hri hli) (h3k _ hrk hlk)
  · obtain ⟨bi', h1, h2, _, h4⟩ := get i bi hi
    rcases h4 k hk with h4 | ⟨_, h4⟩
    · have := h.more i bi' k h1 h4
      exact ⟨by rw [hsz]; exact this.1, fun e => this.2 (h2.trans e)⟩
    · exact ⟨by rw [hsz]; exact h4.lt, fun _ => ⟨h4.mine, h4.base⟩⟩
  · obtain ⟨bi', h1i, h2i, _, h4i⟩ := get i bi hbi
    obtain ⟨bj', h1j, h2j, h3j, _⟩ := get j bj hbj
    rcases h4i k hk with h4 | ⟨_, h4⟩
    · exact h.moreA i j bi' bj' rj k h1i h1j h4 (by rw [h2i, h2j]; exact hrw) hrj (h3j _ hrj hlj)
    · exact fun e => h4.hold j bj' rj h1j hrj (h3j _ hrj hlj) e.symm
  · obtain ⟨bi', h1i, h2i, _, h4i⟩ := get i bi hbi
    obtain ⟨bj', h1j, h2j, _, h4j⟩ := get j bj hbj
    rcases h4i k hk with h4 | ⟨rfl, h4⟩
    · rcases h4j k hk2 with h5 | ⟨_, h5⟩
      · exact h.moreB i j bi' bj' k hij h1i h1j (h2i.trans hrw) h4 h5
      · exact h5.own2 i bi' h1i h4
    · rcases h4j k hk2 with h5 | ⟨rfl, _⟩
      · exact h4.own2 j bj' h1j h5
      · exact hij rfl
  · have hk' := h.base k o hk
    rw [hoth k fun hbh e => ?_]
    · exact hk'
    · have := h.free b _ r hb rfl hr hbh
      rw [← e, hk] at this; cases this
  · obtain ⟨bi', h1, h2, h3, _⟩ := get i bi hi
    exact h.free i bi' ri h1 (h2.trans hrw) hri (h3 _ hri hl)
theorem Free.world {mem : List Blk} {k : Nat} (h : Free ρ w0 X mem w k) (hsz : w.heap.size ≤ w'.heap.size) : Free ρ w0 X mem w' k := ⟨Nat.lt_of_lt_of_le h.lt hsz, h.mine, h.hold, h.own2, h.base⟩
theorem Free.kill {mem : List Blk} {k : Nat} (h : Free ρ w0 X mem w k) (b : Nat) : Free ρ w0 X (mem.set b ⟨true, .dead⟩) w k := by
  have get : ∀ (j : Nat) (bj : Blk), (mem.set b ⟨true, .dead⟩)[j]? = some bj → mem[j]? = some bj ∨ bj = ⟨true, .dead⟩ := by
    intro j bj hj
    by_cases hjb : j = b
    · subst hjb
      have hl := (List.getElem?_eq_some_iff.1 hj).1
      simp at hl
      simp [hl] at hj
      exact .inr hj.symm
    · rw [List.getElem?_set_ne (Ne.symm hjb)] at hj; exact .inl hj
  refine ⟨h.lt, h.mine, fun j bj rj hj hrj hl => ?_, fun j bj hj hk => ?_, h.base⟩
  · rcases get j bj hj with h1 | rfl
    · exact h.hold j bj rj h1 hrj hl
    · exact hl.elim
  · rcases get j bj hj with h1 | rfl
    · exact h.own2 j bj h1 hk
    · cases hk
/-- what a forgotten block held is free -/
theorem MemOK.freed {mem : List Blk} (h : MemOK ρ w0 X mem w) {b : Nat} {body : Body} (hb : mem[b]? = some ⟨true, body⟩) {r : Place} (hr : ρ b = some r) {body' : Body} {k : Nat} (hk : k ∈ body.own2 ∨ (body.hold r ∧ k = r.1)) (h1 : body'.hold r → k ≠ r.1) (h2 : k ∉ body'.own2) : Free ρ w0 X (mem.set b ⟨true, body'⟩) w k := by
  have get : ∀ (j : Nat) (bj : Blk), (mem.set b ⟨true, body'⟩)[j]? = some bj → (j ≠ b ∧ mem[j]? = some bj) ∨ (j = b ∧ bj = ⟨true, body'⟩) := by
    intro j bj hj
    by_cases hjb : j = b
    · subst hjb
      have hl := (List.getElem?_eq_some_iff.1 hj).1
      simp at hl
      simp [hl] at hj
      exact .inr ⟨rfl, hj.symm⟩
    · rw [List.getElem?_set_ne (Ne.symm hjb)] at hj; exact .inl ⟨hjb, hj⟩
  obtain ⟨r', hr', hok, hx⟩ := h.blk b _ hb
  rw [hr] at hr'; cases hr'
  rcases hk with hk | ⟨hh, rfl⟩
  · have hm := h.more b _ k hb hk
    refine ⟨hm.1, (hm.2 rfl).1, fun j bj rj hj hrj hl => ?_, fun j bj hj hk2 => ?_, (hm.2 rfl).2⟩
    · rcases get j bj hj with ⟨hjb, hj⟩ | ⟨rfl, rfl⟩
      · exact fun e => h.moreA b j _ bj rj k hb hj hk (.inl rfl) hrj hl e.symm
      · rw [hr] at hrj; cases hrj
        exact fun e => h1 hl e.symm
    · rcases get j bj hj with ⟨hjb, hj⟩ | ⟨rfl, rfl⟩
      · exact h.moreB b j _ bj k (Ne.symm hjb) hb hj rfl hk hk2
      · exact h2 hk2
  · refine ⟨(hx hh).1, (hx hh).2 rfl, fun j bj rj hj hrj hl => ?_, fun j bj hj hk2 => ?_, h.free b _ r hb rfl hr hh⟩
    · rcases get j bj hj with ⟨hjb, hj⟩ | ⟨rfl, rfl⟩
      · exact fun e => h.apart b j _ bj r rj (Ne.symm hjb) hb hj rfl hr hrj hh hl e.symm
      · exact absurd rfl (h1 (by rw [hr] at hrj; cases hrj; exact hl))
    · rcases get j bj hj with ⟨hjb, hj⟩ | ⟨rfl, rfl⟩
      · exact h.moreA j b bj _ r _ hj hb hk2 (.inr rfl) hr hh rfl
      · exact h2 hk2
/-- a block is forgotten -/
theorem MemOK.kill {mem : List Blk} (h : MemOK ρ w0 X mem w) (b : Nat) : MemOK ρ w0 X (mem.set b ⟨true, .dead⟩) w := by
  have get : ∀ (k : Nat) bk, (mem.set b ⟨true, .dead⟩)[k]? = some bk → k ≠ b ∧ mem[k]? = some bk ∨ bk = ⟨true, .dead⟩ ∧ ∃ bk', mem[k]? = some bk' := by
    intro k bk hk
    by_cases hkb : k = b
    · subst hkb
      have hl := (List.getElem?_eq_some_iff.1 hk).1
      simp at hl
      simp [hl] at hk; subst hk
      exact .inr ⟨rfl, _, List.getElem?_eq_getElem hl⟩
    · rw [List.getElem?_set_ne (Ne.symm hkb)] at hk; exact .inl ⟨hkb, hk⟩
  refine ⟨fun i bi hi => ?_, fun i hi => h.past i (by simpa using hi), fun i k bi bk ri rk hik hbi hbk hrw hri hrk hli hlk => ?_, fun i bi k hi hk => ?_, fun i j bi bj rj k hbi hbj hk hrw hrj hlj => ?_, fun i j bi bj k hij hbi hbj hrw hk hk2 => ?_, h.base, fun i bi ri hi hrw hri hl => ?_, h.grow⟩
  · rcases get i bi hi with ⟨_, h1⟩ | ⟨rfl, bk', h1⟩
    · exact h.blk i bi h1
    · obtain ⟨r, hr, _⟩ := h.blk i _ h1
      exact ⟨r, hr, trivial, fun hk => hk.elim⟩
  · rcases get i bi hbi with ⟨_, h1⟩ | ⟨rfl, _⟩
    · rcases get k bk hbk with ⟨_, h2⟩ | ⟨rfl, _⟩
      · exact h.apart i k bi bk ri rk hik h1 h2 hrw hri hrk hli hlk
      · exact hlk.elim
    · exact hli.elim
  · rcases get i bi hi with ⟨_, h1⟩ | ⟨rfl, _⟩
    · exact h.more i bi k h1 hk
    · cases hk
  · rcases get i bi hbi with ⟨_, h1⟩ | ⟨rfl, _⟩
    · rcases get j bj hbj with ⟨_, h2⟩ | ⟨rfl, _⟩
      · exact h.moreA i j bi bj rj k h1 h2 hk hrw hrj hlj
      · exact hlj.elim
    · cases hk
  · rcases get i bi hbi with ⟨_, h1⟩ | ⟨rfl, _⟩
    · rcases get j bj hbj with ⟨_, h2⟩ | ⟨rfl, _⟩
      · exact h.moreB i j bi bj k hij h1 h2 hrw hk hk2
      · cases hk2
    · cases hk
  · rcases get i bi hi with ⟨_, h1⟩ | ⟨rfl, _⟩
    · exact h.free i bi ri h1 hrw hri hl
    · exact hl.elim
/-- a new block of cells, tracked -/
theorem MemOK.alloc {mem : List Blk} (h : MemOK ρ w0 X mem w) (hw0 : w0.heap.size ≤ w.heap.size) {cs : List SV} {ys : List Value} (hc : RelL ρ cs ys) (e : TypeId) :
    MemOK (ext ρ mem.length ⟨w.heap.size, 0, none, 0⟩) w0 X (mem ++ [⟨true, .lit cs⟩]) (w.alloc (.cells ys.toArray e)) := by
  have he : Ext ρ (ext ρ mem.length ⟨w.heap.size, 0, none, 0⟩) := ext_ext (h.past _ (Nat.le_refl _)) _
  refine (h.later (w' := w.alloc (.cells ys.toArray e)) (fun k hk => by show (w.heap.push _)[k]? = _; rw [Array.getElem?_push, if_neg (by omega)]) (by simp)).push (fun j s hj => ?_) (fun _ => h.newFree hw0 (Nat.le_refl _) (by simp)) fun k hk => by cases hk
  obtain ⟨y, hy, hr⟩ := hc.get hj
  refine ⟨y, ?_, hr.mono he, fun _ => ?_⟩
  · simp only [Nat.zero_add]; rw [World.cell?_alloc_at _ _ _ _ rfl]; simpa using hy
  · simp only [Nat.zero_add]; exact World.frozen?_alloc_at _ _ _ _ rfl
theorem Sim.alloc (S : Sim ρ w0 X st a w) {cs : List SV} {ys : List Value} (hc : RelL ρ cs ys) (e : TypeId) :
    Ext ρ (ext ρ st.mem.length ⟨w.heap.size, 0, none, 0⟩) ∧ Sim (ext ρ st.mem.length ⟨w.heap.size, 0, none, 0⟩) w0 X { st with mem := st.mem ++ [⟨true, .lit cs⟩] } a (w.alloc (.cells ys.toArray e)) ∧
      Rel (ext ρ st.mem.length ⟨w.heap.size, 0, none, 0⟩) (.ptr st.mem.length 0) (.pointer (some ⟨w.heap.size, 0, none⟩)) := by
  have he : Ext ρ (ext ρ st.mem.length ⟨w.heap.size, 0, none, 0⟩) := ext_ext (S.mem.past _ (Nat.le_refl _)) _
  refine ⟨he, ⟨S.defers, S.tmps.mono he, S.mem.alloc S.frame.size hc e, S.frame.alloc _⟩, ?_⟩
  simp only [Rel]
  exact ⟨_, ext_at _ _ _, rfl⟩
/-- a world in which one tracked block was written -/
theorem Frm.upd {mem : List Blk} (h : Frm w0 X w) (hm : MemOK ρ w0 X mem w) {b : Nat} {body : Body} (hb : mem[b]? = some ⟨true, body⟩) {r : Place} (hr : ρ b = some r) (hh : body.hold r) (hos : w'.os = w.os) (htape : w'.tape = w.tape) (hout : w'.output = w.output) (hsz : w'.heap.size = w.heap.size) (hoth : ∀ k, k ≠ r.1 → w'.heap[k]? = w.heap[k]?) : Frm w0 X w' := by
  refine ⟨hos.trans h.os, htape.trans h.tape, hout.trans h.output, by rw [hsz]; exact h.size, fun k hk hx => ?_⟩
  obtain ⟨r', hr', _, hxx⟩ := hm.blk b _ hb
  rw [hr] at hr'; cases hr'
  rw [hoth k fun e => ?_]
  · exact h.block k hk hx
  · rcases (hxx hh).2 rfl with h | h
    · omega
    · exact hx (e ▸ h)

theorem addr_add (b o n : Nat) : (⟨b, o, none⟩ : Addr).add n = ⟨b, o + n, none⟩ := by
  unfold Addr.add
  split
  · rename_i h; subst h; rfl
  · rfl
def SV.one : SV → Bool
  | .v x => x.oneCell'
  | .agg _ | .tup _ | .any => false
  | _ => true
theorem Rel.one {s : SV} {y : Value} (h : Rel ρ s y) (h1 : s.one = true) : y.oneCell' = true := by
  cases s <;> simp only [SV.one, Rel] at h h1 <;> first | (subst h; exact h1) | (obtain ⟨_, _, rfl⟩ := h; rfl) | (obtain ⟨_, _, rfl, _⟩ := h; rfl) | (obtain ⟨rfl, hg⟩ := h; exact (CK.one _ _ hg).1) | (obtain ⟨_, _, _, _, _, rfl⟩ := h; rfl) | (obtain ⟨rfl, _, _, e, _⟩ := h; rw [e]; rfl) | (obtain ⟨_, _, _, _, rfl⟩ := h; rfl) | (cases h1)
/-- one cell of a tracked block is written -/
theorem Sim.set1 (S : Sim ρ w0 X st a w) {b : Nat} {cs : List SV} (hb : st.mem[b]? = some ⟨true, .lit cs⟩) {r : Place} (hr : ρ b = some r) {j : Nat} (hj : j < cs.length) {s : SV} {y : Value} (hs : Rel ρ s y) (h1 : s.one = true) :
    (store ⟨r.1, r.2 + j, none⟩ y).run P w = .ok () (w.setCell ⟨r.1, r.2 + j, none⟩ y) ∧
      Sim ρ w0 X { st with mem := st.mem.set b ⟨true, .lit (cs.set j s)⟩ } a (w.setCell ⟨r.1, r.2 + j, none⟩ y) := by
  obtain ⟨r', hr', hbody, hx⟩ := S.mem.blk b _ hb
  rw [hr] at hr'; cases hr'
  obtain ⟨y0, hc0, _, hf0⟩ := hbody j _ (List.getElem?_eq_getElem hj)
  have hfz := hf0 rfl
  have hoth : ∀ k, k ≠ r.1 → (w.setCell ⟨r.1, r.2 + j, none⟩ y).heap[k]? = w.heap[k]? := fun k hk => by
    simp only [World.setCell, Array.getElem?_modify]
    rw [if_neg (fun e => hk e.symm)]
  constructor
  · rw [run_store P w _ y _ (hs.one h1), hc0]
    simp [hfz]
  · refine ⟨S.defers, S.tmps, S.mem.upd hb hr (fun k hk => hoth k (hk trivial)) (by simp) (fun _ => trivial) (fun k hk => nomatch hk) (fun j' s' hj' => ?_), S.frame.upd S.mem hb hr trivial rfl rfl rfl (by simp) hoth⟩
    by_cases hjj : j = j'
    · subst hjj
      simp [hj] at hj'
      subst hj'
      exact ⟨y, World.cell?_setCell_same _ _ _ hc0, hs, fun _ => by rw [World.frozen?_setCell]; exact hfz⟩
    · rw [List.getElem?_set_ne hjj] at hj'
      obtain ⟨y', h1', h2', h3'⟩ := hbody j' s' hj'
      exact ⟨y', by rw [World.cell?_setCell_other _ _ _ _ (by simp only [ne_eq, Addr.mk.injEq, not_and]; omega)]; exact h1', h2', fun e => by rw [World.frozen?_setCell]; exact h3' e⟩
/-- several cells, one behind the other -/
def setRange : List SV → Nat → List SV → List SV
  | cs, _, [] => cs
  | cs, j, s :: ss => setRange (cs.set j s) (j + 1) ss
theorem setRange_length : ∀ (ss cs : List SV) (j : Nat), (setRange cs j ss).length = cs.length
  | [], cs, j => rfl
  | s :: ss, cs, j => by simp [setRange, setRange_length ss]
theorem Sim.setAll : ∀ (ss : List SV) (ys : List Value) {st : St} {w : World} (S : Sim ρ w0 X st a w) {b : Nat} {cs : List SV} (hb : st.mem[b]? = some ⟨true, .lit cs⟩) {r : Place} (hr : ρ b = some r) {j i : Nat} {o : Nat} (ho : o + i = r.2 + j) (hj : j + ss.length ≤ cs.length) (hs : RelL ρ ss ys) (h1 : ss.all SV.one = true),
    ∃ w', (storeCells ⟨r.1, o, none⟩ ys i).run P w = .ok () w' ∧ Sim ρ w0 X { st with mem := st.mem.set b ⟨true, .lit (setRange cs j ss)⟩ } a w'
  | [], ys, st, w, S, b, cs, hb, r, hr, j, i, o, ho, hj, hs, h1 => by
    simp only [RelL] at hs; subst hs
    refine ⟨w, rfl, ?_⟩
    have : st.mem.set b ⟨true, .lit (setRange cs j [])⟩ = st.mem := by
      simp only [setRange]
      apply List.ext_getElem?
      intro k
      by_cases hk : b = k
      · subst hk; have hbl : b < st.mem.length := (List.getElem?_eq_some_iff.1 hb).1; rw [List.getElem?_set_self hbl, hb]
      · rw [List.getElem?_set_ne hk]
    rw [this]; exact S
  | s :: ss, ys, st, w, S, b, cs, hb, r, hr, j, i, o, ho, hj, hs, h1 => by
    obtain ⟨y, ys', rfl, hsy, hss⟩ := hs.cons_inv
    simp only [List.length_cons] at hj
    simp only [List.all_cons, Bool.and_eq_true] at h1
    obtain ⟨hrun, S'⟩ := S.set1 (P := P) hb hr (j := j) (by omega) hsy h1.1
    have hbl : b < st.mem.length := (List.getElem?_eq_some_iff.1 hb).1
    obtain ⟨w', hrun', S''⟩ := Sim.setAll ss ys' S' (b := b) (cs := cs.set j s) (by simp [hbl]) hr (j := j + 1) (i := i + 1) (o := o) (by omega) (by simp; omega) hss h1.2
    refine ⟨w', ?_, ?_⟩
    · simp only [storeCells, Sem.run_bind, addr_add, ho, hrun, Result.andThen_ok]
      exact hrun'
    · simpa [setRange] using S''

/-- the type's size; whether it is a struct or an array -/
def sizeT (P : Program) (t : TypeId) : Option Nat := (P.info? t).map (·.size)
def aggT (P : Program) (t : TypeId) : Option Bool := (P.underlying t).map fun d => match d with | .struct _ | .array _ _ => true | _ => false
theorem run_size {t : TypeId} {n : Nat} (h : sizeT P t = some n) (w : World) : (sizeOf t).run P w = .ok n w := by
  unfold sizeT at h
  cases hi : P.info? t with
  | none => rw [hi] at h; cases h
  | some i => rw [hi] at h; simp at h; subst h; simp [sizeOf, typeInfo, hi]
theorem run_agg {t : TypeId} {b : Bool} (h : aggT P t = some b) (w : World) : (isAgg t).run P w = .ok b w := by
  unfold aggT at h
  cases hi : P.underlying t with
  | none => rw [hi] at h; cases h
  | some d =>
    rw [hi] at h
    simp at h
    subst h
    simp only [isAgg, Sem.run_bind, run_underlying hi, Result.andThen_ok]
    cases d <;> rfl
/-- the cells of a symbolic value -/
def SV.cells : SV → List SV
  | .agg cs => cs
  | s => [s]
theorem Rel.cells {s : SV} {y : Value} (h : Rel ρ s y) (hv : ∀ x, s = .v x → x.cells = #[x]) (ha : s ≠ .any) : RelL ρ s.cells y.cells.toList := by
  cases s with
  | v x => simp only [Rel] at h; subst h; rw [hv _ rfl]; simpa [SV.cells] using RelL.cons (ρ := ρ) (x := .v y) (y := y) (by simp [Rel]) .nil
  | agg cs => simp only [Rel] at h; obtain ⟨ys, h, rfl⟩ := h; simpa [SV.cells, Value.cells] using h
  | any => exact absurd rfl ha
  | oslc b sz k n => have h' := h; simp only [Rel] at h; obtain ⟨_, _, rfl, _⟩ := h; simpa [SV.cells, Value.cells] using RelL.cons h' .nil
  | sv k x =>
    have h' := h; simp only [Rel] at h; obtain ⟨rfl, hg⟩ := h
    rw [(CK.one _ _ hg).2]
    simpa [SV.cells] using RelL.cons h' .nil
  | optr b k j e ks x i jj => have h' := h; simp only [Rel] at h; obtain ⟨_, _, _, _, rfl⟩ := h; simpa [SV.cells, Value.cells] using RelL.cons h' .nil
  | osv b i j e ks x => have h' := h; simp only [Rel] at h; obtain ⟨rfl, a, c, e, _⟩ := h; rw [e] at h' ⊢; simpa [SV.cells, Value.cells] using RelL.cons h' .nil
  | sptr k x i j => have h' := h; simp only [Rel] at h; obtain ⟨_, _, _, _, _, rfl⟩ := h; simpa [SV.cells, Value.cells] using RelL.cons h' .nil
  | _ => simp only [Rel] at h; have h' := h; obtain ⟨_, _, rfl⟩ := h; simpa [SV.cells, Value.cells] using RelL.cons (ρ := ρ) (by simpa only [Rel] using h') .nil
end

/-! ## 6. The value of an operation that leaves memory alone -/
def rep (ks : List CK) : Nat → List CK
  | 0 => []
  | n + 1 => ks ++ rep ks n
def flatFields (P : Program) (fk : TypeId → Option (List CK)) : List Field → Nat → Option (List CK)
  | [], _ => some []
  | f :: fs, off =>
    if f.offset = off then
      match fk f.type with
      | some ks => if ks.length = P.cellsOf f.type then (flatFields P fk fs (off + ks.length)).map (ks ++ ·) else none
      | none => none
    else none
def flatK (P : Program) : Nat → TypeId → Option (List CK)
  | 0, _ => none
  | d + 1, t =>
    match P.underlying t with
    | some .bool => some [.bool]
    | some (.int k) => some [.int k]
    | some .string => some [.str]
    | some (.struct fs) => match flatFields P (flatK P d) fs.toList 0 with
      | some ks => if ks.length = P.cellsOf t then some ks else none
      | none => none
    | some (.array n e) => match flatK P d e with
      | some ks => if ks.length = P.cellsOf e ∧ n * ks.length = P.cellsOf t then some (rep ks n) else none
      | none => none
    | _ => none
def nadd : Nat → Nat → Nat
  | 0, n => n
  | m + 1, n => m + 1 + n
theorem nadd_eq (m n : Nat) : nadd m n = m + n := by cases m <;> simp [nadd]

def SV.plain : SV → Bool
  | .v x => match x with
    | .agg _ => false
    | _ => true
  | .any => false
  | _ => true
theorem SV.plain_v {s : SV} (h : s.plain = true) : ∀ x, s = .v x → x.cells = #[x] := by
  rintro x rfl
  cases x <;> simp_all [SV.plain, Value.cells]
theorem SV.plain_any {s : SV} (h : s.plain = true) : s ≠ .any := by rintro rfl; simp [SV.plain] at h
def zcells (z : Value) : List SV := z.cells.toList.map .v
def loadAtSV (P : Program) (mem : List Blk) (t : TypeId) : SV → Option SV
  | .ptr b off =>
    match mem[b]? with
    | some ⟨_, .lit cs⟩ =>
      match aggT P t with
      | some true =>
        match sizeT P t with
        | some n => if off + n ≤ cs.length then some (.agg ((cs.drop off).take n)) else none
        | none => none
      | some false => cs[off]?
      | none => none
    | _ => none
  | _ => none
def fillSV (place : Nat → Option (Nat × Nat)) (cells : List SV) : List (Nat × SV) → Option (List SV)
  | [] => some cells
  | (i, s) :: rest =>
    match place i with
    | none => none
    | some (off, size) => if s.plain = true ∧ s.cells.length = size ∧ off + s.cells.length ≤ cells.length then fillSV place (setRange cells off s.cells) rest else none
def buildSV (P : Program) (t : TypeId) (parts : List (Nat × SV)) : Option SV :=
  match val? P (zeroValue t) with
  | none => none
  | some z =>
    match P.underlying t with
    | some (.struct fields) =>
      match val? P (fields.mapM fun f => do pure (f.offset, ← sizeOf f.type) : Sem (Array (Nat × Nat))) with
      | some places => (fillSV (places[·]?) (zcells z) parts).map .agg
      | none => none
    | some (.array _ e) =>
      match sizeT P e with
      | some size => (fillSV (fun i => some (i * size, size)) (zcells z) parts).map .agg
      | none => none
    | _ => none
def partSV (P : Program) (t : TypeId) (cs : List SV) (off : Nat) : Option SV :=
  match aggT P t with
  | some true => match sizeT P t with
    | some n => some (.agg ((cs.drop off).take n))
    | none => none
  | some false => cs[off]?
  | none => none
def fieldOf (P : Program) (t : TypeId) (f : Nat) : Option Field :=
  match P.underlying t with
  | some (.struct fs) => fs[f]?
  | _ => none
def fieldAddrSV (P : Program) (t : TypeId) (s : SV) (f : Nat) : Option SV :=
  match fieldOf P t f with
  | none => none
  | some fl =>
    match sizeT P fl.type with
    | some (_ + 1) =>
      match s with
      | .ptr b off => some (.ptr b (off + fl.offset))
      | .eptr b sz k j => some (.eptr b sz k (j + fl.offset))
      | .sptr c x i j => some (.sptr c x i (j + fl.offset))
      | _ => none
    | _ => none
def isNilPtr : Value → Bool
  | .pointer none => true
  | _ => false
def isNilSlc : Value → Bool
  | .slice none _ _ => true
  | _ => false
def isNilFn : Value → Bool
  | .nilFunc => true
  | _ => false
/-- is it known not to be nil, of what kind? 1 a pointer, 2 a slice, 3 a function -/
def SV.kindNN : SV → Nat
  | .ptr .. | .eptr .. => 1
  | .slc .. | .eslc .. => 2
  | .fn .. => 3
  | _ => 0
def nilCmp (P : Program) (t : TypeId) (s : SV) (x : Value) : Bool :=
  match s.kindNN, P.underlying t with
  | 1, some (.pointer _) => isNilPtr x
  | 2, some (.slice _) => isNilSlc x
  | 3, some (.func ..) => isNilFn x
  | _, _ => false
def boolOp : BinOp → Option Bool
  | .eql => some false
  | .neq => some true
  | _ => none
def eqFieldsSV (P : Program) (eq : TypeId → SV → SV → Option Bool) (xs ys : List SV) : List Field → Option Bool
  | [] => some true
  | f :: fs =>
    if f.name ≠ "_" then
      match partSV P f.type xs f.offset, partSV P f.type ys f.offset with
      | some a, some b => match eq f.type a b, eqFieldsSV P eq xs ys fs with
        | some r, some r' => some (r && r')
        | _, _ => none
      | _, _ => none
    else eqFieldsSV P eq xs ys fs
def eqElemsSV (P : Program) (eq : TypeId → SV → SV → Option Bool) (e : TypeId) (sz : Nat) (xs ys : List SV) : Nat → Nat → Option Bool
  | 0, _ => some true
  | n + 1, i =>
    match partSV P e xs (i * sz), partSV P e ys (i * sz) with
    | some a, some b => match eq e a b, eqElemsSV P eq e sz xs ys n (i + 1) with
      | some r, some r' => some (r && r')
      | _, _ => none
    | _, _ => none
/-- '==' of two values of a type -/
def eqSV (P : Program) : Nat → TypeId → SV → SV → Option Bool
  | 0, _, _, _ => none
  | d + 1, t, x, y =>
    match P.underlying t, x, y with
    | some .bool, .v (.bool a), .v (.bool b) => some (a == b)
    | some (.int _), .v (.int k a), .v (.int k' b) => if k = k' then some (a == b) else none
    | some .string, .v (.string a), .v (.string b) => some (a == b)
    | some (.struct fs), .agg xs, .agg ys => if P.stoodInHeld t = false then eqFieldsSV P (eqSV P d) xs ys fs.toList else none
    | some (.array n e), .agg xs, .agg ys => match sizeT P e with
      | some sz => eqElemsSV P (eqSV P d) e sz xs ys n 0
      | none => none
    | _, _, _ => none
def eqAggSV (P : Program) (op : BinOp) (t : TypeId) (xs ys : List SV) : Option SV :=
  if P.eqGuardType P.depth t = false then
    match eqSV P 10000 t (.agg xs) (.agg ys), op with
    | some r, .eql => some (.v (.bool r))
    | some r, .neq => some (.v (.bool (!r)))
    | _, _ => none
  else none
def binSV (P : Program) (op : BinOp) (t : TypeId) (ox oy : Operand) : SV → SV → Option SV
  | .v a, .v b => (val? P (do eqGuard op t ox oy a b; binOp op t a b)).map .v
  | s, .v x => if nilCmp P t s x = true then (boolOp op).map fun b => .v (.bool b) else none
  | .v x, s => if nilCmp P t s x = true then (boolOp op).map fun b => .v (.bool b) else none
  | .agg xs, .agg ys => eqAggSV P op t xs ys
  | _, _ => none
def nilChecked : SV → Option SV
  | .ptr b o => some (.ptr b o)
  | .eptr b sz k j => some (.eptr b sz k j)
  | .fn f c => some (.fn f c)
  | _ => none
def asV : SV → Option Value
  | .v x => some x
  | _ => none
def allV : List SV → Option (List Value)
  | [] => some []
  | .v x :: r => (allV r).map (x :: ·)
  | _ :: _ => none
def lenSV (P : Program) (t : TypeId) : SV → Option SV
  | .slc _ _ n _ | .eslc _ _ _ n _ | .oslc _ _ _ n => match P.underlying t with
    | some (.slice _) => some (.v (.int .i64 n))
    | _ => none
  | .sv c x => match P.underlying t, c.isStab with
    | some (.slice _), true => some (.v (.int .i64 (stabN c x)))
    | _, _ => none
  | .osv _ _ _ _ _ x => match P.underlying t with
    | some (.slice _) => some (.v (.int .i64 x.2.2.length))
    | _ => none
  | .agg _ => match P.underlying t with
    | some (.array n _) => some (.v (.int .i64 n))
    | _ => none
  | _ => none
def builtinSV (P : Program) (b : Builtin) (argTypes : Array TypeId) (type : TypeId) (consts : Array Bool) (args : List SV) : Option SV :=
  match allV args with
  | some xs =>
    match b with
    | .len | .max | .min => match val? P (Go.builtin b argTypes type consts xs.toArray) with
      | some (.value v) => some (.v v)
      | _ => none
    | _ => none
  | none =>
    match b, args with
    | .len, [s] => match argTypes[0]? with
      | some t => lenSV P t s
      | none => none
    | _, _ => none
def stepVal (P : Program) (st : St) (o : Oper) : Option SV :=
  match o.op with
  | .move x | .assign x => some (ev st x)
  | .build t parts => buildSV P t (parts.toList.map fun p => (p.1, ev st p.2))
  | .nilCheck x => nilChecked (ev st x)
  | .binOp op t x y _ => binSV P op t x y (ev st x) (ev st y)
  | .unOp op _ x => match ev st x with
    | .v a => (val? P (Op.unary op a)).map .v
    | _ => none
  | .convert s d x => match ev st x with
    | .v a => (val? P (convert s d a)).map .v
    | _ => none
  | .makeFunc fn first caps => match fn, first.toList with
    | .func f, [] => some (.fn f (caps.toList.map (ev st)))
    | _, _ => none
  | .fieldAddr t x f => fieldAddrSV P t (ev st x) f
  | .field t x f => match ev st x, fieldOf P t f with
    | .agg cs, some fl => partSV P fl.type cs fl.offset
    | _, _ => none
  | .extract x i => match ev st x with
    | .tup vs => vs[i]?
    | _ => none
  | .call c => match c.callee with
    | .builtin b => builtinSV P b c.argTypes o.type (c.args.map fun | .const _ => true | _ => false) (c.args.toList.map (ev st))
    | _ => none
  | _ => none

section
variable {ρ : Loc} {w0 w w' : World} {X : Lim} {st : St} {a : Act} {P : Program}
theorem load_cells (r : Place) (off : Nat) : ∀ (ss : List SV) (i : Nat), (∀ j s, ss[j]? = some s → ∃ y, w.cell? ⟨r.1, r.2 + off + (i + j), none⟩ = some y ∧ Rel ρ s y) →
    ∃ ys, RelL ρ ss ys ∧ ∀ (j : Nat) v, ys[j]? = some v → w.cell? ((⟨r.1, r.2 + off, none⟩ : Addr).add (i + j)) = some v
  | [], i, _ => ⟨[], .nil, by simp⟩
  | s :: ss, i, h => by
    obtain ⟨y, hy, hr⟩ := h 0 s (by simp)
    obtain ⟨ys, h1, h2⟩ := load_cells r off ss (i + 1) (fun j s hj => by
      have := h (j + 1) s (by simpa using hj)
      rwa [show i + 1 + j = i + (j + 1) by omega])
    refine ⟨y :: ys, .cons hr h1, fun j v hj => ?_⟩
    cases j with
    | zero => simp at hj; subst hj; rw [addr_add]; simpa using hy
    | succ j => simp at hj; have := h2 j v hj; rwa [show i + 1 + j = i + (j + 1) by omega] at this
theorem loadAt_sound {q : Bool} {mem : List Blk} (hm : MemQ q ρ mem w) {t : TypeId} {s s' : SV} {y : Value} (hs : Rel ρ s y) (h : loadAtSV P mem t s = some s') :
    ∃ y', (Instr.loadAt t y).run P w = .ok y' w ∧ Rel ρ s' y' := by
  cases s with
  | ptr b off =>
    simp only [loadAtSV] at h
    simp only [Rel] at hs
    obtain ⟨r, hr, rfl⟩ := hs
    split at h
    · rename_i rw cs hb
      obtain ⟨r', hr', hbody⟩ := hm b _ hb
      rw [hr] at hr'; cases hr'
      have hbody : ∀ j s, cs[j]? = some s → CellOK ρ w rw r j s := hbody
      split at h
      · rename_i ha
        split at h
        · rename_i n hn
          split at h
          · rename_i hle
            cases h
            obtain ⟨ys, h1, h2⟩ := load_cells (ρ := ρ) (w := w) r off ((cs.drop off).take n) 0 (fun j s hj => by
              have hj' : cs[off + j]? = some s := by
                rw [List.getElem?_take] at hj
                split at hj
                · rwa [List.getElem?_drop] at hj
                · cases hj
              obtain ⟨y, hy, hr, _⟩ := hbody _ _ hj'
              exact ⟨y, by rw [Nat.zero_add, Nat.add_assoc]; exact hy, hr⟩)
            have hlen : ys.length = n := by rw [← h1.length]; simp; omega
            refine ⟨.agg ys.toArray, ?_, by simp only [Rel]; exact ⟨ys, h1, rfl⟩⟩
            have hl := run_loadCells_list (P := P) w ⟨r.1, r.2 + off, none⟩ ys (fun j v hj => by simpa using h2 j v hj)
            rw [hlen] at hl
            simp only [Instr.loadAt, Instr.sureAddr, Sem.run_bind, Sem.run_pure, Result.andThen_ok, loadVar, run_agg ha, if_true, run_size hn, hl]
          · cases h
        · cases h
      · rename_i ha
        obtain ⟨y, hy, hr2, _⟩ := hbody _ _ h
        refine ⟨y, ?_, hr2⟩
        simp only [Instr.loadAt, Instr.sureAddr, Sem.run_bind, Sem.run_pure, Result.andThen_ok, loadVar, run_agg ha, Bool.false_eq_true, if_false, run_load, hy]
      · cases h
    · cases h
  | _ => simp [loadAtSV] at h
theorem setRange_rel : ∀ (ss : List SV) (ys : List Value) {cs : List SV} {zs : List Value} (j : Nat), RelL ρ cs zs → RelL ρ ss ys → RelL ρ (setRange cs j ss) ((ys.zipIdx).foldl (fun cs p => cs.set (j + p.2) p.1) zs) := by
  have key : ∀ (ss : List SV) (ys : List Value) (cs : List SV) (zs : List Value) (j i : Nat), RelL ρ cs zs → RelL ρ ss ys → RelL ρ (setRange cs (j + i) ss) ((ys.zipIdx i).foldl (fun cs p => cs.set (j + p.2) p.1) zs) := by
    intro ss
    induction ss with
    | nil => intro ys cs zs j i h hs; simp only [RelL] at hs; subst hs; simpa [setRange] using h
    | cons s ss ih =>
      intro ys cs zs j i h hs
      obtain ⟨y, ys', rfl, h1, h2⟩ := hs.cons_inv
      simp only [setRange, List.zipIdx_cons, List.foldl_cons]
      rw [Nat.add_assoc]
      exact ih ys' _ _ j (i + 1) (h.set h1 (j + i)) h2
  intro ss ys cs zs j h hs
  simpa using key ss ys cs zs j 0 h hs
theorem fill_arr (off : Nat) (v cells : Array Value) : (v.zipIdx.foldl (fun cs (c, j) => cs.setIfInBounds (off + j) c) cells).toList = (v.toList.zipIdx).foldl (fun cs p => cs.set (off + p.2) p.1) cells.toList := by
  rw [← Array.foldl_toList, Array.toList_zipIdx]
  generalize v.toList.zipIdx = l
  induction l generalizing cells with
  | nil => rfl
  | cons p l ih => simp only [List.foldl_cons]; rw [ih]; simp
theorem fill_sound (place : Nat → Option (Nat × Nat)) : ∀ (parts : List (Nat × SV)) (vs : List (Nat × Value)) (cells : List SV) (zs : Array Value) (out : List SV),
    parts.map (·.1) = vs.map (·.1) → RelL ρ (parts.map (·.2)) (vs.map (·.2)) → RelL ρ cells zs.toList → fillSV place cells parts = some out →
    ∃ ys, Instr.fill place zs vs = some ys ∧ RelL ρ out ys.toList
  | [], vs, cells, zs, out, hi, _, hc, h => by
    simp at hi; subst hi
    simp [fillSV] at h; subst h
    exact ⟨zs, rfl, hc⟩
  | (i, s) :: parts, [], cells, zs, out, hi, _, _, _ => by simp at hi
  | (i, s) :: parts, (i', v) :: vs, cells, zs, out, hi, hr, hc, h => by
    simp only [List.map_cons, List.cons.injEq] at hi
    obtain ⟨rfl, hi⟩ := hi
    obtain ⟨y, ys', e, h1, h2⟩ := hr.cons_inv
    simp only [List.map_cons, List.cons.injEq] at e
    obtain ⟨rfl, rfl⟩ := e
    simp only [fillSV] at h
    split at h
    · cases h
    · rename_i off size hp
      split at h
      · rename_i hcond
        obtain ⟨hp1, hsz, hle⟩ := hcond
        have hcell := h1.cells (SV.plain_v hp1) (SV.plain_any hp1)
        have hl := hcell.length
        have hl2 := hc.length
        obtain ⟨ys, h3, h4⟩ := fill_sound place parts vs (setRange cells off s.cells) (v.cells.zipIdx.foldl (fun cs (c, j) => cs.setIfInBounds (off + j) c) zs) out hi h2 (by rw [fill_arr]; exact setRange_rel _ _ off hc hcell) h
        refine ⟨ys, ?_, h4⟩
        simp only [Instr.fill, hp]
        rw [if_neg]
        · exact h3
        · simp only [Array.length_toList] at hl hl2
          simp only [bne_iff_ne, ne_eq, Bool.or_eq_true, decide_eq_true_eq, not_or]
          omega
      · cases h
theorem parts_map (S : RelL ρ st.tmps a.tmps.toList) (ps : List (Nat × Operand)) : RelL ρ ((ps.map fun p => (p.1, ev st p.2)).map (·.2)) ((ps.map fun p => (p.1, a.eval p.2)).map (·.2)) := by
  rw [List.map_map, List.map_map]
  exact RelL.mapAll fun p => ev_rel S p.2
theorem build_sound {t : TypeId} {parts : List (Nat × SV)} {vs : Array (Nat × Value)} {s : SV} (hi : parts.map (·.1) = vs.toList.map (·.1)) (hr : RelL ρ (parts.map (·.2)) (vs.toList.map (·.2))) (h : buildSV P t parts = some s) :
    ∃ y, (∀ w, (Instr.build t vs).run P w = .ok y w) ∧ Rel ρ s y := by
  unfold buildSV at h
  split at h
  · cases h
  · rename_i z hz
    split at h
    · rename_i fields hu
      split at h
      · rename_i places hp
        obtain ⟨out, ho, rfl⟩ := Option.map_eq_some_iff.1 h
        obtain ⟨ys, h1, h2⟩ := fill_sound _ parts vs.toList (zcells z) z.cells out hi hr (RelL.map_v _) ho
        refine ⟨.agg ys, fun w => ?_, by simp only [Rel]; exact ⟨ys.toList, h2, by simp⟩⟩
        have hpl := run_of_val? _ hp w
        simp only [Instr.build, Sem.run_bind, run_of_val? _ hz, Result.andThen_ok, run_underlying hu] at hpl ⊢
        rw [hpl]
        simp only [Result.andThen_ok, h1, Sem.run_pure]
      · cases h
    · rename_i n e hu
      split at h
      · rename_i size hsz
        obtain ⟨out, ho, rfl⟩ := Option.map_eq_some_iff.1 h
        obtain ⟨ys, h1, h2⟩ := fill_sound _ parts vs.toList (zcells z) z.cells out hi hr (RelL.map_v _) ho
        refine ⟨.agg ys, fun w => ?_, by simp only [Rel]; exact ⟨ys.toList, h2, by simp⟩⟩
        simp only [Instr.build, Sem.run_bind, run_of_val? _ hz, Result.andThen_ok, run_underlying hu, run_size hsz, h1, Sem.run_pure]
      · cases h
    · cases h
theorem part_sound {t : TypeId} {cs : List SV} {ys : List Value} {off : Nat} {s : SV} (hc : RelL ρ cs ys) (h : partSV P t cs off = some s) :
    ∃ y, (∀ w, (part t ys.toArray off).run P w = .ok y w) ∧ Rel ρ s y := by
  unfold partSV at h
  split at h
  · rename_i ha
    split at h
    · rename_i n hn
      cases h
      refine ⟨.agg ((ys.drop off).take n).toArray, fun w => ?_, by simp only [Rel]; exact ⟨_, (hc.drop off).take n, rfl⟩⟩
      simp only [part, Sem.run_bind, run_agg ha, Result.andThen_ok, if_true, run_size hn, Sem.run_pure]
      congr 2
      apply Array.ext'
      simp [List.extract_eq_take_drop]
    · cases h
  · rename_i ha
    obtain ⟨y, hy, hr⟩ := hc.get h
    refine ⟨y, fun w => ?_, hr⟩
    have : ys.toArray[off]? = some y := by simpa using hy
    simp only [part, Sem.run_bind, run_agg ha, Result.andThen_ok, Bool.false_eq_true, if_false, this, Sem.run_pure]
  · cases h
end
section
variable {ρ : Loc} {w0 w w' : World} {X : Lim} {st : St} {a : Act} {P : Program}
theorem fieldOf_spec {t : TypeId} {f : Nat} {fl : Field} (h : fieldOf P t f = some fl) : ∃ fs, P.underlying t = some (.struct fs) ∧ fs[f]? = some fl := by
  unfold fieldOf at h
  split at h
  · rename_i fs hu; exact ⟨fs, hu, h⟩
  · cases h
theorem fieldAddr_sound {t : TypeId} {s s' : SV} {f : Nat} {y : Value} (hs : Rel ρ s y) (h : fieldAddrSV P t s f = some s') :
    ∃ y', (∀ w, (Instr.fieldAt t y f).run P w = .ok y' w) ∧ Rel ρ s' y' := by
  unfold fieldAddrSV at h
  split at h
  · cases h
  · rename_i fl hf
    obtain ⟨fs, hu, hfl⟩ := fieldOf_spec hf
    split at h
    · rename_i n hsz
      have hrun : ∀ (r : Place) (o : Nat) (w : World), (Instr.fieldAt t (.pointer (some ⟨r.1, o, none⟩)) f).run P w = .ok (.pointer (some ⟨r.1, o + fl.offset, none⟩)) w := by
        intro r o w
        simp only [Instr.fieldAt, Sem.run_bind, run_underlying hu, Result.andThen_ok, hfl, Instr.sureAddr, Sem.run_pure, fieldPlace, run_size hsz, addr_add]
        simp [Sem.run_pure]
      cases s <;> simp only [Rel] at h hs <;> first | cases h | skip
      · obtain ⟨r, hr, rfl⟩ := hs
        exact ⟨_, hrun r _, by simp only [Rel]; exact ⟨r, hr, by rw [Nat.add_assoc]⟩⟩
      · obtain ⟨r, hr, rfl⟩ := hs
        exact ⟨_, hrun r _, by simp only [Rel]; exact ⟨r, hr, by simp only [Nat.add_assoc]⟩⟩
      · obtain ⟨hg, b, o, c, e, rfl⟩ := hs
        exact ⟨_, hrun ⟨b, 0, none, 0⟩ _, by unfold Rel; exact ⟨hg, b, o, c, e, by simp only [Nat.add_assoc]⟩⟩
    · cases h
theorem nilChecked_sound {s s' : SV} {y : Value} (hs : Rel ρ s y) (h : nilChecked s = some s') :
    s' = s ∧ ((∃ p, y = .pointer (some p)) ∨ (∃ f fs cs, y = .func (.func f) fs cs)) := by
  cases s <;> simp only [nilChecked, Rel] at h hs <;> first | cases h | skip
  · obtain ⟨r, _, rfl⟩ := hs; exact ⟨rfl, .inl ⟨_, rfl⟩⟩
  · obtain ⟨r, _, rfl⟩ := hs; exact ⟨rfl, .inl ⟨_, rfl⟩⟩
  · obtain ⟨r, _, rfl⟩ := hs; exact ⟨rfl, .inr ⟨_, _, _, rfl⟩⟩
theorem isNilPtr_spec : ∀ {x : Value}, isNilPtr x = true → x = .pointer none
  | .pointer none, _ => rfl
theorem isNilSlc_spec : ∀ {x : Value}, isNilSlc x = true → ∃ l c, x = .slice none l c
  | .slice none l c, _ => ⟨l, c, rfl⟩
theorem isNilFn_spec : ∀ {x : Value}, isNilFn x = true → x = .nilFunc
  | .nilFunc, _ => rfl
def NilPair : Value → Value → Prop
  | .pointer (some _), .pointer none => True
  | .slice (some _) _ _, .slice none _ _ => True
  | .func .., .nilFunc => True
  | _, _ => False
theorem eq_nil_ptr (d : Nat) {t e : TypeId} (hu : P.underlying t = some (.pointer e)) (p : Addr) (w : World) :
    (Op.equalIn (d + 1) t (.pointer (some p)) (.pointer none)).run P w = .ok false w ∧ (Op.equalIn (d + 1) t (.pointer none) (.pointer (some p))).run P w = .ok false w := by
  constructor <;> simp [Op.equalIn, run_underlying hu]
theorem eq_nil_slc (d : Nat) {t e : TypeId} (hu : P.underlying t = some (.slice e)) (p : Addr) (n m l c : Nat) (w : World) :
    (Op.equalIn (d + 1) t (.slice (some p) n m) (.slice none l c)).run P w = .ok false w ∧ (Op.equalIn (d + 1) t (.slice none l c) (.slice (some p) n m)).run P w = .ok false w := by
  constructor <;> simp [Op.equalIn, run_underlying hu]
theorem eq_nil_nil (d : Nat) {t e : TypeId} (hu : P.underlying t = some (.slice e)) (n m l c : Nat) (w : World) : (Op.equalIn (d + 1) t (.slice none n m) (.slice none l c)).run P w = .ok true w := by simp [Op.equalIn, run_underlying hu]
theorem eq_nil_fn (d : Nat) {t : TypeId} {ps rs : Array TypeId} {v : Bool} (hu : P.underlying t = some (.func ps rs v)) (f : Fn) (x y : Array Value) (w : World) :
    (Op.equalIn (d + 1) t (.func f x y) .nilFunc).run P w = .ok false w ∧ (Op.equalIn (d + 1) t .nilFunc (.func f x y)).run P w = .ok false w := by
  constructor <;> simp [Op.equalIn, run_underlying hu]
theorem nilCmp_sound {t : TypeId} {s : SV} {x y : Value} (hs : Rel ρ s y) (h : nilCmp P t s x = true) (w : World) :
    (Op.equal t y x).run P w = .ok false w ∧ (Op.equal t x y).run P w = .ok false w ∧ NilPair y x := by
  unfold Op.equal Op.maxDepth
  unfold nilCmp at h
  split at h
  · rename_i e hk hu
    have hx := isNilPtr_spec h
    subst hx
    cases s <;> simp only [SV.kindNN, Rel] at hk hs <;> try cases hk
    all_goals
      obtain ⟨r, _, rfl⟩ := hs
      obtain ⟨h1, h2⟩ := eq_nil_ptr 9999 hu ⟨r.1, _, none⟩ w
      exact ⟨h1, h2, trivial⟩
  · rename_i e hk hu
    obtain ⟨l, c, rfl⟩ := isNilSlc_spec h
    cases s <;> simp only [SV.kindNN, Rel] at hk hs <;> try cases hk
    all_goals
      obtain ⟨r, _, rfl⟩ := hs
      obtain ⟨h1, h2⟩ := eq_nil_slc 9999 hu ⟨r.1, _, none⟩ _ _ l c w
      exact ⟨h1, h2, trivial⟩
  · rename_i hk hu
    have hx := isNilFn_spec h
    subst hx
    cases s <;> simp only [SV.kindNN, Rel] at hk hs <;> try cases hk
    obtain ⟨r, _, rfl⟩ := hs
    obtain ⟨h1, h2⟩ := eq_nil_fn 9999 hu _ _ _ w
    exact ⟨h1, h2, trivial⟩
  · cases h
theorem bin_nil {t : TypeId} {ox oy : Operand} {y x : Value} {b : Bool} {op : BinOp} (hb : boolOp op = some b) (hm : NilPair y x) (he : (Op.equal t y x).run P w = .ok false w) :
    (do eqGuard op t ox oy y x; binOp op t y x : Sem Value).run P w = .ok (.bool b) w := by
  have hop : (op = .eql ∧ b = false) ∨ (op = .neq ∧ b = true) := by
    cases op <;> simp_all [boolOp]
  match y, x, hm with
  | .pointer (some _), .pointer none, _ => rcases hop with ⟨rfl, rfl⟩ | ⟨rfl, rfl⟩ <;> simp [eqGuard, binOp, he]
  | .slice (some _) _ _, .slice none _ _, _ => rcases hop with ⟨rfl, rfl⟩ | ⟨rfl, rfl⟩ <;> simp [eqGuard, binOp, he]
  | .func _ _ _, .nilFunc, _ => rcases hop with ⟨rfl, rfl⟩ | ⟨rfl, rfl⟩ <;> simp [eqGuard, binOp, he]
theorem bin_nil' {t : TypeId} {ox oy : Operand} {y x : Value} {b : Bool} {op : BinOp} (hb : boolOp op = some b) (hm : NilPair y x) (he : (Op.equal t x y).run P w = .ok false w) :
    (do eqGuard op t ox oy x y; binOp op t x y : Sem Value).run P w = .ok (.bool b) w := by
  have hop : (op = .eql ∧ b = false) ∨ (op = .neq ∧ b = true) := by
    cases op <;> simp_all [boolOp]
  match y, x, hm with
  | .pointer (some _), .pointer none, _ => rcases hop with ⟨rfl, rfl⟩ | ⟨rfl, rfl⟩ <;> simp [eqGuard, binOp, he]
  | .slice (some _) _ _, .slice none _ _, _ => rcases hop with ⟨rfl, rfl⟩ | ⟨rfl, rfl⟩ <;> simp [eqGuard, binOp, he]
  | .func _ _ _, .nilFunc, _ => rcases hop with ⟨rfl, rfl⟩ | ⟨rfl, rfl⟩ <;> simp [eqGuard, binOp, he]
theorem eqFields_sound {d : Nat} {xs ys : List SV} {us vs : List Value} (hx : RelL ρ xs us) (hy : RelL ρ ys vs)
    (ih : ∀ {t : TypeId} {x y : SV} {u v : Value} {b : Bool}, Rel ρ x u → Rel ρ y v → eqSV P d t x y = some b → ∀ w, (Op.equalIn d t u v).run P w = .ok b w) :
    ∀ (fs : List Field) {b : Bool}, eqFieldsSV P (eqSV P d) xs ys fs = some b → ∀ w, (Op.eqFields d us.toArray vs.toArray fs).run P w = .ok b w
  | [], b, h, w => by simp [eqFieldsSV] at h; subst h; rfl
  | f :: fs, b, h, w => by
    unfold eqFieldsSV at h
    unfold Op.eqFields
    split at h
    · rename_i hn
      rw [if_pos hn]
      split at h
      · rename_i a c ha hc
        split at h
        · rename_i r r' hr hr'
          cases h
          obtain ⟨u, hu, hru⟩ := part_sound hx ha
          obtain ⟨v, hv, hrv⟩ := part_sound hy hc
          simp only [Sem.run_bind, hu, hv, Result.andThen_ok, ih hru hrv hr]
          cases r
          · simp [Sem.run_pure]
          · simpa using eqFields_sound hx hy ih fs hr' w
        · cases h
      · cases h
    · rename_i hn
      rw [if_neg hn]
      exact eqFields_sound hx hy ih fs h w
theorem eqElems_sound {d : Nat} {e : TypeId} {sz : Nat} {xs ys : List SV} {us vs : List Value} (hx : RelL ρ xs us) (hy : RelL ρ ys vs)
    (ih : ∀ {t : TypeId} {x y : SV} {u v : Value} {b : Bool}, Rel ρ x u → Rel ρ y v → eqSV P d t x y = some b → ∀ w, (Op.equalIn d t u v).run P w = .ok b w) :
    ∀ (n i : Nat) {b : Bool}, eqElemsSV P (eqSV P d) e sz xs ys n i = some b → ∀ w,
      ((do let r ← forIn (m := Sem) (List.range' i n) ((none, ()) : Option Bool × Unit) (fun i _ => do
              if (!(← Op.equalIn d e (← part e us.toArray (i * sz)) (← part e vs.toArray (i * sz)))) = true then pure (ForInStep.done (some false, ())) else pure (ForInStep.yield (none, ())))
           match r.1 with
           | some b => pure b
           | none => pure true) : Sem Bool).run P w = .ok b w
  | 0, i, b, h, w => by simp [eqElemsSV] at h; subst h; rfl
  | n + 1, i, b, h, w => by
    unfold eqElemsSV at h
    split at h
    · rename_i a c ha hc
      split at h
      · rename_i r r' hr hr'
        cases h
        obtain ⟨u, hu, hru⟩ := part_sound hx ha
        obtain ⟨v, hv, hrv⟩ := part_sound hy hc
        have ihn := eqElems_sound hx hy ih n (i + 1) hr' w
        simp only [List.range'_succ, List.forIn_cons, Sem.run_bind, hu, hv, Result.andThen_ok, ih hru hrv hr] at ihn ⊢
        cases r
        · simp [Sem.run_pure]
        · simp only [Bool.not_true, Bool.false_eq_true, if_false, Sem.run_pure, Result.andThen_ok, Bool.true_and]
          exact ihn
      · cases h
    · cases h
theorem eqSV_sound : ∀ (d : Nat) {t : TypeId} {x y : SV} {u v : Value} {b : Bool}, Rel ρ x u → Rel ρ y v → eqSV P d t x y = some b → ∀ w, (Op.equalIn d t u v).run P w = .ok b w
  | 0, t, x, y, u, v, b, _, _, h, w => by simp [eqSV] at h
  | d + 1, t, x, y, u, v, b, hx, hy, h, w => by
    unfold eqSV at h
    split at h
    · rename_i a c hu; simp only [Rel] at hx hy; subst hx; subst hy; cases h; simp [Op.equalIn, run_underlying hu]
    · rename_i k' k a k2 c hu
      simp only [Rel] at hx hy; subst hx; subst hy
      split at h
      · rename_i hk; subst hk; cases h; simp [Op.equalIn, run_underlying hu]
      · cases h
    · rename_i a c hu; simp only [Rel] at hx hy; subst hx; subst hy; cases h; simp [Op.equalIn, run_underlying hu]
    · rename_i fs xs ys hu
      split at h
      · rename_i hp
        simp only [Rel] at hx hy
        obtain ⟨us, hus, rfl⟩ := hx
        obtain ⟨vs, hvs, rfl⟩ := hy
        have hf : P.fieldsOf t = fs := by simp [Program.fieldsOf, hu]
        rw [run_equalIn_struct w d t _ _ (by rw [hf]; exact hu) hp, hf]
        exact eqFields_sound hus hvs (fun h1 h2 h3 => eqSV_sound d h1 h2 h3) _ h w
      · cases h
    · rename_i n e xs ys hu
      split at h
      · rename_i sz hsz
        simp only [Rel] at hx hy
        obtain ⟨us, hus, rfl⟩ := hx
        obtain ⟨vs, hvs, rfl⟩ := hy
        have := eqElems_sound hus hvs (fun h1 h2 h3 => eqSV_sound d h1 h2 h3) n 0 h w
        simp only [Op.equalIn, Sem.run_bind, run_underlying hu, Result.andThen_ok, run_size hsz, Std.Legacy.Range.forIn_eq_forIn_range', Std.Legacy.Range.size, Nat.sub_zero, Nat.add_sub_cancel, Nat.div_one] at this ⊢
        rw [← this]
        congr 1
        funext q w'
        obtain ⟨o, _⟩ := q
        cases o <;> rfl
      · cases h
    · cases h
theorem eqAgg_sound {op : BinOp} {t : TypeId} {ox oy : Operand} {xs ys : List SV} {s : SV} {y1 y2 : Value} (h1 : Rel ρ (.agg xs) y1) (h2 : Rel ρ (.agg ys) y2) (h : eqAggSV P op t xs ys = some s) (w : World) :
    ∃ y, (∀ w, (do eqGuard op t ox oy y1 y2; binOp op t y1 y2 : Sem Value).run P w = .ok y w) ∧ Rel ρ s y := by
  unfold eqAggSV at h
  split at h
  · rename_i hg
    have h1' := h1
    have h2' := h2
    simp only [Rel] at h1' h2'
    obtain ⟨us, _, rfl⟩ := h1'
    obtain ⟨vs, _, rfl⟩ := h2'
    split at h
    · rename_i r hr
      cases h
      refine ⟨.bool r, fun w => ?_, by simp [Rel]⟩
      simp only [Sem.run_bind, run_eqGuard_agg w _ t ox oy _ _ hg, Result.andThen_ok, run_eql_struct, eqSV_sound _ h1 h2 hr]
    · rename_i r hr
      cases h
      refine ⟨.bool (!r), fun w => ?_, by simp [Rel]⟩
      simp only [Sem.run_bind, run_eqGuard_agg w _ t ox oy _ _ hg, Result.andThen_ok, run_neq_struct, eqSV_sound _ h1 h2 hr]
    · cases h
  · cases h
theorem bin_sound {op : BinOp} {t : TypeId} {ox oy : Operand} {s1 s2 s : SV} {y1 y2 : Value} (h1 : Rel ρ s1 y1) (h2 : Rel ρ s2 y2) (h : binSV P op t ox oy s1 s2 = some s) :
    ∃ y, (∀ w, (do eqGuard op t ox oy y1 y2; binOp op t y1 y2 : Sem Value).run P w = .ok y w) ∧ Rel ρ s y := by
  unfold binSV at h
  split at h
  · simp only [Rel] at h1 h2
    subst h1; subst h2
    obtain ⟨v, hv, rfl⟩ := Option.map_eq_some_iff.1 h
    exact ⟨v, run_of_val? _ hv, by simp [Rel]⟩
  · split at h
    · rename_i hn
      simp only [Rel] at h2
      subst h2
      obtain ⟨b, hb, rfl⟩ := Option.map_eq_some_iff.1 h
      refine ⟨.bool b, fun w => ?_, by simp [Rel]⟩
      obtain ⟨he, _, hm⟩ := nilCmp_sound h1 hn w
      exact bin_nil hb hm he
    · cases h
  · split at h
    · rename_i hn
      simp only [Rel] at h1
      subst h1
      obtain ⟨b, hb, rfl⟩ := Option.map_eq_some_iff.1 h
      refine ⟨.bool b, fun w => ?_, by simp [Rel]⟩
      obtain ⟨_, he, hm⟩ := nilCmp_sound h2 hn w
      exact bin_nil' hb hm he
    · cases h
  · exact eqAgg_sound h1 h2 h default
  · cases h
theorem allV_sound : ∀ {ss : List SV} {ys : List Value} {xs : List Value}, RelL ρ ss ys → allV ss = some xs → ys = xs
  | [], ys, xs, h, e => by simp [allV] at e; simp only [RelL] at h; simp [h, ← e]
  | s :: ss, ys, xs, h, e => by
    obtain ⟨y, ys', rfl, h1, h2⟩ := h.cons_inv
    cases s <;> simp only [allV] at e <;> first | cases e | skip
    obtain ⟨zs, hz, rfl⟩ := Option.map_eq_some_iff.1 e
    simp only [Rel] at h1
    rw [h1, allV_sound h2 hz]
theorem len_sound {t : TypeId} {type : TypeId} {ts : Array TypeId} (ht : ts[0]? = some t) {s s' : SV} {y : Value} (hs : Rel ρ s y) (h : lenSV P t s = some s') :
    ∃ y', (∀ w, (Builtin.len_ ts type #[y]).run P w = .ok y' w) ∧ Rel ρ s' y' := by
  have key : ∀ (n : Nat), (∀ w, (Builtin.len_ ts type #[y]).run P w = .ok (goInt n) w) → s' = .v (.int .i64 n) → ∃ y', (∀ w, (Builtin.len_ ts type #[y]).run P w = .ok y' w) ∧ Rel ρ s' y' := by
    rintro n h1 rfl
    exact ⟨_, h1, by simp [Rel, goInt]⟩
  cases s <;> simp only [lenSV, Rel] at h hs <;> first | cases h | skip
  · split at h
    · rename_i e hu
      cases h
      obtain ⟨r, _, rfl⟩ := hs
      exact key _ (fun w => by simp [Builtin.len_, ht, run_underlying hu]) rfl
    · cases h
  · split at h
    · rename_i e hu
      cases h
      obtain ⟨r, _, rfl⟩ := hs
      exact key _ (fun w => by simp [Builtin.len_, ht, run_underlying hu]) rfl
    · cases h
  · split at h
    · rename_i e hu
      cases h
      obtain ⟨r, _, rfl, _⟩ := hs
      exact key _ (fun w => by simp [Builtin.len_, ht, run_underlying hu]) rfl
    · cases h
  · split at h
    · rename_i e hu
      cases h
      obtain ⟨r, _, rfl⟩ := hs
      exact key _ (fun w => by simp [Builtin.len_, ht, run_underlying hu]) rfl
    · cases h
  · split at h
    · rename_i e hu hst
      cases h
      obtain ⟨rfl, hg⟩ := hs
      obtain ⟨a, c, e1, _⟩ := CK.stab_slc _ _ hst hg
      exact key _ (fun w => by rw [e1]; simp [Builtin.len_, ht, run_underlying hu]) rfl
    · cases h
  · split at h
    · rename_i e hu
      cases h
      obtain ⟨rfl, a, c, e1, _⟩ := hs
      exact key _ (fun w => by rw [e1]; simp [Builtin.len_, ht, run_underlying hu]) rfl
    · cases h
theorem builtin_sound {b : Builtin} {ts : Array TypeId} {type : TypeId} {consts : Array Bool} {ss : List SV} {ys : List Value} {s : SV} (hs : RelL ρ ss ys) (h : builtinSV P b ts type consts ss = some s) :
    ∃ y, (∀ w, (Go.builtin b ts type consts ys.toArray).run P w = .ok (.value y) w) ∧ Rel ρ s y := by
  unfold builtinSV at h
  split at h
  · rename_i xs hx
    have hxs := allV_sound hs hx
    subst hxs
    split at h <;> first | cases h | skip
    all_goals
      split at h
      · rename_i v hv
        cases h
        exact ⟨v, run_of_val? _ hv, by simp [Rel]⟩
      · cases h
  · split at h
    · rename_i s0
      split at h
      · rename_i t ht
        obtain ⟨y0, ys', rfl, h1, h2⟩ := hs.cons_inv
        simp only [RelL] at h2; subst h2
        obtain ⟨y', hy, hr⟩ := len_sound (type := type) ht h1 h
        exact ⟨y', fun w => by simp [Go.builtin, hy], hr⟩
      · cases h
    · cases h
theorem map_ev (S : RelL ρ st.tmps a.tmps.toList) (xs : Array Operand) : RelL ρ (xs.toList.map (Sx.ev st)) (xs.map a.eval).toList := by
  rw [Array.toList_map]
  exact RelL.mapAll fun x => ev_rel S x
theorem stepVal_sound (S : RelL ρ st.tmps a.tmps.toList) {o : Oper} {s : SV} (h : stepVal P st o = some s) :
    ∃ y, (∀ w, (execOp a.eval o).run P w = .ok (.value y) w) ∧ Rel ρ s y := by
  unfold stepVal at h
  split at h
  · rename_i x ho; cases h; exact ⟨_, fun w => by simp [execOp, ho], ev_rel S x⟩
  · rename_i x ho; cases h; exact ⟨_, fun w => by simp [execOp, ho], ev_rel S x⟩
  · rename_i t parts ho
    obtain ⟨y, hy, hr⟩ := build_sound (ρ := ρ) (vs := parts.map fun p => (p.1, a.eval p.2)) (by simp) (by simpa using parts_map S parts.toList) h
    exact ⟨y, fun w => by simp [execOp, ho, hy], hr⟩
  · rename_i x ho
    obtain ⟨rfl, hm⟩ := nilChecked_sound (ev_rel S x) h
    refine ⟨a.eval x, fun w => ?_, ev_rel S x⟩
    simp only [execOp, ho]
    rcases hm with ⟨p, hp⟩ | ⟨f, fs, cs, hp⟩
    · rw [hp]; rfl
    · rw [hp]; rfl
  · rename_i op t x y ty ho
    obtain ⟨v, hv, hr⟩ := bin_sound (ev_rel S x) (ev_rel S y) h
    refine ⟨v, fun w => ?_, hr⟩
    have := hv w
    simp only [execOp, ho]
    simp only [Sem.run_bind] at this ⊢
    rw [this]; rfl
  · rename_i op t x ho
    split at h
    · rename_i v hv
      obtain ⟨u, hu, rfl⟩ := Option.map_eq_some_iff.1 h
      have := ev_rel S x
      rw [hv] at this
      simp only [Rel] at this
      exact ⟨u, fun w => by simp [execOp, ho, this, run_of_val? _ hu], by simp [Rel]⟩
    · cases h
  · rename_i t1 t2 x ho
    split at h
    · rename_i v hv
      obtain ⟨u, hu, rfl⟩ := Option.map_eq_some_iff.1 h
      have := ev_rel S x
      rw [hv] at this
      simp only [Rel] at this
      exact ⟨u, fun w => by simp [execOp, ho, this, run_of_val? _ hu], by simp [Rel]⟩
    · cases h
  · rename_i fn first caps ho
    split at h
    · rename_i f hf
      cases h
      have hf' : first = #[] := by apply Array.ext'; simpa using hf
      subst hf'
      refine ⟨.func (.func f) #[] (caps.map a.eval), fun w => by simp [execOp, ho, Instr.makeFunc], ?_⟩
      simp only [Rel]
      exact ⟨_, map_ev S caps, by simp only [Array.toArray_toList]⟩
    · cases h
  · rename_i t x f ho
    obtain ⟨y, hy, hr⟩ := fieldAddr_sound (ev_rel S x) h
    exact ⟨y, fun w => by simp [execOp, ho, hy], hr⟩
  · rename_i t x f ho
    split at h
    · rename_i cs fl hcs hf
      obtain ⟨fs, hu, hfl⟩ := fieldOf_spec hf
      have := ev_rel S x
      rw [hcs] at this
      simp only [Rel] at this
      obtain ⟨ys, hys, hx⟩ := this
      obtain ⟨y, hy, hr⟩ := part_sound hys h
      exact ⟨y, fun w => by simp [execOp, ho, hx, Instr.field, run_underlying hu, hfl, asAgg, hy], hr⟩
    · cases h
  · rename_i x i ho
    split at h
    · rename_i vs hvs
      have := ev_rel S x
      rw [hvs] at this
      simp only [Rel] at this
      obtain ⟨ys, hys, hx⟩ := this
      obtain ⟨y, hy, hr⟩ := hys.get h
      have hy' : ys.toArray[i]? = some y := by simpa using hy
      exact ⟨y, fun w => by simp only [execOp, ho, hx, Instr.extract, hy']; rfl, hr⟩
    · cases h
  · rename_i c ho
    split at h
    · rename_i b hb
      obtain ⟨y, hy, hr⟩ := builtin_sound (map_ev S c.args) h
      refine ⟨y, fun w => ?_, hr⟩
      have := hy w
      simp only [Array.toArray_toList] at this
      simp only [execOp, ho, resolve, hb, Sem.run_bind, Sem.run_pure, Result.andThen_ok, invoke]
      exact this
    · cases h
  · cases h
end

/-! ## 7. The run -/
/-- What is known of calls; which loops are cut (function, first region); which blocks a region that draws may write. -/
structure Env where
  call : FuncId → List SV → List Blk → Option (Tr (SV × List Blk))
  cut : FuncId → Nat → Bool
  wr : FuncId → Nat → List Nat
def allocSV (st : St) (d : Option Tmp) (cs : List SV) : St := St.put { st with mem := st.mem ++ [⟨true, .lit cs⟩] } d (.ptr st.mem.length 0)
def storeSV (P : Program) (st : St) (t : TypeId) (s x : SV) : Option St :=
  match s with
  | .ptr b off =>
    match st.mem[b]? with
    | some ⟨true, .lit cs⟩ =>
      if sizeT P t = some x.cells.length ∧ x.plain = true ∧ x.cells.all SV.one = true ∧ off + x.cells.length ≤ cs.length then
        some { st with mem := st.mem.set b ⟨true, .lit (setRange cs off x.cells)⟩ }
      else none
    | _ => none
  | _ => none
/-- a choice of an index -/
def pickIdx {α : Type} (i : Int) : Nat → Nat → (Nat → Tr α) → Tr α
  | 0, _, _ => .fail 11
  | n + 1, j, k => .br (decide (i = (j : Int))) (k j) (pickIdx i n (j + 1) k)
def withIdx {α : Type} (i : Int) (len : Nat) (k : Nat → Tr α) : Tr α :=
  if len ≤ 8 then pickIdx i len 0 k
  else match i with
    | .ofNat n => if n < len then k n else .fail 12
    | _ => .fail 13
def idxAddr {α : Type} (P : Program) (t : TypeId) (s i : SV) (k : SV → Tr α) : Tr α :=
  match i with
  | .v (.int _ i) =>
    match P.underlying t, s with
    | some (.array len e), .ptr b off =>
      match sizeT P e with
      | some sz => if len ≤ 1 then .fail 14 else withIdx i len fun j => k (.ptr b (off + j * sz))
      | none => .fail 15
    | some (.array len e), .eptr b sz' k' j' =>
      match sizeT P e with
      | some sz => if len ≤ 1 then .fail 14 else withIdx i len fun j => k (.eptr b sz' k' (j' + j * sz))
      | none => .fail 15
    | some (.slice e), .slc b off len _ =>
      match sizeT P e with
      | some sz => withIdx i len fun j => k (.ptr b (off + j * sz))
      | none => .fail 15
    | some (.slice e), .eslc b sz k' len _ =>
      if sizeT P e = some sz then .need (0 ≤ i ∧ i < len) (k (.eptr b sz (nadd k' i.toNat) 0)) else .fail 16
    | some (.slice e), .oslc b sz k' len =>
      if sizeT P e = some sz then .need (0 ≤ i ∧ i < len) (k (.eptr b sz (nadd k' i.toNat) 0)) else .fail 16
    | some (.slice e), .sv c x =>
      if sizeT P e = some (stabSz c) ∧ c.isStab = true then .need (0 ≤ i ∧ i < stabN c x) (k (.sptr c x i.toNat 0)) else .fail 16
    | some (.slice e), .osv b k' j e' ks x =>
      if sizeT P e = some ks.length then .need (0 ≤ i ∧ i < x.2.2.length) (k (.optr b k' j e' ks x i.toNat 0)) else .fail 16
    | _, _ => .fail 17
  | _ => .fail 18
def bt (s : ByteArray) (i : Nat) : Int := ((s.data.toList.getD i 0).toNat : Int)
def idx {α : Type} (P : Program) (t : TypeId) (s i : SV) (k : SV → Tr α) : Tr α :=
  match i with
  | .v (.int _ i) =>
    match P.underlying t, s with
    | some (.array len e), .agg cs =>
      match sizeT P e with
      | some sz => withIdx i len fun j => match partSV P e cs (j * sz) with
        | some s => k s
        | none => .fail 21
      | none => .fail 22
    | some .string, .v (.string s) => .need (0 ≤ i ∧ i < s.size) (k (.v (.int .u8 (bt s i.toNat))))
    | _, _ => .fail 23
  | _ => .fail 24
def optInt (st : St) : Option Operand → Option (Option Int)
  | none => some none
  | some x => match ev st x with
    | .v (.int _ i) => some (some i)
    | _ => none
def withLo {α : Type} (lo : Option Int) (d : Int) (k : Int → Tr α) : Tr α :=
  match lo with
  | none => k d
  | some l => k l
/-- a part of a string, of an array, of a slice -/
def sliceX {α : Type} (P : Program) (t : TypeId) (s : SV) (lo hi mx : Option Int) (k : SV → Tr α) : Tr α :=
  match P.underlying t, s with
  | some .string, .v (.string b) => match mx with
    | none => withLo lo 0 fun l => withLo hi b.size fun h => .need (0 ≤ l ∧ l ≤ h ∧ h ≤ b.size) (k (.v (.string (b.extract l.toNat h.toNat))))
    | some _ => .fail 81
  | some (.array n e), .ptr b off => match mx with
    | none => match sizeT P e with
      | some sz => withLo lo 0 fun l => withLo hi n fun h => .need (0 ≤ l ∧ l ≤ h ∧ h ≤ n) (.br (decide (l = n)) (k (.slc b off 0 0)) (k (.slc b (off + l.toNat * sz) (h.toNat - l.toNat) (n - l.toNat))))
      | none => .fail 82
    | some _ => .fail 81
  | some (.slice e), .v (.slice a len cap) => match sizeT P e with
    | some sz => withLo lo 0 fun l => withLo hi len fun h => withLo mx cap fun m => .need (l = 0 ∧ h = 0 ∧ m = 0) (k (.v (.slice a 0 0)))
    | none => .fail 82
  | some (.slice e), .slc b off len cap => match sizeT P e with
    | some sz => withLo lo 0 fun l => withLo hi len fun h => withLo mx cap fun m => .need (0 ≤ l ∧ l ≤ h ∧ h ≤ m ∧ m ≤ cap) (.br (decide (l = m)) (k (.slc b off 0 0)) (k (.slc b (off + l.toNat * sz) (h.toNat - l.toNat) (m.toNat - l.toNat))))
    | none => .fail 82
  | some (.slice e), .eslc b sz k0 len cap =>
    if sizeT P e = some sz then withLo lo 0 fun l => withLo hi len fun h => withLo mx cap fun m => .need (0 ≤ l ∧ l ≤ h ∧ h ≤ m ∧ m ≤ cap) (.br (decide (l = m)) (k (.eslc b sz k0 0 0)) (k (.eslc b sz (nadd k0 l.toNat) (h.toNat - l.toNat) (m.toNat - l.toNat))))
    else .fail 82
  | some (.slice e), .oslc b sz k0 len =>
    if sizeT P e = some sz ∧ k0 = 0 then match mx with
      | none => withLo lo 0 fun l => withLo hi len fun h => .need (0 ≤ l ∧ l ≤ h ∧ h ≤ len) (k (.oslc b sz l.toNat (h.toNat - l.toNat)))
      | some m => withLo lo 0 fun l => withLo hi len fun h => .need (l = 0 ∧ h = 0 ∧ m = 0) (k (.zslc b))
    else .fail 82
  | some (.slice e), .zslc b => match sizeT P e with
    | some sz => withLo lo 0 fun l => withLo hi 0 fun h => withLo mx 0 fun m => .need (l = 0 ∧ h = 0 ∧ m = 0) (k (.zslc b))
    | none => .fail 82
  | _, _ => .fail 83
def CK.of : (k : CK) → SV → Option k.T
  | .bool => fun s => match s with
    | .v (.bool b) => some b
    | _ => none
  | .int k => fun s => match s with
    | .v (.int k' n) => if k = k' then some n else none
    | _ => none
  | .str => fun s => match s with
    | .v (.string s) => some s
    | _ => none
  | .sl ks => fun s => match s with
    | .v (.slice none 0 0) => some (nilV, [])
    | .sv k' x => if h : k' = .sl ks then some (h ▸ x) else none
    | _ => none
  | .nodes => fun s => match s with
    | .v (.slice none 0 0) => some (nilV, [])
    | .sv k' x => if h : k' = .nodes then some (h ▸ x) else none
    | _ => none
  | .osl _ ks => fun s => match s with
    | .v (.slice none 0 0) => if noOsl ks = true then some (nilV, true, []) else none
    | _ => none
def toRow : (ks : List CK) → List SV → Option (RowT ks)
  | [], [] => some ()
  | k :: ks, s :: ss => match k.of s, toRow ks ss with
    | some x, some r => some (x, r)
    | _, _ => none
  | _, _ => none
def toRows (ks : List CK) : Nat → List SV → Option (List (RowT ks))
  | 0, [] => some []
  | 0, _ => none
  | n + 1, ss => match toRow ks (ss.take ks.length), toRows ks n (ss.drop ks.length) with
    | some r, some l => some (r :: l)
    | _, _ => none
def byteK : List CK := [.int .u8]
def strRows (s : ByteArray) : List (RowT byteK) := s.data.toList.map fun b => ((b.toNat : Int), ())
def rowsStr (l : List (RowT byteK)) : ByteArray := l.foldl (fun r x => r.push (UInt8.ofNat (Int.toNat x.1))) ByteArray.empty
/-- rows that a slice has, of elements that are flat: on what terms, how many, which -/
def readRows (mem : List Blk) (ks : List CK) : SV → Option (Prop × Nat × List (RowT ks))
  | .v (.slice a len cap) => if len = 0 then some (True, 0, []) else none
  | .zslc b => some (True, 0, [])
  | .slc b off m cap => match mem[b]? with
    | some ⟨_, .lit cs⟩ => match toRows ks m ((cs.drop off).take (m * ks.length)) with
      | some l => some (True, m, l)
      | none => none
    | _ => none
  | .eslc b sz k m cap => match mem[b]? with
    | some ⟨_, .rows ks' l⟩ | some ⟨_, .own _ ks' l⟩ => if h : ks' = ks then (if sz = ks.length ∧ noOsl ks = true then some (k + m ≤ l.length, m, ((h ▸ l).drop k).take m) else none) else none
    | _ => none
  | .oslc b sz k m => match mem[b]? with
    | some ⟨_, .rows ks' l⟩ | some ⟨_, .own _ ks' l⟩ => if h : ks' = ks then (if sz = ks.length ∧ noOsl ks = true then some (k + m ≤ l.length, m, ((h ▸ l).drop k).take m) else none) else none
    | _ => none
  | .sv (.sl ks') x => if h : ks' = ks then (if noOsl ks = true then some (True, x.2.length, h ▸ x.2) else none) else none
  | .sv .nodes x => if h : nodeK = ks then some (True, x.2.length, h ▸ (x.2.map PNode.row)) else none
  | _ => none
/-- the same, of a slice that is appended to: it must have no room, or be a whole block that is forgotten then -/
def baseRows (mem : List Blk) (e : TypeId) (ks : List CK) (s : SV) : Option (Prop × Nat × List (RowT ks) × Option Nat) :=
  match s with
  | .v (.slice a len cap) => if len = 0 ∧ cap = 0 then some (True, 0, [], none) else none
  | .zslc b => some (True, 0, [], none)
  | .eslc b sz k len cap => if len = 0 ∧ cap = 0 then some (True, 0, [], none) else none
  | .slc b off len cap => if len = 0 ∧ cap = 0 then some (True, 0, [], none) else none
  | .oslc b sz k n => match mem[b]? with
    | some ⟨true, .own e' ks' l⟩ => if h : ks' = ks then (if sz = ks.length ∧ k = 0 ∧ e' = e then some (n ≤ l.length, n, (h ▸ l).take n, some b) else none) else none
    | _ => none
  | _ => none
def killB (mem : List Blk) : Option Nat → List Blk
  | some b => mem.set b ⟨true, .dead⟩
  | none => mem
/-! ### kinds of a slice's elements -/
def isStrT (P : Program) (t : TypeId) : Bool :=
  match P.underlying t with
  | some .string => true
  | _ => false
def isPropT (P : Program) (t : TypeId) : Bool :=
  match P.underlying t with
  | some (.slice e) => match P.underlying e with
    | some (.struct fs) => match fs.toList with
      | [x, y] => isStrT P x.type && isStrT P y.type
      | _ => false
    | _ => false
  | _ => false
/-- is it the type of a tree's nodes? -/
def isNodeT (P : Program) (e : TypeId) : Bool :=
  match P.underlying e with
  | some (.struct fs) => match fs.toList with
    | [a, b, c] => isStrT P a.type && (isPropT P b.type && (match P.underlying c.type with
      | some (.slice e') => decide (e' = e)
      | _ => false))
    | _ => false
  | _ => false
def kindK (P : Program) : Nat → TypeId → Option (List CK)
  | 0, _ => none
  | d + 1, t =>
    match P.underlying t with
    | some .bool => some [.bool]
    | some (.int k) => some [.int k]
    | some .string => some [.str]
    | some (.struct fs) => match flatFields P (kindK P d) fs.toList 0 with
      | some ks => if ks.length = P.cellsOf t then some ks else none
      | none => none
    | some (.array n e) => match kindK P d e with
      | some ks => if ks.length = P.cellsOf e ∧ n * ks.length = P.cellsOf t then some (rep ks n) else none
      | none => none
    | some (.slice e) => match isNodeT P e with
      | true => some [.nodes]
      | false => match kindK P d e with
        | some ks => some [.sl ks]
        | none => none
    | _ => none
structure ElemInfo where
  e : TypeId
  bytes : Nat
  ks : List CK
  row : RowT ks
/-- a slice's element, if it is flat -/
def elemOf (P : Program) (t : TypeId) : Option ElemInfo :=
  match P.underlying t with
  | some (.slice e) => match kindK P 10 e, P.info? e with
    | some ks, some i => match i.zero with
      | some z => match toRow ks (zcells z) with
        | some r => if i.size = ks.length ∧ 0 < ks.length ∧ z.cells.size = ks.length then some ⟨e, i.bytes, ks, r⟩ else none
        | none => none
      | none => none
    | _, _ => none
  | _ => none
/-- rows behind rows -/
abbrev catRows {ks : List CK} (a c : List (RowT ks)) : List (RowT ks) := a ++ c
/-- the kinds that a destination's block has -/
def dstKs (mem : List Blk) (ks : List CK) : SV → List CK
  | .oslc b _ _ _ => match mem[b]? with
    | some ⟨true, .own _ ks' _⟩ => match decide (ks'.length = ks.length) with
      | true => ks'
      | false => ks
    | _ => ks
  | _ => ks
def asOsl (e : TypeId) (ks : List CK) : (k : CK) → k.T → Option (Value × Bool × List (RowT ks))
  | .osl e' ks', x => if h : ks' = ks then (if e' = e then some (x.1, x.2.1, h ▸ x.2.2) else none) else none
  | _, _ => none
/-- an owned slice of a row -/
def cellAt (e : TypeId) (ks : List CK) : (ks' : List CK) → RowT ks' → Nat → Option (Value × Bool × List (RowT ks))
  | [], _, _ => none
  | k :: _, r, 0 => asOsl e ks k r.1
  | _ :: ks', r, j + 1 => cellAt e ks ks' r.2 j
def CK.hole : (k : CK) → k.T → k.T
  | .osl _ _, x => (x.1, false, x.2.2)
  | _, x => x
/-- it is taken out -/
def holeAt : (ks : List CK) → RowT ks → Nat → RowT ks
  | [], r, _ => r
  | k :: _, r, 0 => (k.hole r.1, r.2)
  | _ :: ks, r, j + 1 => (r.1, holeAt ks r.2 j)
/-- an owned slice of a row gets a block of its own -/
def openDst {α : Type} (s : SV) (mem : List Blk) (cont : SV → List Blk → Tr α) : Tr α :=
  match s with
  | .osv b k j e ks x => match mem[b]? with
    | some ⟨true, .own e2 ks2 l⟩ => .need (k < l.length ∧ cellAt e ks ks2 (l.getD k (RowT.dflt ks2)) j = some x ∧ x.2.1 = true)
        (cont (.oslc mem.length ks.length 0 x.2.2.length) (mem.set b ⟨true, .own e2 ks2 (l.set k (holeAt ks2 (l.getD k (RowT.dflt ks2)) j))⟩ ++ [⟨true, .own e ks x.2.2⟩]))
    | _ => .fail 135
  | s => cont s mem
/-- an own slice is let stay as it is, or is handed over to a row -/
def settleOwn {α : Type} (mk : (Value → Tr α) → Tr α) (sz n : Nat) (e : TypeId) (ks' : List CK) (l : List (RowT ks')) (mem : List Blk) : (k : CK) → (k.T → List Blk → Tr α) → Tr α
  | .sl ks, cont => if h : ks' = ks then (if sz = ks.length ∧ noOsl ks = true then .need (n ≤ l.length) (mk fun v => cont (v, (h ▸ l).take n) mem) else .fail 136) else .fail 137
  | .nodes, cont => if h : ks' = nodeK then (if sz = 3 then .need (n ≤ l.length) (mk fun v => cont (v, ((h ▸ l).take n).map PNode.ofRow) mem) else .fail 138) else .fail 139
  | .osl e' ks, cont => if h : ks' = ks then (if e = e' ∧ sz = ks.length ∧ noOsl ks = true then .need (n ≤ l.length) (mk fun v => cont (v, true, (h ▸ l).take n) mem) else .fail 140) else .fail 141
  | _, _ => .fail 142
def anyVal {α : Type} (f : Value → Tr α) : Tr α := .all Value (fun _ => True) f
def isOslc : SV → Bool
  | .oslc _ _ _ _ | .osv _ _ _ _ _ _ => true
  | _ => false
def settleCell {α : Type} (k : CK) (s : SV) (mem : List Blk) (cont : k.T → List Blk → Tr α) : Tr α :=
  match isOslc s with
  | false => match k.of s with
    | some x => cont x mem
    | none => .fail 132
  | true => match s with
    | .osv _ _ _ _ _ x => openDst s mem fun s' mem' => match s' with
      | .oslc b sz 0 n => match mem'[b]? with
        | some ⟨true, .own e ks' l⟩ => settleOwn (fun f => f x.1) sz n e ks' l (mem'.set b ⟨true, .dead⟩) k cont
        | _ => .fail 131
      | _ => .fail 131
    | .oslc b sz 0 n => match mem[b]? with
      | some ⟨true, .own e ks' l⟩ => settleOwn anyVal sz n e ks' l (mem.set b ⟨true, .dead⟩) k cont
      | _ => .fail 131
    | _ => .fail 131
def settleRow {α : Type} : (ks : List CK) → List SV → List Blk → (RowT ks → List Blk → Tr α) → Tr α
  | [], [], mem, cont => cont () mem
  | k :: ks, s :: ss, mem, cont => settleCell k s mem fun x mem => settleRow ks ss mem fun r mem => cont (x, r) mem
  | _, _, _, _ => .fail 133
/-- some cells of a row are written: how the row turns -/
def rowPut {α : Type} : (ks : List CK) → Nat → List SV → List Blk → ((RowT ks → RowT ks) → List Blk → Tr α) → Tr α
  | _, _, [], mem, cont => cont id mem
  | [], _, _ :: _, _, _ => .fail 134
  | k :: ks, 0, s :: ss, mem, cont => settleCell k s mem fun x mem => rowPut ks 0 ss mem fun f mem => cont (fun r => (x, f r.2)) mem
  | _ :: ks, j + 1, s :: ss, mem, cont => rowPut ks j (s :: ss) mem fun f mem => cont (fun r => (r.1, f r.2)) mem
def appendX {α : Type} (P : Program) (ts : List TypeId) (dst x : SV) (mem : List Blk) (k : SV → List Blk → Tr α) : Tr α :=
  match ts with
  | [t, t'] => if t = t' then match elemOf P t with
    | some i => openDst dst mem fun dst mem =>
      match baseRows mem i.e (dstKs mem i.ks dst) dst, readRows mem (dstKs mem i.ks dst) x with
      | some (q, n, olds, kl), some (p, m, news) => .need (q ∧ p ∧ n + m ≤ 9223372036854775807 ∧ (n + m) * i.bytes ≤ 140737488355328) (k (.oslc mem.length (dstKs mem i.ks dst).length 0 (n + m)) (killB mem kl ++ [⟨true, .own i.e (dstKs mem i.ks dst) (catRows olds news)⟩]))
      | some _, none => match x with
        | .slc b off 1 cap => match mem[b]? with
          | some ⟨_, .lit cs⟩ => settleRow (dstKs mem i.ks dst) ((cs.drop off).take (dstKs mem i.ks dst).length) mem fun r mem1 =>
            match baseRows mem1 i.e (dstKs mem i.ks dst) dst with
            | some (q, n, olds, kl) => .need (q ∧ off + (dstKs mem i.ks dst).length ≤ cs.length ∧ n + 1 ≤ 9223372036854775807 ∧ (n + 1) * i.bytes ≤ 140737488355328) (k (.oslc mem1.length (dstKs mem i.ks dst).length 0 (n + 1)) (killB mem1 kl ++ [⟨true, .own i.e (dstKs mem i.ks dst) (catRows olds [r])⟩]))
            | none => .fail 95
          | _ => .fail 91
        | _ => .fail 91
      | _, _ => .fail 91
    | none => .fail 92
    else .fail 93
  | _ => .fail 94
def flatRow (ks : List CK) (l : List (RowT ks)) (k' j : Nat) (cs : List SV) : Option (RowT ks) :=
  match noOsl ks with
  | true => toRow ks (setRange (rowSV ks (l.getD k' (RowT.dflt ks))) j cs)
  | false => none
/-- a row's cells: owned slices know where they are -/
def CK.toSVat (b k j : Nat) : (c : CK) → c.T → SV
  | .osl e ks, x => .osv b k j e ks x
  | c, x => c.toSV x
def rowSVat (b k : Nat) : (ks : List CK) → RowT ks → Nat → List SV
  | [], _, _ => []
  | c :: ks, r, j => c.toSVat b k j r.1 :: rowSVat b k ks r.2 (j + 1)
/-- a slice that was laid into a row is that row's from then on -/
def reTmp (xt : Option Tmp) (t : Option SV) (s : SV) (tmps : List SV) : List SV :=
  match xt, t, s with
  | some d, some (.osv b k j e ks x), .oslc _ _ _ _ => tmps.set d (.osv b k j e ks x)
  | _, _, _ => tmps
/-- a row's owned slice is laid back -/
def putAtX {α : Type} (e : TypeId) (ks : List CK) (y : Value × Bool × List (RowT ks)) : (ks2 : List CK) → Nat → ((RowT ks2 → RowT ks2) → Tr α) → Tr α
  | [], _, _ => .fail 151
  | k :: ks2, 0, cont => match k with
    | .osl e' ks' => if h : ks = ks' then (if e = e' then cont (fun r => ((h ▸ y : Value × Bool × List (RowT ks')), r.2)) else .fail 152) else .fail 152
    | _ => .fail 153
  | k :: ks2, j + 1, cont => putAtX e ks y ks2 j fun f => cont (fun r => (r.1, f r.2))
def storeX {α : Type} (P : Program) (t : TypeId) (s x : SV) (xt : Option Tmp) (st : St) (k : St → Tr α) : Tr α :=
  match s with
  | .eptr b sz k' j => match st.mem[b]? with
    | some ⟨true, .own e ks l⟩ =>
      if sizeT P t = some x.cells.length ∧ x.plain = true ∧ x.cells.all SV.one = true ∧ j + x.cells.length ≤ sz ∧ ks.length = sz then
        match flatRow ks l k' j x.cells with
        | some r => .need (k' < l.length) (k { st with mem := st.mem.set b ⟨true, .own e ks (l.set k' r)⟩ })
        | none => rowPut ks j x.cells st.mem fun f mem => match mem[b]? with
          | some ⟨true, .own e2 ks2 l2⟩ => if h : ks2 = ks then .need (k' < l2.length) (k { st with tmps := reTmp xt (rowSVat b k' ks (f ((h ▸ l2 : List (RowT ks)).getD k' (RowT.dflt ks))) 0)[j]? x st.tmps, mem := mem.set b ⟨true, .own e2 ks ((h ▸ l2 : List (RowT ks)).set k' (f ((h ▸ l2 : List (RowT ks)).getD k' (RowT.dflt ks))))⟩ }) else .fail 96
          | _ => .fail 96
      else .fail 97
    | _ => .fail 98
  | .optr b k' j e ks z i jj =>
    if sizeT P t = some x.cells.length ∧ x.plain = true ∧ x.cells.all SV.one = true ∧ jj + x.cells.length ≤ ks.length then
      rowPut ks jj x.cells st.mem fun f mem => match mem[b]? with
        | some ⟨true, .own e2 ks2 l2⟩ => .need (k' < l2.length ∧ cellAt e ks ks2 (l2.getD k' (RowT.dflt ks2)) j = some z ∧ z.2.1 = true ∧ i < z.2.2.length)
          (putAtX e ks (z.1, true, z.2.2.set i (f (z.2.2.getD i (RowT.dflt ks)))) ks2 j fun g => k { st with mem := mem.set b ⟨true, .own e2 ks2 (l2.set k' (g (l2.getD k' (RowT.dflt ks2))))⟩ ++ [⟨true, .dead⟩] })
        | _ => .fail 154
    else .fail 155
  | s => match storeSV P st t s x with
    | some st' => k st'
    | none => .fail 34
def replZ (z : Value) (n : Nat) : List SV := (List.range n).map fun i => .v z.cells[i % z.cells.size]!
def buildSliceX {α : Type} (P : Program) (t : TypeId) (len : Nat) (parts : List (Nat × SV)) (mem : List Blk) (k : SV → List Blk → Tr α) : Tr α :=
  match P.underlying t with
  | some (.slice e) => match sizeT P e, val? P (zeroValue e) with
    | some size, some z => if len * size ≤ 2 ^ 24 ∧ 0 < len * size then match fillSV (fun i => some (i * size, size)) (replZ z (len * size)) parts with
      | some cells => k (.slc mem.length 0 len len) (mem ++ [⟨true, .lit cells⟩])
      | none => .fail 101
      else if len * size = 0 then match parts with
        | [] => k (.slc mem.length 0 len len) (mem ++ [⟨true, .lit []⟩])
        | _ => .fail 102
      else .fail 102
    | _, _ => .fail 103
  | _ => .fail 104
/-- a slice that is written out and kept: a block of its own -/
def buildOwnX {α : Type} (P : Program) (ow : Bool) (t : TypeId) (len : Nat) (parts : List (Nat × SV)) (mem : List Blk) (k : SV → List Blk → Tr α) : Tr α :=
  match ow with
  | false => buildSliceX P t len parts mem k
  | true => match elemOf P t with
    | some i => match val? P (zeroValue i.e) with
      | some z => if len * i.ks.length ≤ 2 ^ 24 ∧ 0 < len * i.ks.length ∧ noOsl i.ks = true then match fillSV (fun j => some (j * i.ks.length, i.ks.length)) (replZ z (len * i.ks.length)) parts with
        | some cells => match toRows i.ks len cells with
          | some l => k (.oslc mem.length i.ks.length 0 len) (mem ++ [⟨true, .own i.e i.ks l⟩])
          | none => .fail 161
        | none => .fail 162
        else .fail 163
      | none => .fail 164
    | none => .fail 165
/-- a slice that is written out, and is a part of a value, stays as it is -/
def buildStayX {α : Type} (P : Program) (ow : Nat) (t : TypeId) (len : Nat) (parts : List (Nat × SV)) (mem : List Blk) (k : SV → List Blk → Tr α) : Tr α :=
  match ow with
  | 0 => buildOwnX P false t len parts mem k
  | 1 => buildOwnX P true t len parts mem k
  | _ => match kindK P 10 t with
    | some [c] => buildOwnX P true t len parts mem fun s mem => settleCell c s mem fun x mem => k (c.toSV x) mem
    | _ => .fail 166
/-- 1: it becomes a variable's; 2: it becomes a part of a value -/
def owLit (all : Array Oper) (o : Oper) : Nat :=
  match o.op with
  | .buildSlice _ len _ => match len, o.dst with
    | 0, _ => 0
    | _, some d => match (all.toList.any fun o' => match o'.op with
      | .assign (.tmp d') => d' == d
      | _ => false) with
      | true => 1
      | false => match (all.toList.any fun o' => match o'.op with
        | .build _ parts => parts.toList.any fun p => match p.2 with
          | .tmp d' => d' == d
          | _ => false
        | _ => false) with
        | true => 2
        | false => 0
    | _, none => 0
  | _ => 0
def makeSliceX {α : Type} (P : Program) (t : TypeId) (l c : SV) (mem : List Blk) (k : SV → List Blk → Tr α) : Tr α :=
  match l, c with
  | .v (.int _ l), .v (.int _ c) => match elemOf P t with
    | some i => .need (l = c ∧ 0 ≤ l ∧ l ≤ 9223372036854775807 ∧ l * i.bytes ≤ 140737488355328) (k (.oslc mem.length i.ks.length 0 l.toNat) (mem ++ [⟨true, .own i.e i.ks (List.replicate l.toNat i.row)⟩]))
    | none => .fail 105
  | _, _ => .fail 106
/-- rows with others laid over them -/
def overRows {α : Type} (l : List α) (k : Nat) (news : List α) : List α := l.take k ++ news ++ l.drop (k + news.length)
/-- what is copied: rows, or a string's bytes -/
def copySrc (P : Program) (mem : List Blk) (ks : List CK) (t : TypeId) : SV → Option (Prop × Nat × List (RowT ks))
  | .v (.string s) => match P.underlying t with
    | some .string => if h : byteK = ks then some (True, s.size, h ▸ strRows s) else none
    | _ => none
  | s => readRows mem ks s
def copyX {α : Type} (P : Program) (ts : List TypeId) (dst x : SV) (mem : List Blk) (k : SV → List Blk → Tr α) : Tr α :=
  match ts with
  | [t, t'] => match elemOf P t with
    | some i => match dst with
      | .oslc b sz k0 n => match mem[b]?, copySrc P mem i.ks t' x with
        | some ⟨true, .own e ks l⟩, some (p, m, news) => if h : i.ks = ks then
            (if sz = ks.length ∧ noOsl ks = true then .need (p ∧ k0 + n ≤ l.length) (k (.v (.int .i64 (Nat.min m n : Nat))) (mem.set b ⟨true, .own e ks (overRows l k0 ((h ▸ news).take (Nat.min m n)))⟩)) else .fail 111)
          else .fail 112
        | _, _ => .fail 113
      | _ => .fail 114
    | none => .fail 115
  | _ => .fail 116
def clearX {α : Type} (P : Program) (ts : List TypeId) (x : SV) (mem : List Blk) (k : SV → List Blk → Tr α) : Tr α :=
  match ts with
  | [t] => match elemOf P t with
    | some i => match x with
      | .oslc b sz k0 n => match mem[b]? with
        | some ⟨true, .own e ks l⟩ => if h : i.ks = ks then
            (if sz = ks.length ∧ noOsl ks = true then .need (k0 + n ≤ l.length) (k (.v (.tuple #[])) (mem.set b ⟨true, .own e ks (overRows l k0 (List.replicate n (h ▸ i.row)))⟩)) else .fail 111)
          else .fail 112
        | _ => .fail 113
      | .v (.slice a n c) => if n = 0 then k (.v (.tuple #[])) mem else .fail 117
      | _ => .fail 114
    | none => .fail 115
  | _ => .fail 116
/-- a string of bytes -/
def bytesX {α : Type} (P : Program) (src dst : TypeId) (mem : List Blk) (s : SV) (k : SV → Tr α) : Tr α :=
  match P.underlying src, P.underlying dst with
  | some (.slice e), some .string => match P.underlying e with
    | some (.int .u8) => match readRows mem byteK s with
      | some (p, m, l) => .need p (k (.v (.string (rowsStr l))))
      | none => .fail 121
    | _ => .fail 122
  | _, _ => .fail 123
def isBytes (P : Program) (src dst : TypeId) : Bool :=
  match P.underlying src, P.underlying dst with
  | some (.slice _), some .string => true
  | _, _ => false
def rowPart (P : Program) (t : TypeId) (cs : List SV) (sz j : Nat) : Option SV :=
  match aggT P t with
  | some true => match sizeT P t with
    | some m => if j + m ≤ sz then some (.agg ((cs.drop j).take m)) else none
    | none => none
  | some false => cs[j]?
  | none => none
def loadX {α : Type} (P : Program) (mem : List Blk) (t : TypeId) (s : SV) (k : SV → Tr α) : Tr α :=
  match s with
  | .eptr b sz k' j =>
    match mem[b]? with
    | some ⟨_, .row n sz' get⟩ =>
      if sz' = sz then .need (k' < n) (match rowPart P t (get k') sz j with
        | some s => if s.sure = true then k s else .fail 61
        | none => .fail 62)
      else .fail 63
    | some ⟨_, .rows ks l⟩ =>
      if ks.length = sz then .need (k' < l.length) (match rowPart P t (rowSV ks (l.getD k' (RowT.dflt ks))) sz j with
        | some s => if s.sure = true then k s else .fail 61
        | none => .fail 62)
      else .fail 63
    | some ⟨_, .own _ ks l⟩ =>
      if ks.length = sz then .need (k' < l.length) (match rowPart P t (rowSVat b k' ks (l.getD k' (RowT.dflt ks)) 0) sz j with
        | some s => if s.sure = true then k s else .fail 61
        | none => .fail 62)
      else .fail 63
    | _ => .fail 64
  | .sptr c x i j =>
    match c, x with
    | .sl ks, x => .need (i < x.2.length) (match rowPart P t (rowSV ks (x.2.getD i (RowT.dflt ks))) ks.length j with
        | some s => if s.sure = true ∧ noOsl ks = true then k s else .fail 61
        | none => .fail 62)
    | .nodes, x => .need (i < x.2.length) (match rowPart P t (rowSV nodeK (x.2.getD i nodeDflt).row) 3 j with
        | some s => if s.sure = true then k s else .fail 61
        | none => .fail 62)
    | _, _ => .fail 67
  | s => match loadAtSV P mem t s with
    | some s => if s.sure = true then k s else .fail 65
    | none => .fail 66
/-- what a function hands back -/
def resVal (P : Program) (st : St) : ResultVar → Option SV
  | .tmp t => some (st.tmps.getD t (.v undef))
  | .cell a t => loadAtSV P st.mem t (st.tmps.getD a (.v undef))
def resVals (P : Program) (st : St) : List ResultVar → Option (List SV)
  | [] => some []
  | r :: rs => match resVal P st r, resVals P st rs with
    | some s, some ss => some (s :: ss)
    | _, _ => none
def resSV (P : Program) (st : St) (rs : List ResultVar) : Option SV :=
  match resVals P st rs with
  | some [s] => some s
  | some ss => some (.tup ss)
  | none => none
abbrev CallF (α : Type) := FuncId → List SV → List Blk → (SV → List Blk → Tr α) → Tr α
/-- does an operation only make a value? -/
def isVal (o : Oper) : Bool :=
  match o.op with
  | .move _ | .assign _ | .pick .. | .slice .. | .build .. | .load .. | .nilCheck _ | .binOp .. | .unOp .. | .convert .. | .makeFunc .. | .fieldAddr .. | .field .. | .indexAddr .. | .index .. | .extract .. => true
  | .call c => match c.callee with
    | .builtin b => match b with
      | .len | .max | .min => true
      | _ => false
    | _ => false
  | _ => false
/-- does an operation read what stays as it is? -/
def opStab (st : St) (o : Oper) : Bool :=
  match o.op with
  | .load _ x => (ev st x).stab
  | .convert _ _ x => (ev st x).stab
  | _ => false
/-- is a slice, that may be nil, compared with nil? -/
def nilO (P : Program) (op : BinOp) (t : TypeId) : SV → SV → Option (Nat × Bool)
  | .oslc _ _ _ len, .v x => match P.underlying t with
    | some (.slice _) => if isNilSlc x = true then (boolOp op).map fun b => (len, b) else none
    | _ => none
  | .sv c z, .v x => match P.underlying t, c.isStab with
    | some (.slice _), true => if isNilSlc x = true then (boolOp op).map fun b => (stabN c z, b) else none
    | _, _ => none
  | _, _ => none
/-- are two strings joined? -/
def strAdd (op : BinOp) : SV → SV → Option (ByteArray × ByteArray)
  | .v (.string a), .v (.string b) => match op with
    | .add => some (a, b)
    | _ => none
  | _, _ => none
def valOp {α : Type} (P : Program) (o : Oper) (st : St) (k : SV → Tr α) : Tr α :=
  match o.op with
  | .binOp op t x y _ => match nilO P op t (ev st x) (ev st y) with
    | some (len, b) => .br (decide (0 < len)) (k (.v (.bool b))) (.both (k (.v (.bool b))) (k (.v (.bool (!b)))))
    | none => match strAdd op (ev st x) (ev st y) with
      | some q => .need (q.1.size + q.2.size ≤ 9223372036854775807) (k (.v (.string (q.1 ++ q.2))))
      | none => match stepVal P st o with
        | some s => k s
        | none => .fail 37
  | .pick c x y => match ev st c with
    | .v (.bool b) => .br b (k (ev st x)) (k (ev st y))
    | _ => .fail 31
  | .indexAddr t x i => idxAddr P t (ev st x) (ev st i) k
  | .index t x i => idx P t (ev st x) (ev st i) k
  | .load t x => loadX P st.mem t (ev st x) k
  | .slice t x lo hi mx => if mx.isNone || hi.isSome then match optInt st lo, optInt st hi, optInt st mx with
    | some lo', some hi', some mx' => sliceX P t (ev st x) lo' hi' mx' k
    | _, _, _ => .fail 84
    else .fail 85
  | .convert src dst x => match isBytes P src dst with
    | true => bytesX P src dst st.mem (ev st x) k
    | false => match stepVal P st o with
      | some s => k s
      | none => .fail 37
  | _ => match stepVal P st o with
    | some s => k s
    | none => .fail 37
def tmpOf : Operand → Option Tmp
  | .tmp d => some d
  | _ => none
/-- an operation that makes or writes memory, or calls -/
def effOp {α : Type} (P : Program) (callF : CallF α) (ow : Nat) (o : Oper) (st : St) (k : St → Tr α) : Tr α :=
  match o.op with
  | .alloc e => match val? P (zeroValue e) with
    | some z => k (allocSV st o.dst (zcells z))
    | none => .fail 32
  | .box e x => if (ev st x).plain = true then k (allocSV st o.dst (ev st x).cells) else .fail 33
  | .store t p x => storeX P t (ev st p) (ev st x) (tmpOf x) st fun st' => k (st'.put o.dst (.v undef))
  | .buildSlice t len parts => buildStayX P ow t len (parts.toList.map fun p => (p.1, ev st p.2)) st.mem fun s mem => k (St.put { st with mem := mem } o.dst s)
  | .makeSlice t l c => makeSliceX P t (ev st l) (ev st c) st.mem fun s mem => k (St.put { st with mem := mem } o.dst s)
  | .call c => match c.callee with
    | .value f => match ev st f with
      | .fn f caps => callF f (c.args.toList.map (ev st) ++ caps) st.mem fun s mem => k (St.put { st with mem := mem } o.dst s)
      | _ => .fail 35
    | .builtin b => match b, c.args.toList with
      | .append, [x, y] => appendX P c.argTypes.toList (ev st x) (ev st y) st.mem fun s mem => k (St.put { st with mem := mem } o.dst s)
      | .copy, [x, y] => copyX P c.argTypes.toList (ev st x) (ev st y) st.mem fun s mem => k (St.put { st with mem := mem } o.dst s)
      | .clear, [x] => clearX P c.argTypes.toList (ev st x) st.mem fun s mem => k (St.put { st with mem := mem } o.dst s)
      | _, _ => .fail 39
    | _ => .fail 36
  | _ => .fail 38
def stepOp {α : Type} (P : Program) (callF : CallF α) (ow : Nat) (o : Oper) (st : St) (k : St → Tr α) : Tr α :=
  match isVal o with
  | true => valOp P o st fun s => k (st.put o.dst s)
  | false => effOp P callF ow o st k
def runOps {α : Type} (P : Program) (callF : CallF α) (all : Array Oper) : List Oper → St → (St → Tr α) → Tr α
  | [], st, k => k st
  | o :: os, st, k =>
    match o.guard with
    | none => stepOp P callF (owLit all o) o st fun st' => runOps P callF all os st' k
    | some (j, want) =>
      match (all[j]?).bind (·.dst) with
      | none => runOps P callF all os (st.put o.dst (.v undef)) k
      | some d =>
        match st.tmps[d]? with
        | none => runOps P callF all os (st.put o.dst (.v undef)) k
        | some (.v (.bool b)) =>
          match want with
          | true => .br b (stepOp P callF (owLit all o) o (st.put (some d) (.v (.bool true))) fun st' => runOps P callF all os st' k) (runOps P callF all os ((st.put (some d) (.v (.bool false))).put o.dst (.v undef)) k)
          | false => .br b (runOps P callF all os ((st.put (some d) (.v (.bool true))).put o.dst (.v undef)) k) (stepOp P callF (owLit all o) o (st.put (some d) (.v (.bool false))) fun st' => runOps P callF all os st' k)
        | some (.v (.tuple _)) => runOps P callF all os (st.put o.dst (.v undef)) k
        | _ => .fail 41
/-! ### A region that draws its order -/
/-- which blocks its stores go to (a hint: nothing rests on it) -/
def scanStep (P : Program) (st : St) (o : Oper) : SV :=
  match o.op with
  | .indexAddr _ x _ => match ev st x with
    | .ptr b o => .ptr b o
    | .slc b o _ _ => .ptr b o
    | .eptr b s k j => .eptr b s k j
    | .eslc b s k _ _ => .eptr b s k 0
    | .oslc b s k _ => .eptr b s k 0
    | _ => .any
  | .load t x => (loadAtSV P st.mem t (ev st x)).getD .any
  | _ => (stepVal P st o).getD .any
def scanWr (P : Program) : List Oper → St → List Nat
  | [], _ => []
  | o :: os, st => match o.op with
    | .store _ p _ => match ev st p with
      | .ptr b _ => b :: scanWr P os st
      | .eptr b _ _ _ => b :: scanWr P os st
      | _ => scanWr P os st
    | .call c => match c.callee, c.args.toList with
      | .builtin _, x :: _ => match ev st x with
        | .oslc b _ _ _ => b :: scanWr P os (st.put o.dst (scanStep P st o))
        | _ => scanWr P os (st.put o.dst (scanStep P st o))
      | _, _ => scanWr P os (st.put o.dst (scanStep P st o))
    | _ => scanWr P os (st.put o.dst (scanStep P st o))
def maskMem (wr : List Nat) : Nat → List Blk → List Blk
  | _, [] => []
  | i, b :: bs => (if wr.contains i then ⟨b.rw, .dead⟩ else b) :: maskMem wr (i + 1) bs
def Body.lo (n : Nat) : Body → Bool
  | .lit cs => loL n cs
  | _ => true
def memLo (n : Nat) (mem : List Blk) : Bool := mem.all fun b => b.body.lo n
def guardB (all : Array Oper) (o : Oper) (st : St) : Option Bool :=
  match o.guard with
  | none => some true
  | some (j, want) =>
    match (all[j]?).bind (·.dst) with
    | none => some false
    | some d =>
      match st.tmps[d]? with
      | none => some false
      | some (.v (.bool b)) => some (b == want)
      | some (.v (.tuple _)) => some false
      | _ => none
def loadable (masked : List Blk) : SV → Bool
  | .ptr b _ | .eptr b _ _ _ => match masked[b]? with
    | some ⟨_, b⟩ => b.live
    | none => false
  | _ => false
def quietOK (masked : List Blk) (st : St) (o : Oper) : Bool :=
  isVal o && (!(opStab st o) && (match o.op with
    | .load _ x => loadable masked (ev st x)
    | _ => true))
def isGuard (all : Array Oper) (i : Nat) : Bool := all.any fun o => match o.guard with
  | some (j, _) => j == i
  | none => false
/-- the temporary of an operation that guards others is decided at once -/
def decideTmp {α : Type} (all : Array Oper) (i : Nat) (d : Option Tmp) (st : St) (k : St → Tr α) : Tr α :=
  match isGuard all i, d with
  | true, some d => match st.tmps[d]? with
    | some (.v (.bool b)) => .br b (k (st.put (some d) (.v (.bool true)))) (k (st.put (some d) (.v (.bool false))))
    | _ => k st
  | _, _ => k st
def pickQuiet (ops : Array Oper) (masked : List Blk) (listed : Array Bool) (st : St) : List Nat → Option Nat
  | [] => none
  | i :: is =>
    match ops[i]? with
    | none => pickQuiet ops masked listed st is
    | some o =>
      match guardB ops o st with
      | some false => if Region.free .any ops listed i = true then some i else pickQuiet ops masked listed st is
      | some true => if (quietOK masked st o && Region.free .any ops listed i) = true then some i else pickQuiet ops masked listed st is
      | none => pickQuiet ops masked listed st is
def allOf {α : Type} : List Nat → (Nat → Tr α) → Tr α
  | [], _ => .fail 71
  | [i], f => f i
  | i :: is, f => .both (f i) (allOf is f)
def runDraw {α : Type} (P : Program) (callF : CallF α) (ops : Array Oper) (wr : List Nat) (m0 : Nat) (masked : List Blk) : Nat → Array Bool → St → (St → Tr α) → Tr α
  | 0, listed, st, k => match Region.ready .any ops listed with
    | [] => k st
    | _ => .fail 72
  | n + 1, listed, st, k =>
    match Region.ready .any ops listed with
    | [] => k st
    | r :: rs =>
      match pickQuiet ops masked listed st (r :: rs) with
      | some i =>
        match ops[i]? with
        | none => .fail 73
        | some o =>
          match guardB ops o st with
          | some true => if ((Region.ready .any ops listed).contains i && quietOK masked st o && Region.free .any ops listed i) = true then
              valOp P o { st with mem := masked } fun s => decideTmp ops i o.dst (st.put o.dst s) fun st' => runDraw P callF ops wr m0 masked n (listed.setIfInBounds i true) st' k
            else .fail 77
          | some false => if ((Region.ready .any ops listed).contains i && Region.free .any ops listed i) = true then runDraw P callF ops wr m0 masked n (listed.setIfInBounds i true) (st.put o.dst (.v undef)) k else .fail 78
          | none => .fail 74
      | none => allOf (r :: rs) fun i =>
        match ops[i]? with
        | none => .fail 75
        | some o =>
          match guardB ops o st with
          | some true => stepOp P callF (owLit ops o) o st fun st' => .same (maskMem wr 0 (st'.mem.take m0)) masked (decideTmp ops i o.dst st' fun st'' => runDraw P callF ops wr m0 masked n (listed.setIfInBounds i true) st'' k)
          | some false => runDraw P callF ops wr m0 masked n (listed.setIfInBounds i true) (st.put o.dst (.v undef)) k
          | none => .fail 76
def refine1 (st : St) (c : Operand) (b : Bool) : St :=
  match c with
  | .tmp d => st.put (some d) (.v (.bool b))
  | _ => st
def firstReg : Code → Nat
  | .region id _ _ => id
  | .seq a _ => firstReg a
  | .cond _ a _ => firstReg a
  | .block _ b | .loop b | .scope b => firstReg b
  | _ => 0
def exec {α : Type} (P : Program) (Γ : Env) : Nat → FuncId → Code → St → (Ex → St → Tr α) → Tr α
  | 0, _, _, _, _ => .fail 1
  | n + 1, fid, c, st, k =>
    match c with
    | .skip => k .normal st
    | .label _ => k .normal st
    | .exit id => k (.exit id) st
    | .ret => k .ret st
    | .seq x y => exec P Γ n fid x st fun e st' => match e with
      | .normal => exec P Γ n fid y st' k
      | e => k e st'
    | .block id b => exec P Γ n fid b st fun e st' => match e with
      | .exit i => if i = id then k .normal st' else k (.exit i) st'
      | e => k e st'
    | .loop b => match Γ.cut fid (firstReg b) with
      | true => .lp P b st k
      | false => exec P Γ n fid b st fun e st' => match e with
        | .normal => exec P Γ n fid (.loop b) st' k
        | e => k e st'
    | .cond c x y => match ev st c with
      | .v (.bool b) => .br b (exec P Γ n fid x (refine1 st c true) k) (exec P Γ n fid y (refine1 st c false) k)
      | _ => .fail 2
    | .region id ops draw =>
      let callF : CallF α := fun f args mem k' =>
        match P.funcs[f]? with
        | none => .fail 3
        | some fn => match fn.body with
          | none => .fail 4
          | some c => match Γ.call f args mem with
            | some tr => tr.bind fun r => k' r.1 r.2
            | none => exec P Γ n f c ⟨args ++ List.replicate (fn.ntmps - args.length) (.v undef), mem⟩ fun e st' => match e with
              | .exit _ => .fail 5
              | _ => match resSV P st' fn.results.toList with
                | some s => k' s st'.mem
                | none => .fail 6
      match draw with
      | false => runOps P callF ops ops.toList st (k .normal)
      | true =>
        let wr := Γ.wr fid id ++ scanWr P ops.toList st
        let masked := maskMem wr 0 st.mem
        if (Region.noSelect ops && memLo st.mem.length masked) = true then
          runDraw P callF ops wr st.mem.length masked ops.size (Array.replicate ops.size false) st (k .normal)
        else .fail 8
    | _ => .fail 7
def callX {α : Type} (P : Program) (Γ : Env) (n : Nat) : CallF α := fun f args mem k' =>
  match P.funcs[f]? with
  | none => .fail 3
  | some fn => match fn.body with
    | none => .fail 4
    | some c => match Γ.call f args mem with
      | some tr => tr.bind fun r => k' r.1 r.2
      | none => exec P Γ n f c ⟨args ++ List.replicate (fn.ntmps - args.length) (.v undef), mem⟩ fun e st' => match e with
        | .exit _ => .fail 5
        | _ => match resSV P st' fn.results.toList with
          | some s => k' s st'.mem
          | none => .fail 6
end Go.Proofs.Ytdimocgjcneedaa.Sx
