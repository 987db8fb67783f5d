import Derived.WalkKit
import Derived.OrdersHeld
import Derived.KernelRfl
import Derived.ProofKit
import Derived.OpenShut
import Derived.Deep.Slices
import Derived.Deep.Fields
import Derived.Laws.MakeOwn
import Derived.Laws.BytesString
set_option linter.unusedVariables false
set_option linter.unusedSimpArgs false
namespace Go.Proofs.Ytnmmicnlpjmciaa.Sx

/-! ## 0. Words on Booleans, for what is known on a way -/
theorem nb_beq (a b : Int) : (a == b) = decide (a = b) := by by_cases h : a = b <;> simp [h]
theorem nb_bne (a b : Int) : (a != b) = decide (a ≠ b) := by by_cases h : a = b <;> simp [h]
theorem nb_beqN (a b : Nat) : (a == b) = decide (a = b) := by by_cases h : a = b <;> simp [h]
theorem nb_not (p : Prop) [Decidable p] : (!decide p) = decide (¬ p) := by by_cases h : p <;> simp [h]
theorem nb_or (p q : Prop) [Decidable p] [Decidable q] : (decide p || decide q) = decide (p ∨ q) := by by_cases h : p <;> simp [h]
theorem nb_and (p q : Prop) [Decidable p] [Decidable q] : (decide p && decide q) = decide (p ∧ q) := by by_cases h : p <;> simp [h]
theorem nb_iff (p q : Prop) [Decidable p] [Decidable q] : (decide p == decide q) = decide (p ↔ q) := by by_cases h : p <;> by_cases k : q <;> simp [h, k]
theorem nb_niff (p q : Prop) [Decidable p] [Decidable q] : (decide p != decide q) = decide (¬ (p ↔ q)) := by by_cases h : p <;> by_cases k : q <;> simp [h, k]
theorem nb_eq (p q : Prop) [Decidable p] [Decidable q] : (decide p = decide q) = (p ↔ q) := by by_cases h : p <;> by_cases k : q <;> simp [h, k]

/-! ## 1. Symbolic values, blocks, states -/
inductive SV where
  | v (x : Value)
  | ptr (b off : Nat)
  | eptr (b sz k j : Nat)
  | slc (b off len cap : Nat)
  | eslc (b sz k len cap : Nat)
  | oslc (b sz k len : Nat)
  | zslc (b : Nat)
  | fn (f : FuncId) (caps : List SV)
  | agg (cs : List SV)
  | tup (cs : List SV)
  | any
inductive CK where
  | bool
  | int (k : IntKind)
  | str
  deriving DecidableEq
abbrev CK.T : CK → Type
  | .bool => Bool
  | .int _ => Int
  | .str => ByteArray
def CK.toV : (k : CK) → k.T → Value
  | .bool, b => .bool b
  | .int k, n => .int k n
  | .str, s => .string s
def CK.toSV : (k : CK) → k.T → SV
  | .bool, b => .v (.bool b)
  | .int k, n => .v (.int k n)
  | .str, s => .v (.string s)
def CK.wf : (k : CK) → k.T → Prop
  | .bool, _ => True
  | .int k, n => (Lit.int k n).wf = true
  | .str, s => s.size ≤ maxLen
abbrev RowT : List CK → Type
  | [] => Unit
  | k :: ks => k.T × RowT ks
def CK.dflt : (k : CK) → k.T
  | .bool => false
  | .int _ => (0 : Int)
  | .str => ByteArray.empty
def RowT.dflt : (ks : List CK) → RowT ks
  | [] => ()
  | k :: ks => (k.dflt, RowT.dflt ks)
def rowV : (ks : List CK) → RowT ks → List Value
  | [], _ => []
  | k :: ks, r => k.toV r.1 :: rowV ks r.2
def rowSV : (ks : List CK) → RowT ks → List SV
  | [], _ => []
  | k :: ks, r => k.toSV r.1 :: rowSV ks r.2
def RowWF : (ks : List CK) → RowT ks → Prop
  | [], _ => True
  | k :: ks, r => k.wf r.1 ∧ RowWF ks r.2
inductive Body where
  | lit (cs : List SV)
  | row (n sz : Nat) (get : Nat → List SV)
  | rows (ks : List CK) (l : List (RowT ks))
  | own (e : TypeId) (ks : List CK) (l : List (RowT ks))
  | dead
structure Blk where
  rw : Bool
  body : Body
structure St where
  tmps : List SV
  mem : List Blk
structure Place where
  blk : Nat
  off : Nat
  ptr : Option Addr
  cap : Nat
abbrev Loc := Nat → Option Place
def Ext (ρ ρ' : Loc) : Prop := ∀ b r, ρ b = some r → ρ' b = some r
theorem Ext.refl (ρ : Loc) : Ext ρ ρ := fun _ _ h => h
theorem Ext.trans {a b c : Loc} (h : Ext a b) (k : Ext b c) : Ext a c := fun x r hx => k x r (h x r hx)

mutual
def Rel (ρ : Loc) : SV → Value → Prop
  | .v x, y => y = x
  | .ptr b off, y => ∃ r, ρ b = some r ∧ y = .pointer (some ⟨r.1, r.2 + off, none⟩)
  | .eptr b sz k j, y => ∃ r, ρ b = some r ∧ y = .pointer (some ⟨r.1, r.2 + (k * sz + j), none⟩)
  | .slc b off len cap, y => ∃ r, ρ b = some r ∧ y = .slice (some ⟨r.1, r.2 + off, none⟩) len cap
  | .eslc b sz k len cap, y => ∃ r, ρ b = some r ∧ y = .slice (some ⟨r.1, r.2 + k * sz, none⟩) len cap
  | .oslc b sz k len, y => ∃ r, ρ b = some r ∧ y = .slice (if r.cap = k then r.ptr else r.ptr.map (·.add (k * sz))) len (r.cap - k) ∧ (0 < len → r.ptr = some ⟨r.1, r.2, none⟩ ∧ k + len ≤ r.cap)
  | .zslc b, y => ∃ r, ρ b = some r ∧ y = .slice r.ptr 0 0
  | .fn f caps, y => ∃ ys, RelL ρ caps ys ∧ y = .func (.func f) #[] ys.toArray
  | .agg cs, y => ∃ ys, RelL ρ cs ys ∧ y = .agg ys.toArray
  | .tup cs, y => ∃ ys, RelL ρ cs ys ∧ y = .tuple ys.toArray
  | .any, _ => True
def RelL (ρ : Loc) : List SV → List Value → Prop
  | [], ys => ys = []
  | x :: xs, ys => ∃ y ys', ys = y :: ys' ∧ Rel ρ x y ∧ RelL ρ xs ys'
end

mutual
theorem Rel.mono {ρ ρ' : Loc} (h : Ext ρ ρ') : ∀ (s : SV) (y : Value), Rel ρ s y → Rel ρ' s y
  | .v x, y => by simp [Rel]
  | .ptr b off, y => by simp only [Rel]; rintro ⟨r, hr, e⟩; exact ⟨r, h _ _ hr, e⟩
  | .eptr b sz k j, y => by simp only [Rel]; rintro ⟨r, hr, e⟩; exact ⟨r, h _ _ hr, e⟩
  | .slc b off len cap, y => by simp only [Rel]; rintro ⟨r, hr, e⟩; exact ⟨r, h _ _ hr, e⟩
  | .eslc b sz k len cap, y => by simp only [Rel]; rintro ⟨r, hr, e⟩; exact ⟨r, h _ _ hr, e⟩
  | .oslc b sz k len, y => by simp only [Rel]; rintro ⟨r, hr, e⟩; exact ⟨r, h _ _ hr, e⟩
  | .zslc b, y => by simp only [Rel]; rintro ⟨r, hr, e⟩; exact ⟨r, h _ _ hr, e⟩
  | .fn f caps, y => by simp only [Rel]; rintro ⟨ys, hr, e⟩; exact ⟨ys, RelL.mono h _ _ hr, e⟩
  | .agg caps, y => by simp only [Rel]; rintro ⟨ys, hr, e⟩; exact ⟨ys, RelL.mono h _ _ hr, e⟩
  | .tup caps, y => by simp only [Rel]; rintro ⟨ys, hr, e⟩; exact ⟨ys, RelL.mono h _ _ hr, e⟩
  | .any, y => by simp [Rel]
theorem RelL.mono {ρ ρ' : Loc} (h : Ext ρ ρ') : ∀ (s : List SV) (y : List Value), RelL ρ s y → RelL ρ' s y
  | [], y => by simp [RelL]
  | x :: xs, y => by
    simp only [RelL]
    rintro ⟨y0, ys, e, h1, h2⟩
    exact ⟨y0, ys, e, Rel.mono h _ _ h1, RelL.mono h _ _ h2⟩
end
mutual
def SV.sure : SV → Bool
  | .any => false
  | .fn _ cs | .agg cs | .tup cs => sureL cs
  | _ => true
def sureL : List SV → Bool
  | [] => true
  | s :: ss => s.sure && sureL ss
end
mutual
theorem Rel.unique {ρ : Loc} : ∀ (s : SV) {y z : Value}, s.sure = true → Rel ρ s y → Rel ρ s z → y = z
  | .v x, y, z, _, h1, h2 => by simp only [Rel] at h1 h2; rw [h1, h2]
  | .ptr b off, y, z, _, h1, h2 => by simp only [Rel] at h1 h2; obtain ⟨r, hr, rfl⟩ := h1; obtain ⟨r', hr', rfl⟩ := h2; rw [hr] at hr'; cases hr'; rfl
  | .eptr b sz k j, y, z, _, h1, h2 => by simp only [Rel] at h1 h2; obtain ⟨r, hr, rfl⟩ := h1; obtain ⟨r', hr', rfl⟩ := h2; rw [hr] at hr'; cases hr'; rfl
  | .slc b off len cap, y, z, _, h1, h2 => by simp only [Rel] at h1 h2; obtain ⟨r, hr, rfl⟩ := h1; obtain ⟨r', hr', rfl⟩ := h2; rw [hr] at hr'; cases hr'; rfl
  | .eslc b sz k len cap, y, z, _, h1, h2 => by simp only [Rel] at h1 h2; obtain ⟨r, hr, rfl⟩ := h1; obtain ⟨r', hr', rfl⟩ := h2; rw [hr] at hr'; cases hr'; rfl
  | .oslc b sz k len, y, z, _, h1, h2 => by simp only [Rel] at h1 h2; obtain ⟨r, hr, rfl, _⟩ := h1; obtain ⟨r', hr', rfl, _⟩ := h2; rw [hr] at hr'; cases hr'; rfl
  | .zslc b, y, z, _, h1, h2 => by simp only [Rel] at h1 h2; obtain ⟨r, hr, rfl⟩ := h1; obtain ⟨r', hr', rfl⟩ := h2; rw [hr] at hr'; cases hr'; rfl
  | .fn f cs, y, z, hs, h1, h2 => by simp only [Rel, SV.sure] at hs h1 h2; obtain ⟨ys, hy, rfl⟩ := h1; obtain ⟨zs, hz, rfl⟩ := h2; rw [RelL.unique cs hs hy hz]
  | .agg cs, y, z, hs, h1, h2 => by simp only [Rel, SV.sure] at hs h1 h2; obtain ⟨ys, hy, rfl⟩ := h1; obtain ⟨zs, hz, rfl⟩ := h2; rw [RelL.unique cs hs hy hz]
  | .tup cs, y, z, hs, h1, h2 => by simp only [Rel, SV.sure] at hs h1 h2; obtain ⟨ys, hy, rfl⟩ := h1; obtain ⟨zs, hz, rfl⟩ := h2; rw [RelL.unique cs hs hy hz]
  | .any, y, z, hs, h1, h2 => by simp [SV.sure] at hs
theorem RelL.unique {ρ : Loc} : ∀ (s : List SV) {y z : List Value}, sureL s = true → RelL ρ s y → RelL ρ s z → y = z
  | [], y, z, _, h1, h2 => by simp only [RelL] at h1 h2; rw [h1, h2]
  | s :: ss, y, z, hs, h1, h2 => by
    simp only [RelL] at h1 h2
    simp only [sureL, Bool.and_eq_true] at hs
    obtain ⟨y0, ys, rfl, a1, a2⟩ := h1
    obtain ⟨z0, zs, rfl, b1, b2⟩ := h2
    rw [Rel.unique s hs.1 a1 b1, RelL.unique ss hs.2 a2 b2]
end
mutual
def SV.lo (n : Nat) : SV → Bool
  | .v _ | .any => true
  | .ptr b _ | .eptr b _ _ _ | .slc b _ _ _ | .eslc b _ _ _ _ | .oslc b _ _ _ | .zslc b => decide (b < n)
  | .fn _ cs | .agg cs | .tup cs => loL n cs
def loL (n : Nat) : List SV → Bool
  | [] => true
  | s :: ss => s.lo n && loL n ss
end
def Down (n : Nat) (ρ' ρ : Loc) : Prop := ∀ i, i < n → ∀ r, ρ' i = some r → ρ i = some r
mutual
theorem Rel.down {n : Nat} {ρ ρ' : Loc} (h : Down n ρ' ρ) : ∀ (s : SV) {y : Value}, s.lo n = true → Rel ρ' s y → Rel ρ s y
  | .v x, y, _, h1 => by simpa only [Rel] using h1
  | .any, y, _, h1 => by simp [Rel]
  | .ptr b off, y, hb, h1 => by simp only [Rel, SV.lo, decide_eq_true_eq] at hb h1 ⊢; obtain ⟨r, hr, e⟩ := h1; exact ⟨r, h _ hb _ hr, e⟩
  | .eptr b sz k j, y, hb, h1 => by simp only [Rel, SV.lo, decide_eq_true_eq] at hb h1 ⊢; obtain ⟨r, hr, e⟩ := h1; exact ⟨r, h _ hb _ hr, e⟩
  | .slc b off len cap, y, hb, h1 => by simp only [Rel, SV.lo, decide_eq_true_eq] at hb h1 ⊢; obtain ⟨r, hr, e⟩ := h1; exact ⟨r, h _ hb _ hr, e⟩
  | .eslc b sz k len cap, y, hb, h1 => by simp only [Rel, SV.lo, decide_eq_true_eq] at hb h1 ⊢; obtain ⟨r, hr, e⟩ := h1; exact ⟨r, h _ hb _ hr, e⟩
  | .oslc b sz k len, y, hb, h1 => by simp only [Rel, SV.lo, decide_eq_true_eq] at hb h1 ⊢; obtain ⟨r, hr, e⟩ := h1; exact ⟨r, h _ hb _ hr, e⟩
  | .zslc b, y, hb, h1 => by simp only [Rel, SV.lo, decide_eq_true_eq] at hb h1 ⊢; obtain ⟨r, hr, e⟩ := h1; exact ⟨r, h _ hb _ hr, e⟩
  | .fn f cs, y, hb, h1 => by simp only [Rel, SV.lo] at hb h1 ⊢; obtain ⟨ys, hy, e⟩ := h1; exact ⟨ys, RelL.down h cs hb hy, e⟩
  | .agg cs, y, hb, h1 => by simp only [Rel, SV.lo] at hb h1 ⊢; obtain ⟨ys, hy, e⟩ := h1; exact ⟨ys, RelL.down h cs hb hy, e⟩
  | .tup cs, y, hb, h1 => by simp only [Rel, SV.lo] at hb h1 ⊢; obtain ⟨ys, hy, e⟩ := h1; exact ⟨ys, RelL.down h cs hb hy, e⟩
theorem RelL.down {n : Nat} {ρ ρ' : Loc} (h : Down n ρ' ρ) : ∀ (s : List SV) {y : List Value}, loL n s = true → RelL ρ' s y → RelL ρ s y
  | [], y, _, h1 => by simpa only [RelL] using h1
  | s :: ss, y, hb, h1 => by
    simp only [RelL, loL, Bool.and_eq_true] at hb h1 ⊢
    obtain ⟨y0, ys, e, a1, a2⟩ := h1
    exact ⟨y0, ys, e, Rel.down h s hb.1 a1, RelL.down h ss hb.2 a2⟩
end
section
variable {ρ : Loc}
theorem RelL.nil : RelL ρ [] [] := by simp [RelL]
theorem RelL.cons {x : SV} {y : Value} {xs : List SV} {ys : List Value} (h : Rel ρ x y) (hs : RelL ρ xs ys) : RelL ρ (x :: xs) (y :: ys) := by
  simp only [RelL]; exact ⟨y, ys, rfl, h, hs⟩
theorem RelL.cons_inv {x : SV} {xs : List SV} {ys : List Value} (h : RelL ρ (x :: xs) ys) : ∃ y ys', ys = y :: ys' ∧ Rel ρ x y ∧ RelL ρ xs ys' := by simpa only [RelL] using h
theorem RelL.length {xs : List SV} {ys : List Value} (h : RelL ρ xs ys) : xs.length = ys.length := by
  induction xs generalizing ys with
  | nil => simp only [RelL] at h; simp [h]
  | cons x xs ih => obtain ⟨y, ys', rfl, _, h2⟩ := h.cons_inv; simp [ih h2]
theorem RelL.get {xs : List SV} {ys : List Value} (h : RelL ρ xs ys) {i : Nat} {x : SV} (hi : xs[i]? = some x) : ∃ y, ys[i]? = some y ∧ Rel ρ x y := by
  induction xs generalizing ys i with
  | nil => simp at hi
  | cons x0 xs ih =>
    obtain ⟨y, ys', rfl, h1, h2⟩ := h.cons_inv
    cases i with
    | zero => simp at hi; subst hi; exact ⟨y, by simp, h1⟩
    | succ i => simp at hi; simpa using ih h2 hi
theorem RelL.of_get : ∀ {xs : List SV} {ys : List Value}, xs.length = ys.length → (∀ (i : Nat) x y, xs[i]? = some x → ys[i]? = some y → Rel ρ x y) → RelL ρ xs ys
  | [], [], _, _ => .nil
  | [], _ :: _, h, _ => by simp at h
  | _ :: _, [], h, _ => by simp at h
  | x :: xs, y :: ys, h, g => .cons (g 0 x y (by simp) (by simp)) (RelL.of_get (by simpa using h) fun i x y hx hy => g (i + 1) x y (by simpa using hx) (by simpa using hy))
theorem RelL.getD {xs : List SV} {ys : List Value} (h : RelL ρ xs ys) (i : Nat) : Rel ρ (xs.getD i (.v undef)) (ys.getD i undef) := by
  by_cases hi : i < xs.length
  · obtain ⟨y, hy, hr⟩ := h.get (List.getElem?_eq_getElem hi)
    simp only [List.getD_eq_getElem?_getD, hy, List.getElem?_eq_getElem hi, Option.getD_some]; exact hr
  · have h1 : xs[i]? = none := by simp; omega
    have h2 : ys[i]? = none := by have := h.length; simp; omega
    simp [List.getD_eq_getElem?_getD, h1, h2, Rel]
theorem RelL.set {xs : List SV} {ys : List Value} (h : RelL ρ xs ys) {s : SV} {y : Value} (hs : Rel ρ s y) (i : Nat) : RelL ρ (xs.set i s) (ys.set i y) := by
  induction xs generalizing ys i with
  | nil => simp only [RelL] at h; subst h; simpa using RelL.nil
  | cons x0 xs ih =>
    obtain ⟨y0, ys', rfl, h1, h2⟩ := h.cons_inv
    cases i with
    | zero => exact .cons hs h2
    | succ i => exact .cons h1 (ih h2 i)
theorem RelL.append {xs xs' : List SV} {ys ys' : List Value} (h : RelL ρ xs ys) (h' : RelL ρ xs' ys') : RelL ρ (xs ++ xs') (ys ++ ys') := by
  induction xs generalizing ys with
  | nil => simp only [RelL] at h; subst h; exact h'
  | cons x0 xs ih => obtain ⟨y0, ys0, rfl, h1, h2⟩ := h.cons_inv; exact .cons h1 (ih h2)
theorem RelL.drop {xs : List SV} {ys : List Value} (h : RelL ρ xs ys) (n : Nat) : RelL ρ (xs.drop n) (ys.drop n) := by
  induction n generalizing xs ys with
  | zero => exact h
  | succ n ih => cases xs with
    | nil => simp only [RelL] at h; subst h; simpa using RelL.nil
    | cons x xs => obtain ⟨y0, ys0, rfl, h1, h2⟩ := h.cons_inv; exact ih h2
theorem RelL.take {xs : List SV} {ys : List Value} (h : RelL ρ xs ys) (n : Nat) : RelL ρ (xs.take n) (ys.take n) := by
  induction n generalizing xs ys with
  | zero => simpa using RelL.nil
  | succ n ih => cases xs with
    | nil => simp only [RelL] at h; subst h; simpa using RelL.nil
    | cons x xs => obtain ⟨y0, ys0, rfl, h1, h2⟩ := h.cons_inv; exact .cons h1 (ih h2)
theorem RelL.replicate {s : SV} {y : Value} (h : Rel ρ s y) (n : Nat) : RelL ρ (List.replicate n s) (List.replicate n y) := by
  induction n with
  | zero => simpa using RelL.nil
  | succ n ih => simpa [List.replicate_succ] using RelL.cons h ih
theorem RelL.map_v (ys : List Value) : RelL ρ (ys.map .v) ys := by
  induction ys with
  | nil => exact .nil
  | cons y ys ih => exact .cons (by simp [Rel]) ih
theorem RelL.of_map_v {xs ys : List Value} (h : RelL ρ (xs.map .v) ys) : ys = xs := by
  induction xs generalizing ys with
  | nil => simpa [RelL] using h
  | cons x xs ih => obtain ⟨y0, ys0, rfl, h1, h2⟩ := h.cons_inv; simp only [Rel] at h1; rw [h1, ih h2]
theorem RelL.mapAll {α : Type} {l : List α} {f : α → SV} {g : α → Value} (h : ∀ a, Rel ρ (f a) (g a)) : RelL ρ (l.map f) (l.map g) := by
  induction l with
  | nil => exact .nil
  | cons a l ih => exact .cons (h a) ih
end

theorem CK.rel {ρ : Loc} : ∀ (k : CK) (x : k.T), Rel ρ (k.toSV x) (k.toV x)
  | .bool, _ => by simp [CK.toSV, CK.toV, Rel]
  | .int _, _ => by simp [CK.toSV, CK.toV, Rel]
  | .str, _ => by simp [CK.toSV, CK.toV, Rel]
theorem row_rel {ρ : Loc} : ∀ (ks : List CK) (r : RowT ks), RelL ρ (rowSV ks r) (rowV ks r)
  | [], _ => .nil
  | k :: ks, r => .cons (k.rel r.1) (row_rel ks r.2)
theorem rowV_length : ∀ (ks : List CK) (r : RowT ks), (rowV ks r).length = ks.length
  | [], _ => rfl
  | k :: ks, r => by simp [rowV, rowV_length ks r.2]
theorem rowSV_length : ∀ (ks : List CK) (r : RowT ks), (rowSV ks r).length = ks.length
  | [], _ => rfl
  | k :: ks, r => by simp [rowSV, rowSV_length ks r.2]
theorem rowSV_lo : ∀ (ks : List CK) (r : RowT ks) (n j : Nat) (s : SV), (rowSV ks r)[j]? = some s → s.lo n = true
  | [], _, n, j, s, h => by simp [rowSV] at h
  | k :: ks, r, n, 0, s, h => by
    simp [rowSV] at h
    subst h
    cases k <;> rfl
  | k :: ks, r, n, j + 1, s, h => rowSV_lo ks r.2 n j s (by simpa [rowSV] using h)
/-! ## 2. The tree of what may come -/
inductive Ex where
  | normal
  | exit (id : Nat)
  | ret
def Ex.to : Ex → Exit
  | .normal => .normal
  | .exit i => .exit i
  | .ret => .ret
inductive Tr (α : Type) : Type 1 where
  | ok (a : α)
  | br (c : Bool) (t e : Tr α)
  | both (t e : Tr α)
  | need (p : Prop) (k : Tr α)
  | same (x y : List Blk) (k : Tr α)
  | all (X : Type) (p : X → Prop) (k : X → Tr α)
  | lp (P : Program) (b : Code) (st : St) (k : Ex → St → Tr α)
  | fail (why : Nat)

/-! ## 3. Worldless terms of the model, by evaluation -/
def val? (P : Program) {α : Type} : Sem α → Option α
  | .pure a => some a
  | .program k => val? P (k P)
  | _ => none
theorem run_of_val? {P : Program} {α : Type} : ∀ (s : Sem α) {a : α}, val? P s = some a → ∀ w, s.run P w = .ok a w
  | .pure x, a, h, w => by simp [val?] at h; subst h; rfl
  | .program k, a, h, w => by
    simp only [val?] at h
    exact run_of_val? (k P) h w
  | .load .., a, h, w => by simp [val?] at h
  | .store .., a, h, w => by simp [val?] at h
  | .new .., a, h, w => by simp [val?] at h
  | .shape .., a, h, w => by simp [val?] at h
  | .freeze .., a, h, w => by simp [val?] at h
  | .frozen .., a, h, w => by simp [val?] at h
  | .getObj .., a, h, w => by simp [val?] at h
  | .setObj .., a, h, w => by simp [val?] at h
  | .choose .., a, h, w => by simp [val?] at h
  | .sys .., a, h, w => by simp [val?] at h
  | .mark .., a, h, w => by simp [val?] at h
  | .halt .., a, h, w => by simp [val?] at h

/-! ## 4. What is known of the world -/
def CellOK (ρ : Loc) (w : World) (rw : Bool) (r : Place) (j : Nat) (s : SV) : Prop :=
  ∃ y, w.cell? ⟨r.1, r.2 + j, none⟩ = some y ∧ Rel ρ s y ∧ (rw = true → w.frozen? ⟨r.1, r.2 + j, none⟩ = false)
def rowsV (ks : List CK) (l : List (RowT ks)) : List Value := l.flatMap (rowV ks)
def RowsOK (w : World) (rw : Bool) (r : Place) (ks : List CK) (l : List (RowT ks)) : Prop :=
  ∀ k x, l[k]? = some x → ∀ j c, (rowV ks x)[j]? = some c → w.cell? ⟨r.1, r.2 + (k * ks.length + j), none⟩ = some c ∧ (rw = true → w.frozen? ⟨r.1, r.2 + (k * ks.length + j), none⟩ = false)
def RoomOK (w : World) (r : Place) (e : TypeId) (sz n : Nat) : Prop :=
  n ≤ r.cap ∧ r.cap ≤ maxLen ∧ (0 < r.cap → r.2 = 0 ∧ r.ptr = some ⟨r.1, 0, none⟩ ∧ ∃ cur, w.heap[r.1]? = some (.cells cur e (0, 0)) ∧ cur.size = r.cap * sz)
def BodyOK (ρ : Loc) (w : World) (rw : Bool) (r : Place) : Body → Prop
  | .lit cs => ∀ j s, cs[j]? = some s → CellOK ρ w rw r j s
  | .row n sz get => ∀ k, k < n → (get k).length = sz ∧ ∀ j s, (get k)[j]? = some s → s.lo 0 = true ∧ CellOK ρ w rw r (k * sz + j) s
  | .rows ks l => RowsOK w rw r ks l
  | .own e ks l => RowsOK w true r ks l ∧ RoomOK w r e ks.length l.length
  | .dead => True
def Body.live : Body → Bool
  | .dead => false
  | _ => true
/-- is there something of the world in it? -/
def Body.hold : Body → Place → Prop
  | .dead, _ => False
  | .rows _ l, _ => 0 < l.length
  | .own _ _ _, r => 0 < r.cap
  | _, _ => True
structure MemOK (ρ : Loc) (w0 : World) (X : Nat → Prop) (mem : List Blk) (w : World) : Prop where
  blk : ∀ i b, mem[i]? = some b → ∃ r, ρ i = some r ∧ BodyOK ρ w b.rw r b.body ∧ (b.body.hold r → r.1 < w.heap.size ∧ (b.rw = true → w0.heap.size ≤ r.1 ∨ X r.1))
  past : ∀ i, mem.length ≤ i → ρ i = none
  apart : ∀ i j bi bj ri rj, i ≠ j → mem[i]? = some bi → mem[j]? = some bj → bi.rw = true → ρ i = some ri → ρ j = some rj → bi.body.hold ri → bj.body.hold rj → ri.1 ≠ rj.1
/-- what is known of the blocks' contents alone -/
def MemB (ρ : Loc) (mem : List Blk) (w : World) : Prop := ∀ i b, mem[i]? = some b → ∃ r, ρ i = some r ∧ BodyOK ρ w b.rw r b.body
theorem MemOK.memB {ρ : Loc} {w0 : World} {X : Nat → Prop} {mem : List Blk} {w : World} (h : MemOK ρ w0 X mem w) : MemB ρ mem w := fun i b hi => let ⟨r, hr, hb, _⟩ := h.blk i b hi; ⟨r, hr, hb⟩
structure Frm (w0 : World) (X : Nat → Prop) (w : World) : Prop where
  os : w.os = w0.os
  tape : w.tape = w0.tape
  output : w.output = w0.output
  size : w0.heap.size ≤ w.heap.size
  block : ∀ k, k < w0.heap.size → ¬ X k → w.heap[k]? = w0.heap[k]?
structure Sim (ρ : Loc) (w0 : World) (X : Nat → Prop) (st : St) (a : Act) (w : World) : Prop where
  defers : a.defers = []
  tmps : RelL ρ st.tmps a.tmps.toList
  mem : MemOK ρ w0 X st.mem w
  frame : Frm w0 X w
section
variable {ρ : Loc} {w0 w w' : World} {X : Nat → Prop} {st : St} {a : Act}
theorem Frm.refl (w0 : World) (X : Nat → Prop) : Frm w0 X w0 := ⟨rfl, rfl, rfl, Nat.le_refl _, fun _ _ _ => rfl⟩
theorem RowsOK.of_block {rw : Bool} {r : Place} {ks : List CK} {l : List (RowT ks)} (h : RowsOK w rw r ks l) (hb : w'.heap[r.1]? = w.heap[r.1]?) : RowsOK w' rw r ks l := by
  intro k x hk j c hj
  obtain ⟨h1, h2⟩ := h k x hk j c hj
  exact ⟨by rw [World.cell?_of_block (w := w) hb]; exact h1, fun e => by rw [World.frozen?_of_block (w := w) hb]; exact h2 e⟩
theorem BodyOK.of_block {rw : Bool} {r : Place} {b : Body} (h : BodyOK ρ w rw r b) (hb : b.hold r → w'.heap[r.1]? = w.heap[r.1]?) : BodyOK ρ w' rw r b := by
  cases b with
  | lit cs =>
    have hb := hb trivial
    intro j s hj; obtain ⟨y, h1, h2, h3⟩ := h j s hj; exact ⟨y, by rw [World.cell?_of_block (w := w) hb]; exact h1, h2, fun e => by rw [World.frozen?_of_block (w := w) hb]; exact h3 e⟩
  | row n sz get =>
    have hb := hb trivial
    intro k hk; refine ⟨(h k hk).1, fun j s hj => ?_⟩
    obtain ⟨h0, y, h1, h2, h3⟩ := (h k hk).2 j s hj; exact ⟨h0, y, by rw [World.cell?_of_block (w := w) hb]; exact h1, h2, fun e => by rw [World.frozen?_of_block (w := w) hb]; exact h3 e⟩
  | rows ks l =>
    by_cases hl : 0 < l.length
    · exact RowsOK.of_block h (hb hl)
    · have hl0 : l = [] := List.eq_nil_of_length_eq_zero (by omega)
      subst hl0
      exact fun k x hk => by simp at hk
  | own e ks l =>
    obtain ⟨h1, h2, h3, h4⟩ := h
    by_cases hc : 0 < r.cap
    · have hb := hb hc
      refine ⟨h1.of_block hb, h2, h3, fun _ => ?_⟩
      rw [hb]; exact h4 hc
    · have hl : l = [] := List.eq_nil_of_length_eq_zero (by omega)
      subst hl
      exact ⟨fun k x hk => by simp at hk, h2, h3, fun h => absurd h hc⟩
  | dead => trivial
theorem BodyOK.mono {ρ' : Loc} {rw : Bool} {r : Place} {b : Body} (e : Ext ρ ρ') (h : BodyOK ρ w rw r b) : BodyOK ρ' w rw r b := by
  cases b with
  | lit cs => intro j s hj; obtain ⟨y, h1, h2, h3⟩ := h j s hj; exact ⟨y, h1, h2.mono e, h3⟩
  | row n sz get =>
    intro k hk; refine ⟨(h k hk).1, fun j s hj => ?_⟩
    obtain ⟨h0, y, h1, h2, h3⟩ := (h k hk).2 j s hj; exact ⟨h0, y, h1, h2.mono e, h3⟩
  | rows ks l => exact h
  | own e ks l => exact h
  | dead => trivial
theorem Act.put_toList (a : Act) (d : Tmp) (y : Value) : (a.put (some d) y).tmps.toList = a.tmps.toList.set d y := by simp [Act.put]
def St.put (st : St) (d : Option Tmp) (s : SV) : St :=
  match d with
  | some d => { st with tmps := st.tmps.set d s }
  | none => st
theorem Sim.put (S : Sim ρ w0 X st a w) {s : SV} {y : Value} (h : Rel ρ s y) (d : Option Tmp) : Sim ρ w0 X (st.put d s) (a.put d y) w := by
  cases d with
  | none => exact S
  | some d => exact ⟨S.defers, by rw [Act.put_toList]; exact S.tmps.set h d, S.mem, S.frame⟩
/-- the operand's symbolic value -/
def ofVal : Value → SV
  | .agg cs => .agg (cs.toList.map .v)
  | x => .v x
def ev (st : St) : Operand → SV
  | .tmp t => st.tmps.getD t (.v undef)
  | .const x => ofVal x
  | .global g => .v (.pointer (some ⟨g, 0, none⟩))
  | .func f => .fn f []
theorem ofVal_rel (x : Value) : Rel ρ (ofVal x) x := by
  cases x <;> first | (simp [ofVal, Rel]; done) | skip
  rename_i cs
  simp only [ofVal, Rel]
  exact ⟨cs.toList, RelL.map_v _, by simp⟩
theorem ev_rel (ht : RelL ρ st.tmps a.tmps.toList) (x : Operand) : Rel ρ (ev st x) (a.eval x) := by
  cases x with
  | tmp t =>
    have := ht.getD t
    simpa [Sx.ev, Act.eval, List.getD_eq_getElem?_getD, Array.getD_eq_getD_getElem?] using this
  | const x => exact ofVal_rel x
  | global g => simp [Sx.ev, Act.eval, Rel]
  | func f => simp only [Sx.ev, Act.eval, Rel]; exact ⟨[], .nil, rfl⟩
theorem Sim.ev (S : Sim ρ w0 X st a w) (x : Operand) : Rel ρ (ev st x) (a.eval x) := ev_rel S.tmps x
/-- what a value needs -/
structure SimB (ρ : Loc) (st : St) (a : Act) (w : World) : Prop where
  tmps : RelL ρ st.tmps a.tmps.toList
  mem : MemB ρ st.mem w
theorem SimB.ev (S : SimB ρ st a w) (x : Operand) : Rel ρ (Sx.ev st x) (a.eval x) := ev_rel S.tmps x
theorem Sim.toB (S : Sim ρ w0 X st a w) : SimB ρ st a w := ⟨S.tmps, S.mem.memB⟩
end

/-! ### what holds of a tree -/
/-- the words on a loop are true: it ends in one of these ways -/
def LoopSum (P : Program) (b : Code) (st : St) (Y : Type) (p : Y → Prop) (out : Y → Ex × St) : Prop :=
  ∀ (ρ : Loc) (w0 : World) (X : Nat → Prop) (a : Act) (w : World) (Q : Exit → Act → World → Prop), Sim ρ w0 X st a w →
    (∀ y, p y → ∀ ρ' a' w', Ext ρ ρ' → Sim ρ' w0 X (out y).2 a' w' → Q (out y).1.to a' w') → (Code.loop b).wp P Q a w
def Tr.holds {α : Type} (Q : α → Prop) : Tr α → Prop
  | .ok a => Q a
  | .br c t e => (c = true → t.holds Q) ∧ (c = false → e.holds Q)
  | .both t e => t.holds Q ∧ e.holds Q
  | .need p k => p ∧ (p → k.holds Q)
  | .same x y k => x = y ∧ (x = y → k.holds Q)
  | .all X p k => ∀ x : X, p x → (k x).holds Q
  | .lp P b st k => ∃ (Y : Type) (p : Y → Prop) (out : Y → Ex × St), LoopSum P b st Y p out ∧ ∀ y, p y → (k (out y).1 (out y).2).holds Q
  | .fail _ => False
def Tr.bind {α β : Type} : Tr β → (β → Tr α) → Tr α
  | .ok a, f => f a
  | .br c t e, f => .br c (t.bind f) (e.bind f)
  | .both t e, f => .both (t.bind f) (e.bind f)
  | .need p k, f => .need p (k.bind f)
  | .same x y k, f => .same x y (k.bind f)
  | .all X p k, f => .all X p fun x => (k x).bind f
  | .lp P b st k, f => .lp P b st fun e st => (k e st).bind f
  | .fail n, _ => .fail n
theorem Tr.holds_bind {α β : Type} {Q : α → Prop} : ∀ (t : Tr β) (f : β → Tr α), (t.bind f).holds Q ↔ t.holds fun b => (f b).holds Q
  | .ok a, f => Iff.rfl
  | .br c t e, f => by simp only [Tr.bind, Tr.holds, Tr.holds_bind t f, Tr.holds_bind e f]
  | .both t e, f => by simp only [Tr.bind, Tr.holds, Tr.holds_bind t f, Tr.holds_bind e f]
  | .need p k, f => by simp only [Tr.bind, Tr.holds, Tr.holds_bind k f]
  | .same x y k, f => by simp only [Tr.bind, Tr.holds, Tr.holds_bind k f]
  | .all X p k, f => by
    simp only [Tr.bind, Tr.holds]
    exact forall_congr' fun x => forall_congr' fun _ => Tr.holds_bind (k x) f
  | .lp P b st k, f => by
    simp only [Tr.bind, Tr.holds]
    constructor
    · rintro ⟨Y, p, out, h1, h2⟩; exact ⟨Y, p, out, h1, fun y hy => (Tr.holds_bind (k _ _) f).1 (h2 y hy)⟩
    · rintro ⟨Y, p, out, h1, h2⟩; exact ⟨Y, p, out, h1, fun y hy => (Tr.holds_bind (k _ _) f).2 (h2 y hy)⟩
  | .fail n, f => Iff.rfl
theorem Tr.holds.mono {α : Type} {Q Q' : α → Prop} (hq : ∀ a, Q a → Q' a) : ∀ (t : Tr α), t.holds Q → t.holds Q'
  | .ok a, h => hq a h
  | .br c t e, h => ⟨fun hc => Tr.holds.mono hq t (h.1 hc), fun hc => Tr.holds.mono hq e (h.2 hc)⟩
  | .both t e, h => ⟨Tr.holds.mono hq t h.1, Tr.holds.mono hq e h.2⟩
  | .need p k, h => ⟨h.1, fun hp => Tr.holds.mono hq k (h.2 hp)⟩
  | .same x y k, h => ⟨h.1, fun hp => Tr.holds.mono hq k (h.2 hp)⟩
  | .all X p k, h => fun x hx => Tr.holds.mono hq (k x) (h x hx)
  | .lp P b st k, ⟨Y, p, out, h1, h2⟩ => ⟨Y, p, out, h1, fun y hy => Tr.holds.mono hq (k _ _) (h2 y hy)⟩
  | .fail n, h => h


/-! ## 5. Memory: a new block, a load, a store -/
section
variable {ρ : Loc} {w0 w w' : World} {X : Nat → Prop} {st : St} {a : Act} {P : Program}
def ext (ρ : Loc) (i : Nat) (r : Place) : Loc := fun j => if j = i then some r else ρ j
theorem ext_ext {ρ : Loc} {i : Nat} (h : ρ i = none) (r : Place) : Ext ρ (ext ρ i r) := by
  intro b r' hb
  unfold ext
  split
  · rename_i e; subst e; rw [h] at hb; cases hb
  · exact hb
theorem ext_at (ρ : Loc) (i : Nat) (r : Place) : ext ρ i r i = some r := by simp [ext]
theorem cell_alloc (w : World) (o : Obj) {b : Nat} (hb : b < w.heap.size) (j : Nat) : (w.alloc o).cell? ⟨b, j, none⟩ = w.cell? ⟨b, j, none⟩ := World.cell?_alloc_lt w o _ hb
theorem frozen_alloc (w : World) (o : Obj) {b : Nat} (hb : b < w.heap.size) (j : Nat) : (w.alloc o).frozen? ⟨b, j, none⟩ = w.frozen? ⟨b, j, none⟩ := World.frozen?_alloc_old w o _ (by simp; omega)
theorem Frm.alloc (h : Frm w0 X w) (o : Obj) : Frm w0 X (w.alloc o) :=
  ⟨h.os, h.tape, h.output, by simp; have := h.size; omega, fun k hk hx => by
    rw [← h.block k hk hx]
    show (w.heap.push o)[k]? = _
    rw [Array.getElem?_push, if_neg (by have := h.size; omega)]⟩
/-- a later world, the old blocks as they were -/
theorem MemOK.later {mem : List Blk} (h : MemOK ρ w0 X mem w) (ho : ∀ k, k < w.heap.size → w'.heap[k]? = w.heap[k]?) (hsz : w.heap.size ≤ w'.heap.size) : MemOK ρ w0 X mem w' := by
  refine ⟨fun i b hi => ?_, h.past, h.apart⟩
  obtain ⟨r, hr, hb, hx⟩ := h.blk i b hi
  exact ⟨r, hr, hb.of_block fun hh => ho _ (hx hh).1, fun hh => ⟨Nat.lt_of_lt_of_le (hx hh).1 hsz, (hx hh).2⟩⟩
/-- one more block -/
theorem MemOK.push {mem : List Blk} (h : MemOK ρ w0 X mem w) {r : Place} {body : Body} (hbody : BodyOK (ext ρ mem.length r) w true r body)
    (hh : body.hold r → r.1 < w.heap.size ∧ (w0.heap.size ≤ r.1 ∨ X r.1) ∧ ∀ j bj rj, mem[j]? = some bj → ρ j = some rj → bj.body.hold rj → rj.1 ≠ r.1) :
    MemOK (ext ρ mem.length r) w0 X (mem ++ [⟨true, body⟩]) w := by
  have he : Ext ρ (ext ρ mem.length r) := ext_ext (h.past _ (Nat.le_refl _)) _
  have old : ∀ (k : Nat) bk rk, mem[k]? = some bk → ext ρ mem.length r k = some rk → ρ k = some rk := by
    intro k bk rk hk hrk
    obtain ⟨r0, hr0, _⟩ := h.blk k bk hk
    have := he _ _ hr0
    rw [this] at hrk; cases hrk; exact hr0
  refine ⟨fun i b hi => ?_, fun i hi => ?_, fun i j bi bj ri rj hij hbi hbj hrw hri hrj hli hlj => ?_⟩
  · by_cases hlt : i < mem.length
    · rw [List.getElem?_append_left hlt] at hi
      obtain ⟨r0, hr0, hb, hx⟩ := h.blk i b hi
      exact ⟨r0, he _ _ hr0, hb.mono he, hx⟩
    · have hil : i = mem.length := by
        have := (List.getElem?_eq_some_iff.1 hi).1
        simp at this; omega
      subst hil
      simp at hi
      subst hi
      exact ⟨_, ext_at _ _ _, hbody, fun k => ⟨(hh k).1, fun _ => (hh k).2.1⟩⟩
  · simp at hi
    unfold ext
    rw [if_neg (by omega)]
    exact h.past i (by omega)
  · by_cases hi : i < mem.length
    · rw [List.getElem?_append_left hi] at hbi
      by_cases hj : j < mem.length
      · rw [List.getElem?_append_left hj] at hbj
        exact h.apart i j bi bj ri rj hij hbi hbj hrw (old _ _ _ hbi hri) (old _ _ _ hbj hrj) hli hlj
      · have : j = mem.length := by have := (List.getElem?_eq_some_iff.1 hbj).1; simp at this; omega
        subst this
        rw [ext_at] at hrj; cases hrj
        simp at hbj; subst hbj
        exact (hh hlj).2.2 i bi ri hbi (old _ _ _ hbi hri) hli
    · have : i = mem.length := by have := (List.getElem?_eq_some_iff.1 hbi).1; simp at this; omega
      subst this
      rw [ext_at] at hri; cases hri
      simp at hbi; subst hbi
      have hj : j < mem.length := by have := (List.getElem?_eq_some_iff.1 hbj).1; simp at this; omega
      rw [List.getElem?_append_left hj] at hbj
      exact fun e => (hh hli).2.2 j bj rj hbj (old _ _ _ hbj hrj) hlj e.symm
/-- a block is written, or is looked at as another one -/
theorem MemOK.upd {mem : List Blk} (h : MemOK ρ w0 X mem w) {b : Nat} {body : Body} (hb : mem[b]? = some ⟨true, body⟩) {r : Place} (hr : ρ b = some r) (hoth : ∀ k, (body.hold r → k ≠ r.1) → w'.heap[k]? = w.heap[k]?) (hsz : w'.heap.size = w.heap.size) {body' : Body} (hh : body'.hold r → body.hold r)
    (hbody : BodyOK ρ w' true r body') : MemOK ρ w0 X (mem.set b ⟨true, body'⟩) w' := by
  have hbl : b < mem.length := (List.getElem?_eq_some_iff.1 hb).1
  obtain ⟨r', hr', hok, hx⟩ := h.blk b _ hb
  rw [hr] at hr'; cases hr'
  have get : ∀ (k : Nat) bk, (mem.set b ⟨true, body'⟩)[k]? = some bk → ∃ bk', mem[k]? = some bk' ∧ bk'.rw = bk.rw ∧ ∀ rk, ρ k = some rk → bk.body.hold rk → bk'.body.hold rk := by
    intro k bk hk
    by_cases hkb : k = b
    · subst hkb; simp [hbl] at hk; subst hk; exact ⟨_, hb, rfl, fun rk hrk hk => by rw [hr] at hrk; cases hrk; exact hh hk⟩
    · rw [List.getElem?_set_ne (Ne.symm hkb)] at hk; exact ⟨bk, hk, rfl, fun _ _ h => h⟩
  refine ⟨fun i bi hi => ?_, fun i hi => h.past i (by simpa using hi), fun i k bi bk ri rk hik hbi hbk hrw hri hrk hli hlk => ?_⟩
  · by_cases hib : i = b
    · subst hib
      simp [hbl] at hi
      subst hi
      exact ⟨r, hr, hbody, fun k => ⟨by rw [hsz]; exact (hx (hh k)).1, (hx (hh k)).2⟩⟩
    · rw [List.getElem?_set_ne (Ne.symm hib)] at hi
      obtain ⟨ri, hri, hbi, hxi⟩ := h.blk i bi hi
      refine ⟨ri, hri, hbi.of_block fun hk => hoth _ fun hbh => ?_, fun hk => ⟨by rw [hsz]; exact (hxi hk).1, (hxi hk).2⟩⟩
      exact fun e => h.apart b i _ bi r ri (Ne.symm hib) hb hi rfl hr hri hbh hk e.symm
  · obtain ⟨bi', h1i, h2i, h3i⟩ := get i bi hbi
    obtain ⟨bk', h1k, h2k, h3k⟩ := get k bk hbk
    exact h.apart i k bi' bk' ri rk hik h1i h1k (h2i.trans hrw) hri hrk (h3i _ hri hli) (h3k _ hrk hlk)
/-- a block is forgotten -/
theorem MemOK.kill {mem : List Blk} (h : MemOK ρ w0 X mem w) (b : Nat) : MemOK ρ w0 X (mem.set b ⟨true, .dead⟩) w := by
  have get : ∀ (k : Nat) bk, (mem.set b ⟨true, .dead⟩)[k]? = some bk → k ≠ b ∧ mem[k]? = some bk ∨ bk = ⟨true, .dead⟩ ∧ ∃ bk', mem[k]? = some bk' := by
    intro k bk hk
    by_cases hkb : k = b
    · subst hkb
      have hl := (List.getElem?_eq_some_iff.1 hk).1
      simp at hl
      simp [hl] at hk; subst hk
      exact .inr ⟨rfl, _, List.getElem?_eq_getElem hl⟩
    · rw [List.getElem?_set_ne (Ne.symm hkb)] at hk; exact .inl ⟨hkb, hk⟩
  refine ⟨fun i bi hi => ?_, fun i hi => h.past i (by simpa using hi), fun i k bi bk ri rk hik hbi hbk hrw hri hrk hli hlk => ?_⟩
  · rcases get i bi hi with ⟨_, h1⟩ | ⟨rfl, bk', h1⟩
    · exact h.blk i bi h1
    · obtain ⟨r, hr, _⟩ := h.blk i _ h1
      exact ⟨r, hr, trivial, fun hk => hk.elim⟩
  · rcases get i bi hbi with ⟨_, h1⟩ | ⟨rfl, _⟩
    · rcases get k bk hbk with ⟨_, h2⟩ | ⟨rfl, _⟩
      · exact h.apart i k bi bk ri rk hik h1 h2 hrw hri hrk hli hlk
      · exact hlk.elim
    · exact hli.elim
/-- a new block of cells, tracked -/
theorem MemOK.alloc {mem : List Blk} (h : MemOK ρ w0 X mem w) (hw0 : w0.heap.size ≤ w.heap.size) {cs : List SV} {ys : List Value} (hc : RelL ρ cs ys) (e : TypeId) :
    MemOK (ext ρ mem.length ⟨w.heap.size, 0, none, 0⟩) w0 X (mem ++ [⟨true, .lit cs⟩]) (w.alloc (.cells ys.toArray e)) := by
  have he : Ext ρ (ext ρ mem.length ⟨w.heap.size, 0, none, 0⟩) := ext_ext (h.past _ (Nat.le_refl _)) _
  refine (h.later (w' := w.alloc (.cells ys.toArray e)) (fun k hk => by show (w.heap.push _)[k]? = _; rw [Array.getElem?_push, if_neg (by omega)]) (by simp)).push (fun j s hj => ?_) fun _ => ⟨by simp, .inl hw0, fun j bj rj hj hrj hh e => ?_⟩
  · obtain ⟨y, hy, hr⟩ := hc.get hj
    refine ⟨y, ?_, hr.mono he, fun _ => ?_⟩
    · simp only [Nat.zero_add]; rw [World.cell?_alloc_at _ _ _ _ rfl]; simpa using hy
    · simp only [Nat.zero_add]; exact World.frozen?_alloc_at _ _ _ _ rfl
  · obtain ⟨r, hr, _, hx⟩ := h.blk j bj hj
    rw [hrj] at hr; cases hr
    have := (hx hh).1
    simp only at e
    omega
theorem Sim.alloc (S : Sim ρ w0 X st a w) {cs : List SV} {ys : List Value} (hc : RelL ρ cs ys) (e : TypeId) :
    Ext ρ (ext ρ st.mem.length ⟨w.heap.size, 0, none, 0⟩) ∧ Sim (ext ρ st.mem.length ⟨w.heap.size, 0, none, 0⟩) w0 X { st with mem := st.mem ++ [⟨true, .lit cs⟩] } a (w.alloc (.cells ys.toArray e)) ∧
      Rel (ext ρ st.mem.length ⟨w.heap.size, 0, none, 0⟩) (.ptr st.mem.length 0) (.pointer (some ⟨w.heap.size, 0, none⟩)) := by
  have he : Ext ρ (ext ρ st.mem.length ⟨w.heap.size, 0, none, 0⟩) := ext_ext (S.mem.past _ (Nat.le_refl _)) _
  refine ⟨he, ⟨S.defers, S.tmps.mono he, S.mem.alloc S.frame.size hc e, S.frame.alloc _⟩, ?_⟩
  simp only [Rel]
  exact ⟨_, ext_at _ _ _, rfl⟩
/-- a world in which one tracked block was written -/
theorem Frm.upd {mem : List Blk} (h : Frm w0 X w) (hm : MemOK ρ w0 X mem w) {b : Nat} {body : Body} (hb : mem[b]? = some ⟨true, body⟩) {r : Place} (hr : ρ b = some r) (hh : body.hold r) (hos : w'.os = w.os) (htape : w'.tape = w.tape) (hout : w'.output = w.output) (hsz : w'.heap.size = w.heap.size) (hoth : ∀ k, k ≠ r.1 → w'.heap[k]? = w.heap[k]?) : Frm w0 X w' := by
  refine ⟨hos.trans h.os, htape.trans h.tape, hout.trans h.output, by rw [hsz]; exact h.size, fun k hk hx => ?_⟩
  obtain ⟨r', hr', _, hxx⟩ := hm.blk b _ hb
  rw [hr] at hr'; cases hr'
  rw [hoth k fun e => ?_]
  · exact h.block k hk hx
  · rcases (hxx hh).2 rfl with h | h
    · omega
    · exact hx (e ▸ h)

theorem addr_add (b o n : Nat) : (⟨b, o, none⟩ : Addr).add n = ⟨b, o + n, none⟩ := by
  unfold Addr.add
  split
  · rename_i h; subst h; rfl
  · rfl
def SV.one : SV → Bool
  | .v x => x.oneCell'
  | .agg _ | .tup _ | .any => false
  | _ => true
theorem Rel.one {s : SV} {y : Value} (h : Rel ρ s y) (h1 : s.one = true) : y.oneCell' = true := by
  cases s <;> simp only [SV.one, Rel] at h h1 <;> first | (subst h; exact h1) | (obtain ⟨_, _, rfl⟩ := h; rfl) | (obtain ⟨_, _, rfl, _⟩ := h; rfl) | (cases h1)
/-- one cell of a tracked block is written -/
theorem Sim.set1 (S : Sim ρ w0 X st a w) {b : Nat} {cs : List SV} (hb : st.mem[b]? = some ⟨true, .lit cs⟩) {r : Place} (hr : ρ b = some r) {j : Nat} (hj : j < cs.length) {s : SV} {y : Value} (hs : Rel ρ s y) (h1 : s.one = true) :
    (store ⟨r.1, r.2 + j, none⟩ y).run P w = .ok () (w.setCell ⟨r.1, r.2 + j, none⟩ y) ∧
      Sim ρ w0 X { st with mem := st.mem.set b ⟨true, .lit (cs.set j s)⟩ } a (w.setCell ⟨r.1, r.2 + j, none⟩ y) := by
  obtain ⟨r', hr', hbody, hx⟩ := S.mem.blk b _ hb
  rw [hr] at hr'; cases hr'
  obtain ⟨y0, hc0, _, hf0⟩ := hbody j _ (List.getElem?_eq_getElem hj)
  have hfz := hf0 rfl
  have hoth : ∀ k, k ≠ r.1 → (w.setCell ⟨r.1, r.2 + j, none⟩ y).heap[k]? = w.heap[k]? := fun k hk => by
    simp only [World.setCell, Array.getElem?_modify]
    rw [if_neg (fun e => hk e.symm)]
  constructor
  · rw [run_store P w _ y _ (hs.one h1), hc0]
    simp [hfz]
  · refine ⟨S.defers, S.tmps, S.mem.upd hb hr (fun k hk => hoth k (hk trivial)) (by simp) (fun _ => trivial) (fun j' s' hj' => ?_), S.frame.upd S.mem hb hr trivial rfl rfl rfl (by simp) hoth⟩
    by_cases hjj : j = j'
    · subst hjj
      simp [hj] at hj'
      subst hj'
      exact ⟨y, World.cell?_setCell_same _ _ _ hc0, hs, fun _ => by rw [World.frozen?_setCell]; exact hfz⟩
    · rw [List.getElem?_set_ne hjj] at hj'
      obtain ⟨y', h1', h2', h3'⟩ := hbody j' s' hj'
      exact ⟨y', by rw [World.cell?_setCell_other _ _ _ _ (by simp only [ne_eq, Addr.mk.injEq, not_and]; omega)]; exact h1', h2', fun e => by rw [World.frozen?_setCell]; exact h3' e⟩
/-- several cells, one behind the other -/
def setRange : List SV → Nat → List SV → List SV
  | cs, _, [] => cs
  | cs, j, s :: ss => setRange (cs.set j s) (j + 1) ss
theorem setRange_length : ∀ (ss cs : List SV) (j : Nat), (setRange cs j ss).length = cs.length
  | [], cs, j => rfl
  | s :: ss, cs, j => by simp [setRange, setRange_length ss]
theorem Sim.setAll : ∀ (ss : List SV) (ys : List Value) {st : St} {w : World} (S : Sim ρ w0 X st a w) {b : Nat} {cs : List SV} (hb : st.mem[b]? = some ⟨true, .lit cs⟩) {r : Place} (hr : ρ b = some r) {j i : Nat} {o : Nat} (ho : o + i = r.2 + j) (hj : j + ss.length ≤ cs.length) (hs : RelL ρ ss ys) (h1 : ss.all SV.one = true),
    ∃ w', (storeCells ⟨r.1, o, none⟩ ys i).run P w = .ok () w' ∧ Sim ρ w0 X { st with mem := st.mem.set b ⟨true, .lit (setRange cs j ss)⟩ } a w'
  | [], ys, st, w, S, b, cs, hb, r, hr, j, i, o, ho, hj, hs, h1 => by
    simp only [RelL] at hs; subst hs
    refine ⟨w, rfl, ?_⟩
    have : st.mem.set b ⟨true, .lit (setRange cs j [])⟩ = st.mem := by
      simp only [setRange]
      apply List.ext_getElem?
      intro k
      by_cases hk : b = k
      · subst hk; have hbl : b < st.mem.length := (List.getElem?_eq_some_iff.1 hb).1; rw [List.getElem?_set_self hbl, hb]
      · rw [List.getElem?_set_ne hk]
    rw [this]; exact S
  | s :: ss, ys, st, w, S, b, cs, hb, r, hr, j, i, o, ho, hj, hs, h1 => by
    obtain ⟨y, ys', rfl, hsy, hss⟩ := hs.cons_inv
    simp only [List.length_cons] at hj
    simp only [List.all_cons, Bool.and_eq_true] at h1
    obtain ⟨hrun, S'⟩ := S.set1 (P := P) hb hr (j := j) (by omega) hsy h1.1
    have hbl : b < st.mem.length := (List.getElem?_eq_some_iff.1 hb).1
    obtain ⟨w', hrun', S''⟩ := Sim.setAll ss ys' S' (b := b) (cs := cs.set j s) (by simp [hbl]) hr (j := j + 1) (i := i + 1) (o := o) (by omega) (by simp; omega) hss h1.2
    refine ⟨w', ?_, ?_⟩
    · simp only [storeCells, Sem.run_bind, addr_add, ho, hrun, Result.andThen_ok]
      exact hrun'
    · simpa [setRange] using S''

/-- the type's size; whether it is a struct or an array -/
def sizeT (P : Program) (t : TypeId) : Option Nat := (P.info? t).map (·.size)
def aggT (P : Program) (t : TypeId) : Option Bool := (P.underlying t).map fun d => match d with | .struct _ | .array _ _ => true | _ => false
theorem run_size {t : TypeId} {n : Nat} (h : sizeT P t = some n) (w : World) : (sizeOf t).run P w = .ok n w := by
  unfold sizeT at h
  cases hi : P.info? t with
  | none => rw [hi] at h; cases h
  | some i => rw [hi] at h; simp at h; subst h; simp [sizeOf, typeInfo, hi]
theorem run_agg {t : TypeId} {b : Bool} (h : aggT P t = some b) (w : World) : (isAgg t).run P w = .ok b w := by
  unfold aggT at h
  cases hi : P.underlying t with
  | none => rw [hi] at h; cases h
  | some d =>
    rw [hi] at h
    simp at h
    subst h
    simp only [isAgg, Sem.run_bind, run_underlying hi, Result.andThen_ok]
    cases d <;> rfl
/-- the cells of a symbolic value -/
def SV.cells : SV → List SV
  | .agg cs => cs
  | s => [s]
theorem Rel.cells {s : SV} {y : Value} (h : Rel ρ s y) (hv : ∀ x, s = .v x → x.cells = #[x]) (ha : s ≠ .any) : RelL ρ s.cells y.cells.toList := by
  cases s with
  | v x => simp only [Rel] at h; subst h; rw [hv _ rfl]; simpa [SV.cells] using RelL.cons (ρ := ρ) (x := .v y) (y := y) (by simp [Rel]) .nil
  | agg cs => simp only [Rel] at h; obtain ⟨ys, h, rfl⟩ := h; simpa [SV.cells, Value.cells] using h
  | any => exact absurd rfl ha
  | oslc b sz k n => have h' := h; simp only [Rel] at h; obtain ⟨_, _, rfl, _⟩ := h; simpa [SV.cells, Value.cells] using RelL.cons h' .nil
  | _ => simp only [Rel] at h; have h' := h; obtain ⟨_, _, rfl⟩ := h; simpa [SV.cells, Value.cells] using RelL.cons (ρ := ρ) (by simpa only [Rel] using h') .nil
end

/-! ## 6. The value of an operation that leaves memory alone -/
def rep (ks : List CK) : Nat → List CK
  | 0 => []
  | n + 1 => ks ++ rep ks n
def flatFields (P : Program) (fk : TypeId → Option (List CK)) : List Field → Nat → Option (List CK)
  | [], _ => some []
  | f :: fs, off =>
    if f.offset = off then
      match fk f.type with
      | some ks => if ks.length = P.cellsOf f.type then (flatFields P fk fs (off + ks.length)).map (ks ++ ·) else none
      | none => none
    else none
def flatK (P : Program) : Nat → TypeId → Option (List CK)
  | 0, _ => none
  | d + 1, t =>
    match P.underlying t with
    | some .bool => some [.bool]
    | some (.int k) => some [.int k]
    | some .string => some [.str]
    | some (.struct fs) => match flatFields P (flatK P d) fs.toList 0 with
      | some ks => if ks.length = P.cellsOf t then some ks else none
      | none => none
    | some (.array n e) => match flatK P d e with
      | some ks => if ks.length = P.cellsOf e ∧ n * ks.length = P.cellsOf t then some (rep ks n) else none
      | none => none
    | _ => none
def nadd : Nat → Nat → Nat
  | 0, n => n
  | m + 1, n => m + 1 + n
theorem nadd_eq (m n : Nat) : nadd m n = m + n := by cases m <;> simp [nadd]

def SV.plain : SV → Bool
  | .v x => match x with
    | .agg _ => false
    | _ => true
  | .any => false
  | _ => true
theorem SV.plain_v {s : SV} (h : s.plain = true) : ∀ x, s = .v x → x.cells = #[x] := by
  rintro x rfl
  cases x <;> simp_all [SV.plain, Value.cells]
theorem SV.plain_any {s : SV} (h : s.plain = true) : s ≠ .any := by rintro rfl; simp [SV.plain] at h
def zcells (z : Value) : List SV := z.cells.toList.map .v
def loadAtSV (P : Program) (mem : List Blk) (t : TypeId) : SV → Option SV
  | .ptr b off =>
    match mem[b]? with
    | some ⟨_, .lit cs⟩ =>
      match aggT P t with
      | some true =>
        match sizeT P t with
        | some n => if off + n ≤ cs.length then some (.agg ((cs.drop off).take n)) else none
        | none => none
      | some false => cs[off]?
      | none => none
    | _ => none
  | _ => none
def fillSV (place : Nat → Option (Nat × Nat)) (cells : List SV) : List (Nat × SV) → Option (List SV)
  | [] => some cells
  | (i, s) :: rest =>
    match place i with
    | none => none
    | some (off, size) => if s.plain = true ∧ s.cells.length = size ∧ off + s.cells.length ≤ cells.length then fillSV place (setRange cells off s.cells) rest else none
def buildSV (P : Program) (t : TypeId) (parts : List (Nat × SV)) : Option SV :=
  match val? P (zeroValue t) with
  | none => none
  | some z =>
    match P.underlying t with
    | some (.struct fields) =>
      match val? P (fields.mapM fun f => do pure (f.offset, ← sizeOf f.type) : Sem (Array (Nat × Nat))) with
      | some places => (fillSV (places[·]?) (zcells z) parts).map .agg
      | none => none
    | some (.array _ e) =>
      match sizeT P e with
      | some size => (fillSV (fun i => some (i * size, size)) (zcells z) parts).map .agg
      | none => none
    | _ => none
def partSV (P : Program) (t : TypeId) (cs : List SV) (off : Nat) : Option SV :=
  match aggT P t with
  | some true => match sizeT P t with
    | some n => some (.agg ((cs.drop off).take n))
    | none => none
  | some false => cs[off]?
  | none => none
def fieldOf (P : Program) (t : TypeId) (f : Nat) : Option Field :=
  match P.underlying t with
  | some (.struct fs) => fs[f]?
  | _ => none
def fieldAddrSV (P : Program) (t : TypeId) (s : SV) (f : Nat) : Option SV :=
  match fieldOf P t f with
  | none => none
  | some fl =>
    match sizeT P fl.type with
    | some (_ + 1) =>
      match s with
      | .ptr b off => some (.ptr b (off + fl.offset))
      | .eptr b sz k j => some (.eptr b sz k (j + fl.offset))
      | _ => none
    | _ => none
def isNilPtr : Value → Bool
  | .pointer none => true
  | _ => false
def isNilSlc : Value → Bool
  | .slice none _ _ => true
  | _ => false
def isNilFn : Value → Bool
  | .nilFunc => true
  | _ => false
/-- is it known not to be nil, of what kind? 1 a pointer, 2 a slice, 3 a function -/
def SV.kindNN : SV → Nat
  | .ptr .. | .eptr .. => 1
  | .slc .. | .eslc .. => 2
  | .fn .. => 3
  | _ => 0
def nilCmp (P : Program) (t : TypeId) (s : SV) (x : Value) : Bool :=
  match s.kindNN, P.underlying t with
  | 1, some (.pointer _) => isNilPtr x
  | 2, some (.slice _) => isNilSlc x
  | 3, some (.func ..) => isNilFn x
  | _, _ => false
def boolOp : BinOp → Option Bool
  | .eql => some false
  | .neq => some true
  | _ => none
def eqFieldsSV (P : Program) (eq : TypeId → SV → SV → Option Bool) (xs ys : List SV) : List Field → Option Bool
  | [] => some true
  | f :: fs =>
    if f.name ≠ "_" then
      match partSV P f.type xs f.offset, partSV P f.type ys f.offset with
      | some a, some b => match eq f.type a b, eqFieldsSV P eq xs ys fs with
        | some r, some r' => some (r && r')
        | _, _ => none
      | _, _ => none
    else eqFieldsSV P eq xs ys fs
def eqElemsSV (P : Program) (eq : TypeId → SV → SV → Option Bool) (e : TypeId) (sz : Nat) (xs ys : List SV) : Nat → Nat → Option Bool
  | 0, _ => some true
  | n + 1, i =>
    match partSV P e xs (i * sz), partSV P e ys (i * sz) with
    | some a, some b => match eq e a b, eqElemsSV P eq e sz xs ys n (i + 1) with
      | some r, some r' => some (r && r')
      | _, _ => none
    | _, _ => none
/-- '==' of two values of a type -/
def eqSV (P : Program) : Nat → TypeId → SV → SV → Option Bool
  | 0, _, _, _ => none
  | d + 1, t, x, y =>
    match P.underlying t, x, y with
    | some .bool, .v (.bool a), .v (.bool b) => some (a == b)
    | some (.int _), .v (.int k a), .v (.int k' b) => if k = k' then some (a == b) else none
    | some .string, .v (.string a), .v (.string b) => some (a == b)
    | some (.struct fs), .agg xs, .agg ys => if P.stoodInHeld t = false then eqFieldsSV P (eqSV P d) xs ys fs.toList else none
    | some (.array n e), .agg xs, .agg ys => match sizeT P e with
      | some sz => eqElemsSV P (eqSV P d) e sz xs ys n 0
      | none => none
    | _, _, _ => none
def eqAggSV (P : Program) (op : BinOp) (t : TypeId) (xs ys : List SV) : Option SV :=
  if P.eqGuardType P.depth t = false then
    match eqSV P 10000 t (.agg xs) (.agg ys), op with
    | some r, .eql => some (.v (.bool r))
    | some r, .neq => some (.v (.bool (!r)))
    | _, _ => none
  else none
def binSV (P : Program) (op : BinOp) (t : TypeId) (ox oy : Operand) : SV → SV → Option SV
  | .v a, .v b => (val? P (do eqGuard op t ox oy a b; binOp op t a b)).map .v
  | s, .v x => if nilCmp P t s x = true then (boolOp op).map fun b => .v (.bool b) else none
  | .v x, s => if nilCmp P t s x = true then (boolOp op).map fun b => .v (.bool b) else none
  | .agg xs, .agg ys => eqAggSV P op t xs ys
  | _, _ => none
def nilChecked : SV → Option SV
  | .ptr b o => some (.ptr b o)
  | .eptr b sz k j => some (.eptr b sz k j)
  | .fn f c => some (.fn f c)
  | _ => none
def asV : SV → Option Value
  | .v x => some x
  | _ => none
def allV : List SV → Option (List Value)
  | [] => some []
  | .v x :: r => (allV r).map (x :: ·)
  | _ :: _ => none
def lenSV (P : Program) (t : TypeId) : SV → Option SV
  | .slc _ _ n _ | .eslc _ _ _ n _ | .oslc _ _ _ n => match P.underlying t with
    | some (.slice _) => some (.v (.int .i64 n))
    | _ => none
  | .agg _ => match P.underlying t with
    | some (.array n _) => some (.v (.int .i64 n))
    | _ => none
  | _ => none
def builtinSV (P : Program) (b : Builtin) (argTypes : Array TypeId) (type : TypeId) (consts : Array Bool) (args : List SV) : Option SV :=
  match allV args with
  | some xs =>
    match b with
    | .len | .max | .min => match val? P (Go.builtin b argTypes type consts xs.toArray) with
      | some (.value v) => some (.v v)
      | _ => none
    | _ => none
  | none =>
    match b, args with
    | .len, [s] => match argTypes[0]? with
      | some t => lenSV P t s
      | none => none
    | _, _ => none
def stepVal (P : Program) (st : St) (o : Oper) : Option SV :=
  match o.op with
  | .move x | .assign x => some (ev st x)
  | .build t parts => buildSV P t (parts.toList.map fun p => (p.1, ev st p.2))
  | .nilCheck x => nilChecked (ev st x)
  | .binOp op t x y _ => binSV P op t x y (ev st x) (ev st y)
  | .unOp op _ x => match ev st x with
    | .v a => (val? P (Op.unary op a)).map .v
    | _ => none
  | .convert s d x => match ev st x with
    | .v a => (val? P (convert s d a)).map .v
    | _ => none
  | .makeFunc fn first caps => match fn, first.toList with
    | .func f, [] => some (.fn f (caps.toList.map (ev st)))
    | _, _ => none
  | .fieldAddr t x f => fieldAddrSV P t (ev st x) f
  | .field t x f => match ev st x, fieldOf P t f with
    | .agg cs, some fl => partSV P fl.type cs fl.offset
    | _, _ => none
  | .extract x i => match ev st x with
    | .tup vs => vs[i]?
    | _ => none
  | .call c => match c.callee with
    | .builtin b => builtinSV P b c.argTypes o.type (c.args.map fun | .const _ => true | _ => false) (c.args.toList.map (ev st))
    | _ => none
  | _ => none

section
variable {ρ : Loc} {w0 w w' : World} {X : Nat → Prop} {st : St} {a : Act} {P : Program}
theorem load_cells (r : Place) (off : Nat) : ∀ (ss : List SV) (i : Nat), (∀ j s, ss[j]? = some s → ∃ y, w.cell? ⟨r.1, r.2 + off + (i + j), none⟩ = some y ∧ Rel ρ s y) →
    ∃ ys, RelL ρ ss ys ∧ ∀ (j : Nat) v, ys[j]? = some v → w.cell? ((⟨r.1, r.2 + off, none⟩ : Addr).add (i + j)) = some v
  | [], i, _ => ⟨[], .nil, by simp⟩
  | s :: ss, i, h => by
    obtain ⟨y, hy, hr⟩ := h 0 s (by simp)
    obtain ⟨ys, h1, h2⟩ := load_cells r off ss (i + 1) (fun j s hj => by
      have := h (j + 1) s (by simpa using hj)
      rwa [show i + 1 + j = i + (j + 1) by omega])
    refine ⟨y :: ys, .cons hr h1, fun j v hj => ?_⟩
    cases j with
    | zero => simp at hj; subst hj; rw [addr_add]; simpa using hy
    | succ j => simp at hj; have := h2 j v hj; rwa [show i + 1 + j = i + (j + 1) by omega] at this
theorem loadAt_sound {mem : List Blk} (hm : MemB ρ mem w) {t : TypeId} {s s' : SV} {y : Value} (hs : Rel ρ s y) (h : loadAtSV P mem t s = some s') :
    ∃ y', (Instr.loadAt t y).run P w = .ok y' w ∧ Rel ρ s' y' := by
  cases s with
  | ptr b off =>
    simp only [loadAtSV] at h
    simp only [Rel] at hs
    obtain ⟨r, hr, rfl⟩ := hs
    split at h
    · rename_i rw cs hb
      obtain ⟨r', hr', hbody⟩ := hm b _ hb
      rw [hr] at hr'; cases hr'
      have hbody : ∀ j s, cs[j]? = some s → CellOK ρ w rw r j s := hbody
      split at h
      · rename_i ha
        split at h
        · rename_i n hn
          split at h
          · rename_i hle
            cases h
            obtain ⟨ys, h1, h2⟩ := load_cells (ρ := ρ) (w := w) r off ((cs.drop off).take n) 0 (fun j s hj => by
              have hj' : cs[off + j]? = some s := by
                rw [List.getElem?_take] at hj
                split at hj
                · rwa [List.getElem?_drop] at hj
                · cases hj
              obtain ⟨y, hy, hr, _⟩ := hbody _ _ hj'
              exact ⟨y, by rw [Nat.zero_add, Nat.add_assoc]; exact hy, hr⟩)
            have hlen : ys.length = n := by rw [← h1.length]; simp; omega
            refine ⟨.agg ys.toArray, ?_, by simp only [Rel]; exact ⟨ys, h1, rfl⟩⟩
            have hl := run_loadCells_list (P := P) w ⟨r.1, r.2 + off, none⟩ ys (fun j v hj => by simpa using h2 j v hj)
            rw [hlen] at hl
            simp only [Instr.loadAt, Instr.sureAddr, Sem.run_bind, Sem.run_pure, Result.andThen_ok, loadVar, run_agg ha, if_true, run_size hn, hl]
          · cases h
        · cases h
      · rename_i ha
        obtain ⟨y, hy, hr2, _⟩ := hbody _ _ h
        refine ⟨y, ?_, hr2⟩
        simp only [Instr.loadAt, Instr.sureAddr, Sem.run_bind, Sem.run_pure, Result.andThen_ok, loadVar, run_agg ha, Bool.false_eq_true, if_false, run_load, hy]
      · cases h
    · cases h
  | _ => simp [loadAtSV] at h
theorem setRange_rel : ∀ (ss : List SV) (ys : List Value) {cs : List SV} {zs : List Value} (j : Nat), RelL ρ cs zs → RelL ρ ss ys → RelL ρ (setRange cs j ss) ((ys.zipIdx).foldl (fun cs p => cs.set (j + p.2) p.1) zs) := by
  have key : ∀ (ss : List SV) (ys : List Value) (cs : List SV) (zs : List Value) (j i : Nat), RelL ρ cs zs → RelL ρ ss ys → RelL ρ (setRange cs (j + i) ss) ((ys.zipIdx i).foldl (fun cs p => cs.set (j + p.2) p.1) zs) := by
    intro ss
    induction ss with
    | nil => intro ys cs zs j i h hs; simp only [RelL] at hs; subst hs; simpa [setRange] using h
    | cons s ss ih =>
      intro ys cs zs j i h hs
      obtain ⟨y, ys', rfl, h1, h2⟩ := hs.cons_inv
      simp only [setRange, List.zipIdx_cons, List.foldl_cons]
      rw [Nat.add_assoc]
      exact ih ys' _ _ j (i + 1) (h.set h1 (j + i)) h2
  intro ss ys cs zs j h hs
  simpa using key ss ys cs zs j 0 h hs
theorem fill_arr (off : Nat) (v cells : Array Value) : (v.zipIdx.foldl (fun cs (c, j) => cs.setIfInBounds (off + j) c) cells).toList = (v.toList.zipIdx).foldl (fun cs p => cs.set (off + p.2) p.1) cells.toList := by
  rw [← Array.foldl_toList, Array.toList_zipIdx]
  generalize v.toList.zipIdx = l
  induction l generalizing cells with
  | nil => rfl
  | cons p l ih => simp only [List.foldl_cons]; rw [ih]; simp
theorem fill_sound (place : Nat → Option (Nat × Nat)) : ∀ (parts : List (Nat × SV)) (vs : List (Nat × Value)) (cells : List SV) (zs : Array Value) (out : List SV),
    parts.map (·.1) = vs.map (·.1) → RelL ρ (parts.map (·.2)) (vs.map (·.2)) → RelL ρ cells zs.toList → fillSV place cells parts = some out →
    ∃ ys, Instr.fill place zs vs = some ys ∧ RelL ρ out ys.toList
  | [], vs, cells, zs, out, hi, _, hc, h => by
    simp at hi; subst hi
    simp [fillSV] at h; subst h
    exact ⟨zs, rfl, hc⟩
  | (i, s) :: parts, [], cells, zs, out, hi, _, _, _ => by simp at hi
  | (i, s) :: parts, (i', v) :: vs, cells, zs, out, hi, hr, hc, h => by
    simp only [List.map_cons, List.cons.injEq] at hi
    obtain ⟨rfl, hi⟩ := hi
    obtain ⟨y, ys', e, h1, h2⟩ := hr.cons_inv
    simp only [List.map_cons, List.cons.injEq] at e
    obtain ⟨rfl, rfl⟩ := e
    simp only [fillSV] at h
    split at h
    · cases h
    · rename_i off size hp
      split at h
      · rename_i hcond
        obtain ⟨hp1, hsz, hle⟩ := hcond
        have hcell := h1.cells (SV.plain_v hp1) (SV.plain_any hp1)
        have hl := hcell.length
        have hl2 := hc.length
        obtain ⟨ys, h3, h4⟩ := fill_sound place parts vs (setRange cells off s.cells) (v.cells.zipIdx.foldl (fun cs (c, j) => cs.setIfInBounds (off + j) c) zs) out hi h2 (by rw [fill_arr]; exact setRange_rel _ _ off hc hcell) h
        refine ⟨ys, ?_, h4⟩
        simp only [Instr.fill, hp]
        rw [if_neg]
        · exact h3
        · simp only [Array.length_toList] at hl hl2
          simp only [bne_iff_ne, ne_eq, Bool.or_eq_true, decide_eq_true_eq, not_or]
          omega
      · cases h
theorem parts_map (S : RelL ρ st.tmps a.tmps.toList) (ps : List (Nat × Operand)) : RelL ρ ((ps.map fun p => (p.1, ev st p.2)).map (·.2)) ((ps.map fun p => (p.1, a.eval p.2)).map (·.2)) := by
  rw [List.map_map, List.map_map]
  exact RelL.mapAll fun p => ev_rel S p.2
theorem build_sound {t : TypeId} {parts : List (Nat × SV)} {vs : Array (Nat × Value)} {s : SV} (hi : parts.map (·.1) = vs.toList.map (·.1)) (hr : RelL ρ (parts.map (·.2)) (vs.toList.map (·.2))) (h : buildSV P t parts = some s) :
    ∃ y, (∀ w, (Instr.build t vs).run P w = .ok y w) ∧ Rel ρ s y := by
  unfold buildSV at h
  split at h
  · cases h
  · rename_i z hz
    split at h
    · rename_i fields hu
      split at h
      · rename_i places hp
        obtain ⟨out, ho, rfl⟩ := Option.map_eq_some_iff.1 h
        obtain ⟨ys, h1, h2⟩ := fill_sound _ parts vs.toList (zcells z) z.cells out hi hr (RelL.map_v _) ho
        refine ⟨.agg ys, fun w => ?_, by simp only [Rel]; exact ⟨ys.toList, h2, by simp⟩⟩
        have hpl := run_of_val? _ hp w
        simp only [Instr.build, Sem.run_bind, run_of_val? _ hz, Result.andThen_ok, run_underlying hu] at hpl ⊢
        rw [hpl]
        simp only [Result.andThen_ok, h1, Sem.run_pure]
      · cases h
    · rename_i n e hu
      split at h
      · rename_i size hsz
        obtain ⟨out, ho, rfl⟩ := Option.map_eq_some_iff.1 h
        obtain ⟨ys, h1, h2⟩ := fill_sound _ parts vs.toList (zcells z) z.cells out hi hr (RelL.map_v _) ho
        refine ⟨.agg ys, fun w => ?_, by simp only [Rel]; exact ⟨ys.toList, h2, by simp⟩⟩
        simp only [Instr.build, Sem.run_bind, run_of_val? _ hz, Result.andThen_ok, run_underlying hu, run_size hsz, h1, Sem.run_pure]
      · cases h
    · cases h
theorem part_sound {t : TypeId} {cs : List SV} {ys : List Value} {off : Nat} {s : SV} (hc : RelL ρ cs ys) (h : partSV P t cs off = some s) :
    ∃ y, (∀ w, (part t ys.toArray off).run P w = .ok y w) ∧ Rel ρ s y := by
  unfold partSV at h
  split at h
  · rename_i ha
    split at h
    · rename_i n hn
      cases h
      refine ⟨.agg ((ys.drop off).take n).toArray, fun w => ?_, by simp only [Rel]; exact ⟨_, (hc.drop off).take n, rfl⟩⟩
      simp only [part, Sem.run_bind, run_agg ha, Result.andThen_ok, if_true, run_size hn, Sem.run_pure]
      congr 2
      apply Array.ext'
      simp [List.extract_eq_take_drop]
    · cases h
  · rename_i ha
    obtain ⟨y, hy, hr⟩ := hc.get h
    refine ⟨y, fun w => ?_, hr⟩
    have : ys.toArray[off]? = some y := by simpa using hy
    simp only [part, Sem.run_bind, run_agg ha, Result.andThen_ok, Bool.false_eq_true, if_false, this, Sem.run_pure]
  · cases h
end
section
variable {ρ : Loc} {w0 w w' : World} {X : Nat → Prop} {st : St} {a : Act} {P : Program}
theorem fieldOf_spec {t : TypeId} {f : Nat} {fl : Field} (h : fieldOf P t f = some fl) : ∃ fs, P.underlying t = some (.struct fs) ∧ fs[f]? = some fl := by
  unfold fieldOf at h
  split at h
  · rename_i fs hu; exact ⟨fs, hu, h⟩
  · cases h
theorem fieldAddr_sound {t : TypeId} {s s' : SV} {f : Nat} {y : Value} (hs : Rel ρ s y) (h : fieldAddrSV P t s f = some s') :
    ∃ y', (∀ w, (Instr.fieldAt t y f).run P w = .ok y' w) ∧ Rel ρ s' y' := by
  unfold fieldAddrSV at h
  split at h
  · cases h
  · rename_i fl hf
    obtain ⟨fs, hu, hfl⟩ := fieldOf_spec hf
    split at h
    · rename_i n hsz
      have hrun : ∀ (r : Place) (o : Nat) (w : World), (Instr.fieldAt t (.pointer (some ⟨r.1, o, none⟩)) f).run P w = .ok (.pointer (some ⟨r.1, o + fl.offset, none⟩)) w := by
        intro r o w
        simp only [Instr.fieldAt, Sem.run_bind, run_underlying hu, Result.andThen_ok, hfl, Instr.sureAddr, Sem.run_pure, fieldPlace, run_size hsz, addr_add]
        simp [Sem.run_pure]
      cases s <;> simp only [Rel] at h hs <;> first | cases h | skip
      · obtain ⟨r, hr, rfl⟩ := hs
        exact ⟨_, hrun r _, by simp only [Rel]; exact ⟨r, hr, by rw [Nat.add_assoc]⟩⟩
      · obtain ⟨r, hr, rfl⟩ := hs
        exact ⟨_, hrun r _, by simp only [Rel]; exact ⟨r, hr, by simp only [Nat.add_assoc]⟩⟩
    · cases h
theorem nilChecked_sound {s s' : SV} {y : Value} (hs : Rel ρ s y) (h : nilChecked s = some s') :
    s' = s ∧ ((∃ p, y = .pointer (some p)) ∨ (∃ f fs cs, y = .func (.func f) fs cs)) := by
  cases s <;> simp only [nilChecked, Rel] at h hs <;> first | cases h | skip
  · obtain ⟨r, _, rfl⟩ := hs; exact ⟨rfl, .inl ⟨_, rfl⟩⟩
  · obtain ⟨r, _, rfl⟩ := hs; exact ⟨rfl, .inl ⟨_, rfl⟩⟩
  · obtain ⟨r, _, rfl⟩ := hs; exact ⟨rfl, .inr ⟨_, _, _, rfl⟩⟩
theorem isNilPtr_spec : ∀ {x : Value}, isNilPtr x = true → x = .pointer none
  | .pointer none, _ => rfl
theorem isNilSlc_spec : ∀ {x : Value}, isNilSlc x = true → ∃ l c, x = .slice none l c
  | .slice none l c, _ => ⟨l, c, rfl⟩
theorem isNilFn_spec : ∀ {x : Value}, isNilFn x = true → x = .nilFunc
  | .nilFunc, _ => rfl
def NilPair : Value → Value → Prop
  | .pointer (some _), .pointer none => True
  | .slice (some _) _ _, .slice none _ _ => True
  | .func .., .nilFunc => True
  | _, _ => False
theorem eq_nil_ptr (d : Nat) {t e : TypeId} (hu : P.underlying t = some (.pointer e)) (p : Addr) (w : World) :
    (Op.equalIn (d + 1) t (.pointer (some p)) (.pointer none)).run P w = .ok false w ∧ (Op.equalIn (d + 1) t (.pointer none) (.pointer (some p))).run P w = .ok false w := by
  constructor <;> simp [Op.equalIn, run_underlying hu]
theorem eq_nil_slc (d : Nat) {t e : TypeId} (hu : P.underlying t = some (.slice e)) (p : Addr) (n m l c : Nat) (w : World) :
    (Op.equalIn (d + 1) t (.slice (some p) n m) (.slice none l c)).run P w = .ok false w ∧ (Op.equalIn (d + 1) t (.slice none l c) (.slice (some p) n m)).run P w = .ok false w := by
  constructor <;> simp [Op.equalIn, run_underlying hu]
theorem eq_nil_nil (d : Nat) {t e : TypeId} (hu : P.underlying t = some (.slice e)) (n m l c : Nat) (w : World) : (Op.equalIn (d + 1) t (.slice none n m) (.slice none l c)).run P w = .ok true w := by simp [Op.equalIn, run_underlying hu]
theorem eq_nil_fn (d : Nat) {t : TypeId} {ps rs : Array TypeId} {v : Bool} (hu : P.underlying t = some (.func ps rs v)) (f : Fn) (x y : Array Value) (w : World) :
    (Op.equalIn (d + 1) t (.func f x y) .nilFunc).run P w = .ok false w ∧ (Op.equalIn (d + 1) t .nilFunc (.func f x y)).run P w = .ok false w := by
  constructor <;> simp [Op.equalIn, run_underlying hu]
theorem nilCmp_sound {t : TypeId} {s : SV} {x y : Value} (hs : Rel ρ s y) (h : nilCmp P t s x = true) (w : World) :
    (Op.equal t y x).run P w = .ok false w ∧ (Op.equal t x y).run P w = .ok false w ∧ NilPair y x := by
  unfold Op.equal Op.maxDepth
  unfold nilCmp at h
  split at h
  · rename_i e hk hu
    have hx := isNilPtr_spec h
    subst hx
    cases s <;> simp only [SV.kindNN, Rel] at hk hs <;> try cases hk
    all_goals
      obtain ⟨r, _, rfl⟩ := hs
      obtain ⟨h1, h2⟩ := eq_nil_ptr 9999 hu ⟨r.1, _, none⟩ w
      exact ⟨h1, h2, trivial⟩
  · rename_i e hk hu
    obtain ⟨l, c, rfl⟩ := isNilSlc_spec h
    cases s <;> simp only [SV.kindNN, Rel] at hk hs <;> try cases hk
    all_goals
      obtain ⟨r, _, rfl⟩ := hs
      obtain ⟨h1, h2⟩ := eq_nil_slc 9999 hu ⟨r.1, _, none⟩ _ _ l c w
      exact ⟨h1, h2, trivial⟩
  · rename_i hk hu
    have hx := isNilFn_spec h
    subst hx
    cases s <;> simp only [SV.kindNN, Rel] at hk hs <;> try cases hk
    obtain ⟨r, _, rfl⟩ := hs
    obtain ⟨h1, h2⟩ := eq_nil_fn 9999 hu _ _ _ w
    exact ⟨h1, h2, trivial⟩
  · cases h
theorem bin_nil {t : TypeId} {ox oy : Operand} {y x : Value} {b : Bool} {op : BinOp} (hb : boolOp op = some b) (hm : NilPair y x) (he : (Op.equal t y x).run P w = .ok false w) :
    (do eqGuard op t ox oy y x; binOp op t y x : Sem Value).run P w = .ok (.bool b) w := by
  have hop : (op = .eql ∧ b = false) ∨ (op = .neq ∧ b = true) := by
    cases op <;> simp_all [boolOp]
  match y, x, hm with
  | .pointer (some _), .pointer none, _ => rcases hop with ⟨rfl, rfl⟩ | ⟨rfl, rfl⟩ <;> simp [eqGuard, binOp, he]
  | .slice (some _) _ _, .slice none _ _, _ => rcases hop with ⟨rfl, rfl⟩ | ⟨rfl, rfl⟩ <;> simp [eqGuard, binOp, he]
  | .func _ _ _, .nilFunc, _ => rcases hop with ⟨rfl, rfl⟩ | ⟨rfl, rfl⟩ <;> simp [eqGuard, binOp, he]
theorem bin_nil' {t : TypeId} {ox oy : Operand} {y x : Value} {b : Bool} {op : BinOp} (hb : boolOp op = some b) (hm : NilPair y x) (he : (Op.equal t x y).run P w = .ok false w) :
    (do eqGuard op t ox oy x y; binOp op t x y : Sem Value).run P w = .ok (.bool b) w := by
  have hop : (op = .eql ∧ b = false) ∨ (op = .neq ∧ b = true) := by
    cases op <;> simp_all [boolOp]
  match y, x, hm with
  | .pointer (some _), .pointer none, _ => rcases hop with ⟨rfl, rfl⟩ | ⟨rfl, rfl⟩ <;> simp [eqGuard, binOp, he]
  | .slice (some _) _ _, .slice none _ _, _ => rcases hop with ⟨rfl, rfl⟩ | ⟨rfl, rfl⟩ <;> simp [eqGuard, binOp, he]
  | .func _ _ _, .nilFunc, _ => rcases hop with ⟨rfl, rfl⟩ | ⟨rfl, rfl⟩ <;> simp [eqGuard, binOp, he]
theorem eqFields_sound {d : Nat} {xs ys : List SV} {us vs : List Value} (hx : RelL ρ xs us) (hy : RelL ρ ys vs)
    (ih : ∀ {t : TypeId} {x y : SV} {u v : Value} {b : Bool}, Rel ρ x u → Rel ρ y v → eqSV P d t x y = some b → ∀ w, (Op.equalIn d t u v).run P w = .ok b w) :
    ∀ (fs : List Field) {b : Bool}, eqFieldsSV P (eqSV P d) xs ys fs = some b → ∀ w, (Op.eqFields d us.toArray vs.toArray fs).run P w = .ok b w
  | [], b, h, w => by simp [eqFieldsSV] at h; subst h; rfl
  | f :: fs, b, h, w => by
    unfold eqFieldsSV at h
    unfold Op.eqFields
    split at h
    · rename_i hn
      rw [if_pos hn]
      split at h
      · rename_i a c ha hc
        split at h
        · rename_i r r' hr hr'
          cases h
          obtain ⟨u, hu, hru⟩ := part_sound hx ha
          obtain ⟨v, hv, hrv⟩ := part_sound hy hc
          simp only [Sem.run_bind, hu, hv, Result.andThen_ok, ih hru hrv hr]
          cases r
          · simp [Sem.run_pure]
          · simpa using eqFields_sound hx hy ih fs hr' w
        · cases h
      · cases h
    · rename_i hn
      rw [if_neg hn]
      exact eqFields_sound hx hy ih fs h w
theorem eqElems_sound {d : Nat} {e : TypeId} {sz : Nat} {xs ys : List SV} {us vs : List Value} (hx : RelL ρ xs us) (hy : RelL ρ ys vs)
    (ih : ∀ {t : TypeId} {x y : SV} {u v : Value} {b : Bool}, Rel ρ x u → Rel ρ y v → eqSV P d t x y = some b → ∀ w, (Op.equalIn d t u v).run P w = .ok b w) :
    ∀ (n i : Nat) {b : Bool}, eqElemsSV P (eqSV P d) e sz xs ys n i = some b → ∀ w,
      ((do let r ← forIn (m := Sem) (List.range' i n) ((none, ()) : Option Bool × Unit) (fun i _ => do
              if (!(← Op.equalIn d e (← part e us.toArray (i * sz)) (← part e vs.toArray (i * sz)))) = true then pure (ForInStep.done (some false, ())) else pure (ForInStep.yield (none, ())))
           match r.1 with
           | some b => pure b
           | none => pure true) : Sem Bool).run P w = .ok b w
  | 0, i, b, h, w => by simp [eqElemsSV] at h; subst h; rfl
  | n + 1, i, b, h, w => by
    unfold eqElemsSV at h
    split at h
    · rename_i a c ha hc
      split at h
      · rename_i r r' hr hr'
        cases h
        obtain ⟨u, hu, hru⟩ := part_sound hx ha
        obtain ⟨v, hv, hrv⟩ := part_sound hy hc
        have ihn := eqElems_sound hx hy ih n (i + 1) hr' w
        simp only [List.range'_succ, List.forIn_cons, Sem.run_bind, hu, hv, Result.andThen_ok, ih hru hrv hr] at ihn ⊢
        cases r
        · simp [Sem.run_pure]
        · simp only [Bool.not_true, Bool.false_eq_true, if_false, Sem.run_pure, Result.andThen_ok, Bool.true_and]
          exact ihn
      · cases h
    · cases h
theorem eqSV_sound : ∀ (d : Nat) {t : TypeId} {x y : SV} {u v : Value} {b : Bool}, Rel ρ x u → Rel ρ y v → eqSV P d t x y = some b → ∀ w, (Op.equalIn d t u v).run P w = .ok b w
  | 0, t, x, y, u, v, b, _, _, h, w => by simp [eqSV] at h
  | d + 1, t, x, y, u, v, b, hx, hy, h, w => by
    unfold eqSV at h
    split at h
    · rename_i a c hu; simp only [Rel] at hx hy; subst hx; subst hy; cases h; simp [Op.equalIn, run_underlying hu]
    · rename_i k' k a k2 c hu
      simp only [Rel] at hx hy; subst hx; subst hy
      split at h
      · rename_i hk; subst hk; cases h; simp [Op.equalIn, run_underlying hu]
      · cases h
    · rename_i a c hu; simp only [Rel] at hx hy; subst hx; subst hy; cases h; simp [Op.equalIn, run_underlying hu]
    · rename_i fs xs ys hu
      split at h
      · rename_i hp
        simp only [Rel] at hx hy
        obtain ⟨us, hus, rfl⟩ := hx
        obtain ⟨vs, hvs, rfl⟩ := hy
        have hf : P.fieldsOf t = fs := by simp [Program.fieldsOf, hu]
        rw [run_equalIn_struct w d t _ _ (by rw [hf]; exact hu) hp, hf]
        exact eqFields_sound hus hvs (fun h1 h2 h3 => eqSV_sound d h1 h2 h3) _ h w
      · cases h
    · rename_i n e xs ys hu
      split at h
      · rename_i sz hsz
        simp only [Rel] at hx hy
        obtain ⟨us, hus, rfl⟩ := hx
        obtain ⟨vs, hvs, rfl⟩ := hy
        have := eqElems_sound hus hvs (fun h1 h2 h3 => eqSV_sound d h1 h2 h3) n 0 h w
        simp only [Op.equalIn, Sem.run_bind, run_underlying hu, Result.andThen_ok, run_size hsz, Std.Legacy.Range.forIn_eq_forIn_range', Std.Legacy.Range.size, Nat.sub_zero, Nat.add_sub_cancel, Nat.div_one] at this ⊢
        rw [← this]
        congr 1
        funext q w'
        obtain ⟨o, _⟩ := q
        cases o <;> rfl
      · cases h
    · cases h
theorem eqAgg_sound {op : BinOp} {t : TypeId} {ox oy : Operand} {xs ys : List SV} {s : SV} {y1 y2 : Value} (h1 : Rel ρ (.agg xs) y1) (h2 : Rel ρ (.agg ys) y2) (h : eqAggSV P op t xs ys = some s) (w : World) :
    ∃ y, (∀ w, (do eqGuard op t ox oy y1 y2; binOp op t y1 y2 : Sem Value).run P w = .ok y w) ∧ Rel ρ s y := by
  unfold eqAggSV at h
  split at h
  · rename_i hg
    have h1' := h1
    have h2' := h2
    simp only [Rel] at h1' h2'
    obtain ⟨us, _, rfl⟩ := h1'
    obtain ⟨vs, _, rfl⟩ := h2'
    split at h
    · rename_i r hr
      cases h
      refine ⟨.bool r, fun w => ?_, by simp [Rel]⟩
      simp only [Sem.run_bind, run_eqGuard_agg w _ t ox oy _ _ hg, Result.andThen_ok, run_eql_struct, eqSV_sound _ h1 h2 hr]
    · rename_i r hr
      cases h
      refine ⟨.bool (!r), fun w => ?_, by simp [Rel]⟩
      simp only [Sem.run_bind, run_eqGuard_agg w _ t ox oy _ _ hg, Result.andThen_ok, run_neq_struct, eqSV_sound _ h1 h2 hr]
    · cases h
  · cases h
theorem bin_sound {op : BinOp} {t : TypeId} {ox oy : Operand} {s1 s2 s : SV} {y1 y2 : Value} (h1 : Rel ρ s1 y1) (h2 : Rel ρ s2 y2) (h : binSV P op t ox oy s1 s2 = some s) :
    ∃ y, (∀ w, (do eqGuard op t ox oy y1 y2; binOp op t y1 y2 : Sem Value).run P w = .ok y w) ∧ Rel ρ s y := by
  unfold binSV at h
  split at h
  · simp only [Rel] at h1 h2
    subst h1; subst h2
    obtain ⟨v, hv, rfl⟩ := Option.map_eq_some_iff.1 h
    exact ⟨v, run_of_val? _ hv, by simp [Rel]⟩
  · split at h
    · rename_i hn
      simp only [Rel] at h2
      subst h2
      obtain ⟨b, hb, rfl⟩ := Option.map_eq_some_iff.1 h
      refine ⟨.bool b, fun w => ?_, by simp [Rel]⟩
      obtain ⟨he, _, hm⟩ := nilCmp_sound h1 hn w
      exact bin_nil hb hm he
    · cases h
  · split at h
    · rename_i hn
      simp only [Rel] at h1
      subst h1
      obtain ⟨b, hb, rfl⟩ := Option.map_eq_some_iff.1 h
      refine ⟨.bool b, fun w => ?_, by simp [Rel]⟩
      obtain ⟨_, he, hm⟩ := nilCmp_sound h2 hn w
      exact bin_nil' hb hm he
    · cases h
  · exact eqAgg_sound h1 h2 h default
  · cases h
theorem allV_sound : ∀ {ss : List SV} {ys : List Value} {xs : List Value}, RelL ρ ss ys → allV ss = some xs → ys = xs
  | [], ys, xs, h, e => by simp [allV] at e; simp only [RelL] at h; simp [h, ← e]
  | s :: ss, ys, xs, h, e => by
    obtain ⟨y, ys', rfl, h1, h2⟩ := h.cons_inv
    cases s <;> simp only [allV] at e <;> first | cases e | skip
    obtain ⟨zs, hz, rfl⟩ := Option.map_eq_some_iff.1 e
    simp only [Rel] at h1
    rw [h1, allV_sound h2 hz]
theorem len_sound {t : TypeId} {type : TypeId} {ts : Array TypeId} (ht : ts[0]? = some t) {s s' : SV} {y : Value} (hs : Rel ρ s y) (h : lenSV P t s = some s') :
    ∃ y', (∀ w, (Builtin.len_ ts type #[y]).run P w = .ok y' w) ∧ Rel ρ s' y' := by
  have key : ∀ (n : Nat), (∀ w, (Builtin.len_ ts type #[y]).run P w = .ok (goInt n) w) → s' = .v (.int .i64 n) → ∃ y', (∀ w, (Builtin.len_ ts type #[y]).run P w = .ok y' w) ∧ Rel ρ s' y' := by
    rintro n h1 rfl
    exact ⟨_, h1, by simp [Rel, goInt]⟩
  cases s <;> simp only [lenSV, Rel] at h hs <;> first | cases h | skip
  · split at h
    · rename_i e hu
      cases h
      obtain ⟨r, _, rfl⟩ := hs
      exact key _ (fun w => by simp [Builtin.len_, ht, run_underlying hu]) rfl
    · cases h
  · split at h
    · rename_i e hu
      cases h
      obtain ⟨r, _, rfl⟩ := hs
      exact key _ (fun w => by simp [Builtin.len_, ht, run_underlying hu]) rfl
    · cases h
  · split at h
    · rename_i e hu
      cases h
      obtain ⟨r, _, rfl, _⟩ := hs
      exact key _ (fun w => by simp [Builtin.len_, ht, run_underlying hu]) rfl
    · cases h
  · split at h
    · rename_i e hu
      cases h
      obtain ⟨r, _, rfl⟩ := hs
      exact key _ (fun w => by simp [Builtin.len_, ht, run_underlying hu]) rfl
    · cases h
theorem builtin_sound {b : Builtin} {ts : Array TypeId} {type : TypeId} {consts : Array Bool} {ss : List SV} {ys : List Value} {s : SV} (hs : RelL ρ ss ys) (h : builtinSV P b ts type consts ss = some s) :
    ∃ y, (∀ w, (Go.builtin b ts type consts ys.toArray).run P w = .ok (.value y) w) ∧ Rel ρ s y := by
  unfold builtinSV at h
  split at h
  · rename_i xs hx
    have hxs := allV_sound hs hx
    subst hxs
    split at h <;> first | cases h | skip
    all_goals
      split at h
      · rename_i v hv
        cases h
        exact ⟨v, run_of_val? _ hv, by simp [Rel]⟩
      · cases h
  · split at h
    · rename_i s0
      split at h
      · rename_i t ht
        obtain ⟨y0, ys', rfl, h1, h2⟩ := hs.cons_inv
        simp only [RelL] at h2; subst h2
        obtain ⟨y', hy, hr⟩ := len_sound (type := type) ht h1 h
        exact ⟨y', fun w => by simp [Go.builtin, hy], hr⟩
      · cases h
    · cases h
theorem map_ev (S : RelL ρ st.tmps a.tmps.toList) (xs : Array Operand) : RelL ρ (xs.toList.map (Sx.ev st)) (xs.map a.eval).toList := by
  rw [Array.toList_map]
  exact RelL.mapAll fun x => ev_rel S x
theorem stepVal_sound (S : RelL ρ st.tmps a.tmps.toList) {o : Oper} {s : SV} (h : stepVal P st o = some s) :
    ∃ y, (∀ w, (execOp a.eval o).run P w = .ok (.value y) w) ∧ Rel ρ s y := by
  unfold stepVal at h
  split at h
  · rename_i x ho; cases h; exact ⟨_, fun w => by simp [execOp, ho], ev_rel S x⟩
  · rename_i x ho; cases h; exact ⟨_, fun w => by simp [execOp, ho], ev_rel S x⟩
  · rename_i t parts ho
    obtain ⟨y, hy, hr⟩ := build_sound (ρ := ρ) (vs := parts.map fun p => (p.1, a.eval p.2)) (by simp) (by simpa using parts_map S parts.toList) h
    exact ⟨y, fun w => by simp [execOp, ho, hy], hr⟩
  · rename_i x ho
    obtain ⟨rfl, hm⟩ := nilChecked_sound (ev_rel S x) h
    refine ⟨a.eval x, fun w => ?_, ev_rel S x⟩
    simp only [execOp, ho]
    rcases hm with ⟨p, hp⟩ | ⟨f, fs, cs, hp⟩
    · rw [hp]; rfl
    · rw [hp]; rfl
  · rename_i op t x y ty ho
    obtain ⟨v, hv, hr⟩ := bin_sound (ev_rel S x) (ev_rel S y) h
    refine ⟨v, fun w => ?_, hr⟩
    have := hv w
    simp only [execOp, ho]
    simp only [Sem.run_bind] at this ⊢
    rw [this]; rfl
  · rename_i op t x ho
    split at h
    · rename_i v hv
      obtain ⟨u, hu, rfl⟩ := Option.map_eq_some_iff.1 h
      have := ev_rel S x
      rw [hv] at this
      simp only [Rel] at this
      exact ⟨u, fun w => by simp [execOp, ho, this, run_of_val? _ hu], by simp [Rel]⟩
    · cases h
  · rename_i t1 t2 x ho
    split at h
    · rename_i v hv
      obtain ⟨u, hu, rfl⟩ := Option.map_eq_some_iff.1 h
      have := ev_rel S x
      rw [hv] at this
      simp only [Rel] at this
      exact ⟨u, fun w => by simp [execOp, ho, this, run_of_val? _ hu], by simp [Rel]⟩
    · cases h
  · rename_i fn first caps ho
    split at h
    · rename_i f hf
      cases h
      have hf' : first = #[] := by apply Array.ext'; simpa using hf
      subst hf'
      refine ⟨.func (.func f) #[] (caps.map a.eval), fun w => by simp [execOp, ho, Instr.makeFunc], ?_⟩
      simp only [Rel]
      exact ⟨_, map_ev S caps, by simp only [Array.toArray_toList]⟩
    · cases h
  · rename_i t x f ho
    obtain ⟨y, hy, hr⟩ := fieldAddr_sound (ev_rel S x) h
    exact ⟨y, fun w => by simp [execOp, ho, hy], hr⟩
  · rename_i t x f ho
    split at h
    · rename_i cs fl hcs hf
      obtain ⟨fs, hu, hfl⟩ := fieldOf_spec hf
      have := ev_rel S x
      rw [hcs] at this
      simp only [Rel] at this
      obtain ⟨ys, hys, hx⟩ := this
      obtain ⟨y, hy, hr⟩ := part_sound hys h
      exact ⟨y, fun w => by simp [execOp, ho, hx, Instr.field, run_underlying hu, hfl, asAgg, hy], hr⟩
    · cases h
  · rename_i x i ho
    split at h
    · rename_i vs hvs
      have := ev_rel S x
      rw [hvs] at this
      simp only [Rel] at this
      obtain ⟨ys, hys, hx⟩ := this
      obtain ⟨y, hy, hr⟩ := hys.get h
      have hy' : ys.toArray[i]? = some y := by simpa using hy
      exact ⟨y, fun w => by simp only [execOp, ho, hx, Instr.extract, hy']; rfl, hr⟩
    · cases h
  · rename_i c ho
    split at h
    · rename_i b hb
      obtain ⟨y, hy, hr⟩ := builtin_sound (map_ev S c.args) h
      refine ⟨y, fun w => ?_, hr⟩
      have := hy w
      simp only [Array.toArray_toList] at this
      simp only [execOp, ho, resolve, hb, Sem.run_bind, Sem.run_pure, Result.andThen_ok, invoke]
      exact this
    · cases h
  · cases h
end

/-! ## 7. The run -/
/-- What is known of calls; which loops are cut (function, first region); which blocks a region that draws may write. -/
structure Env where
  call : FuncId → List SV → List Blk → Option (Tr (SV × List Blk))
  cut : FuncId → Nat → Bool
  wr : FuncId → Nat → List Nat
def allocSV (st : St) (d : Option Tmp) (cs : List SV) : St := St.put { st with mem := st.mem ++ [⟨true, .lit cs⟩] } d (.ptr st.mem.length 0)
def storeSV (P : Program) (st : St) (t : TypeId) (s x : SV) : Option St :=
  match s with
  | .ptr b off =>
    match st.mem[b]? with
    | some ⟨true, .lit cs⟩ =>
      if sizeT P t = some x.cells.length ∧ x.plain = true ∧ x.cells.all SV.one = true ∧ off + x.cells.length ≤ cs.length then
        some { st with mem := st.mem.set b ⟨true, .lit (setRange cs off x.cells)⟩ }
      else none
    | _ => none
  | _ => none
/-- a choice of an index -/
def pickIdx {α : Type} (i : Int) : Nat → Nat → (Nat → Tr α) → Tr α
  | 0, _, _ => .fail 11
  | n + 1, j, k => .br (decide (i = (j : Int))) (k j) (pickIdx i n (j + 1) k)
def withIdx {α : Type} (i : Int) (len : Nat) (k : Nat → Tr α) : Tr α :=
  if len ≤ 8 then pickIdx i len 0 k
  else match i with
    | .ofNat n => if n < len then k n else .fail 12
    | _ => .fail 13
def idxAddr {α : Type} (P : Program) (t : TypeId) (s i : SV) (k : SV → Tr α) : Tr α :=
  match i with
  | .v (.int _ i) =>
    match P.underlying t, s with
    | some (.array len e), .ptr b off =>
      match sizeT P e with
      | some sz => if len ≤ 1 then .fail 14 else withIdx i len fun j => k (.ptr b (off + j * sz))
      | none => .fail 15
    | some (.array len e), .eptr b sz' k' j' =>
      match sizeT P e with
      | some sz => if len ≤ 1 then .fail 14 else withIdx i len fun j => k (.eptr b sz' k' (j' + j * sz))
      | none => .fail 15
    | some (.slice e), .slc b off len _ =>
      match sizeT P e with
      | some sz => withIdx i len fun j => k (.ptr b (off + j * sz))
      | none => .fail 15
    | some (.slice e), .eslc b sz k' len _ =>
      if sizeT P e = some sz then .need (0 ≤ i ∧ i < len) (k (.eptr b sz (nadd k' i.toNat) 0)) else .fail 16
    | some (.slice e), .oslc b sz k' len =>
      if sizeT P e = some sz then .need (0 ≤ i ∧ i < len) (k (.eptr b sz (nadd k' i.toNat) 0)) else .fail 16
    | _, _ => .fail 17
  | _ => .fail 18
def bt (s : ByteArray) (i : Nat) : Int := ((s.data.toList.getD i 0).toNat : Int)
def idx {α : Type} (P : Program) (t : TypeId) (s i : SV) (k : SV → Tr α) : Tr α :=
  match i with
  | .v (.int _ i) =>
    match P.underlying t, s with
    | some (.array len e), .agg cs =>
      match sizeT P e with
      | some sz => withIdx i len fun j => match partSV P e cs (j * sz) with
        | some s => k s
        | none => .fail 21
      | none => .fail 22
    | some .string, .v (.string s) => .need (0 ≤ i ∧ i < s.size) (k (.v (.int .u8 (bt s i.toNat))))
    | _, _ => .fail 23
  | _ => .fail 24
def optInt (st : St) : Option Operand → Option (Option Int)
  | none => some none
  | some x => match ev st x with
    | .v (.int _ i) => some (some i)
    | _ => none
def withLo {α : Type} (lo : Option Int) (d : Int) (k : Int → Tr α) : Tr α :=
  match lo with
  | none => k d
  | some l => k l
/-- a part of a string, of an array, of a slice -/
def sliceX {α : Type} (P : Program) (t : TypeId) (s : SV) (lo hi mx : Option Int) (k : SV → Tr α) : Tr α :=
  match P.underlying t, s with
  | some .string, .v (.string b) => match mx with
    | none => withLo lo 0 fun l => withLo hi b.size fun h => .need (0 ≤ l ∧ l ≤ h ∧ h ≤ b.size) (k (.v (.string (b.extract l.toNat h.toNat))))
    | some _ => .fail 81
  | some (.array n e), .ptr b off => match mx with
    | none => match sizeT P e with
      | some sz => withLo lo 0 fun l => withLo hi n fun h => .need (0 ≤ l ∧ l ≤ h ∧ h ≤ n) (.br (decide (l = n)) (k (.slc b off 0 0)) (k (.slc b (off + l.toNat * sz) (h.toNat - l.toNat) (n - l.toNat))))
      | none => .fail 82
    | some _ => .fail 81
  | some (.slice e), .v (.slice a len cap) => match sizeT P e with
    | some sz => withLo lo 0 fun l => withLo hi len fun h => withLo mx cap fun m => .need (l = 0 ∧ h = 0 ∧ m = 0) (k (.v (.slice a 0 0)))
    | none => .fail 82
  | some (.slice e), .slc b off len cap => match sizeT P e with
    | some sz => withLo lo 0 fun l => withLo hi len fun h => withLo mx cap fun m => .need (0 ≤ l ∧ l ≤ h ∧ h ≤ m ∧ m ≤ cap) (.br (decide (l = m)) (k (.slc b off 0 0)) (k (.slc b (off + l.toNat * sz) (h.toNat - l.toNat) (m.toNat - l.toNat))))
    | none => .fail 82
  | some (.slice e), .eslc b sz k0 len cap =>
    if sizeT P e = some sz then withLo lo 0 fun l => withLo hi len fun h => withLo mx cap fun m => .need (0 ≤ l ∧ l ≤ h ∧ h ≤ m ∧ m ≤ cap) (.br (decide (l = m)) (k (.eslc b sz k0 0 0)) (k (.eslc b sz (nadd k0 l.toNat) (h.toNat - l.toNat) (m.toNat - l.toNat))))
    else .fail 82
  | some (.slice e), .oslc b sz k0 len =>
    if sizeT P e = some sz ∧ k0 = 0 then match mx with
      | none => withLo lo 0 fun l => withLo hi len fun h => .need (0 ≤ l ∧ l ≤ h ∧ h ≤ len) (k (.oslc b sz l.toNat (h.toNat - l.toNat)))
      | some m => withLo lo 0 fun l => withLo hi len fun h => .need (l = 0 ∧ h = 0 ∧ m = 0) (k (.zslc b))
    else .fail 82
  | some (.slice e), .zslc b => match sizeT P e with
    | some sz => withLo lo 0 fun l => withLo hi 0 fun h => withLo mx 0 fun m => .need (l = 0 ∧ h = 0 ∧ m = 0) (k (.zslc b))
    | none => .fail 82
  | _, _ => .fail 83
def CK.of : (k : CK) → SV → Option k.T
  | .bool => fun s => match s with
    | .v (.bool b) => some b
    | _ => none
  | .int k => fun s => match s with
    | .v (.int k' n) => if k = k' then some n else none
    | _ => none
  | .str => fun s => match s with
    | .v (.string s) => some s
    | _ => none
def toRow : (ks : List CK) → List SV → Option (RowT ks)
  | [], [] => some ()
  | k :: ks, s :: ss => match k.of s, toRow ks ss with
    | some x, some r => some (x, r)
    | _, _ => none
  | _, _ => none
def toRows (ks : List CK) : Nat → List SV → Option (List (RowT ks))
  | 0, [] => some []
  | 0, _ => none
  | n + 1, ss => match toRow ks (ss.take ks.length), toRows ks n (ss.drop ks.length) with
    | some r, some l => some (r :: l)
    | _, _ => none
def byteK : List CK := [.int .u8]
def strRows (s : ByteArray) : List (RowT byteK) := s.data.toList.map fun b => ((b.toNat : Int), ())
def rowsStr (l : List (RowT byteK)) : ByteArray := l.foldl (fun r x => r.push (UInt8.ofNat (Int.toNat x.1))) ByteArray.empty
/-- rows that a slice has, of elements that are flat: on what terms, how many, which -/
def readRows (mem : List Blk) (ks : List CK) : SV → Option (Prop × Nat × List (RowT ks))
  | .v (.slice a len cap) => if len = 0 then some (True, 0, []) else none
  | .zslc b => some (True, 0, [])
  | .slc b off m cap => match mem[b]? with
    | some ⟨_, .lit cs⟩ => match toRows ks m ((cs.drop off).take (m * ks.length)) with
      | some l => some (True, m, l)
      | none => none
    | _ => none
  | .eslc b sz k m cap => match mem[b]? with
    | some ⟨_, .rows ks' l⟩ | some ⟨_, .own _ ks' l⟩ => if h : ks' = ks then (if sz = ks.length then some (k + m ≤ l.length, m, ((h ▸ l).drop k).take m) else none) else none
    | _ => none
  | .oslc b sz k m => match mem[b]? with
    | some ⟨_, .rows ks' l⟩ | some ⟨_, .own _ ks' l⟩ => if h : ks' = ks then (if sz = ks.length then some (k + m ≤ l.length, m, ((h ▸ l).drop k).take m) else none) else none
    | _ => none
  | _ => none
/-- the same, of a slice that is appended to: it must have no room, or be a whole block that is forgotten then -/
def baseRows (mem : List Blk) (e : TypeId) (ks : List CK) (s : SV) : Option (Prop × Nat × List (RowT ks) × Option Nat) :=
  match s with
  | .v (.slice a len cap) => if len = 0 ∧ cap = 0 then some (True, 0, [], none) else none
  | .zslc b => some (True, 0, [], none)
  | .eslc b sz k len cap => if len = 0 ∧ cap = 0 then some (True, 0, [], none) else none
  | .slc b off len cap => if len = 0 ∧ cap = 0 then some (True, 0, [], none) else none
  | .oslc b sz k n => match mem[b]? with
    | some ⟨true, .own e' ks' l⟩ => if h : ks' = ks then (if sz = ks.length ∧ k = 0 ∧ e' = e then some (n ≤ l.length, n, (h ▸ l).take n, some b) else none) else none
    | _ => none
  | _ => none
def killB (mem : List Blk) : Option Nat → List Blk
  | some b => mem.set b ⟨true, .dead⟩
  | none => mem
structure ElemInfo where
  e : TypeId
  bytes : Nat
  ks : List CK
  row : RowT ks
/-- a slice's element, if it is flat -/
def elemOf (P : Program) (t : TypeId) : Option ElemInfo :=
  match P.underlying t with
  | some (.slice e) => match flatK P 10 e, P.info? e with
    | some ks, some i => match i.zero with
      | some z => match toRow ks (zcells z) with
        | some r => if i.size = ks.length ∧ 0 < ks.length ∧ z.cells.size = ks.length then some ⟨e, i.bytes, ks, r⟩ else none
        | none => none
      | none => none
    | _, _ => none
  | _ => none
/-- rows behind rows -/
abbrev catRows {ks : List CK} (a c : List (RowT ks)) : List (RowT ks) := a ++ c
def appendX {α : Type} (P : Program) (ts : List TypeId) (dst x : SV) (mem : List Blk) (k : SV → List Blk → Tr α) : Tr α :=
  match ts with
  | [t, t'] => if t = t' then match elemOf P t with
    | some i => match baseRows mem i.e i.ks dst, readRows mem i.ks x with
      | some (q, n, olds, kl), some (p, m, news) => .need (q ∧ p ∧ n + m ≤ 9223372036854775807 ∧ (n + m) * i.bytes ≤ 140737488355328) (k (.oslc mem.length i.ks.length 0 (n + m)) (killB mem kl ++ [⟨true, .own i.e i.ks (catRows olds news)⟩]))
      | _, _ => .fail 91
    | none => .fail 92
    else .fail 93
  | _ => .fail 94
def storeX {α : Type} (P : Program) (t : TypeId) (s x : SV) (st : St) (k : St → Tr α) : Tr α :=
  match s with
  | .eptr b sz k' j => match st.mem[b]? with
    | some ⟨true, .own e ks l⟩ =>
      if sizeT P t = some x.cells.length ∧ x.plain = true ∧ x.cells.all SV.one = true ∧ j + x.cells.length ≤ sz ∧ ks.length = sz then
        match toRow ks (setRange (rowSV ks (l.getD k' (RowT.dflt ks))) j x.cells) with
        | some r => .need (k' < l.length) (k { st with mem := st.mem.set b ⟨true, .own e ks (l.set k' r)⟩ })
        | none => .fail 96
      else .fail 97
    | _ => .fail 98
  | s => match storeSV P st t s x with
    | some st' => k st'
    | none => .fail 34
def replZ (z : Value) (n : Nat) : List SV := (List.range n).map fun i => .v z.cells[i % z.cells.size]!
def buildSliceX {α : Type} (P : Program) (t : TypeId) (len : Nat) (parts : List (Nat × SV)) (mem : List Blk) (k : SV → List Blk → Tr α) : Tr α :=
  match P.underlying t with
  | some (.slice e) => match sizeT P e, val? P (zeroValue e) with
    | some size, some z => if len * size ≤ 2 ^ 24 ∧ 0 < len * size then match fillSV (fun i => some (i * size, size)) (replZ z (len * size)) parts with
      | some cells => k (.slc mem.length 0 len len) (mem ++ [⟨true, .lit cells⟩])
      | none => .fail 101
      else if len * size = 0 then match parts with
        | [] => k (.slc mem.length 0 len len) (mem ++ [⟨true, .lit []⟩])
        | _ => .fail 102
      else .fail 102
    | _, _ => .fail 103
  | _ => .fail 104
def makeSliceX {α : Type} (P : Program) (t : TypeId) (l c : SV) (mem : List Blk) (k : SV → List Blk → Tr α) : Tr α :=
  match l, c with
  | .v (.int _ l), .v (.int _ c) => match elemOf P t with
    | some i => .need (l = c ∧ 0 ≤ l ∧ l ≤ 9223372036854775807 ∧ l * i.bytes ≤ 140737488355328) (k (.oslc mem.length i.ks.length 0 l.toNat) (mem ++ [⟨true, .own i.e i.ks (List.replicate l.toNat i.row)⟩]))
    | none => .fail 105
  | _, _ => .fail 106
/-- rows with others laid over them -/
def overRows {α : Type} (l : List α) (k : Nat) (news : List α) : List α := l.take k ++ news ++ l.drop (k + news.length)
/-- what is copied: rows, or a string's bytes -/
def copySrc (P : Program) (mem : List Blk) (ks : List CK) (t : TypeId) : SV → Option (Prop × Nat × List (RowT ks))
  | .v (.string s) => match P.underlying t with
    | some .string => if h : byteK = ks then some (True, s.size, h ▸ strRows s) else none
    | _ => none
  | s => readRows mem ks s
def copyX {α : Type} (P : Program) (ts : List TypeId) (dst x : SV) (mem : List Blk) (k : SV → List Blk → Tr α) : Tr α :=
  match ts with
  | [t, t'] => match elemOf P t with
    | some i => match dst with
      | .oslc b sz k0 n => match mem[b]?, copySrc P mem i.ks t' x with
        | some ⟨true, .own e ks l⟩, some (p, m, news) => if h : i.ks = ks then
            (if sz = ks.length then .need (p ∧ k0 + n ≤ l.length) (k (.v (.int .i64 (Nat.min m n : Nat))) (mem.set b ⟨true, .own e ks (overRows l k0 ((h ▸ news).take (Nat.min m n)))⟩)) else .fail 111)
          else .fail 112
        | _, _ => .fail 113
      | _ => .fail 114
    | none => .fail 115
  | _ => .fail 116
def clearX {α : Type} (P : Program) (ts : List TypeId) (x : SV) (mem : List Blk) (k : SV → List Blk → Tr α) : Tr α :=
  match ts with
  | [t] => match elemOf P t with
    | some i => match x with
      | .oslc b sz k0 n => match mem[b]? with
        | some ⟨true, .own e ks l⟩ => if h : i.ks = ks then
            (if sz = ks.length then .need (k0 + n ≤ l.length) (k (.v (.tuple #[])) (mem.set b ⟨true, .own e ks (overRows l k0 (List.replicate n (h ▸ i.row)))⟩)) else .fail 111)
          else .fail 112
        | _ => .fail 113
      | .v (.slice a n c) => if n = 0 then k (.v (.tuple #[])) mem else .fail 117
      | _ => .fail 114
    | none => .fail 115
  | _ => .fail 116
/-- a string of bytes -/
def bytesX {α : Type} (P : Program) (src dst : TypeId) (mem : List Blk) (s : SV) (k : SV → Tr α) : Tr α :=
  match P.underlying src, P.underlying dst with
  | some (.slice e), some .string => match P.underlying e with
    | some (.int .u8) => match readRows mem byteK s with
      | some (p, m, l) => .need p (k (.v (.string (rowsStr l))))
      | none => .fail 121
    | _ => .fail 122
  | _, _ => .fail 123
def isBytes (P : Program) (src dst : TypeId) : Bool :=
  match P.underlying src, P.underlying dst with
  | some (.slice _), some .string => true
  | _, _ => false
def rowPart (P : Program) (t : TypeId) (cs : List SV) (sz j : Nat) : Option SV :=
  match aggT P t with
  | some true => match sizeT P t with
    | some m => if j + m ≤ sz then some (.agg ((cs.drop j).take m)) else none
    | none => none
  | some false => cs[j]?
  | none => none
def loadX {α : Type} (P : Program) (mem : List Blk) (t : TypeId) (s : SV) (k : SV → Tr α) : Tr α :=
  match s with
  | .eptr b sz k' j =>
    match mem[b]? with
    | some ⟨_, .row n sz' get⟩ =>
      if sz' = sz then .need (k' < n) (match rowPart P t (get k') sz j with
        | some s => if s.sure = true then k s else .fail 61
        | none => .fail 62)
      else .fail 63
    | some ⟨_, .rows ks l⟩ | some ⟨_, .own _ ks l⟩ =>
      if ks.length = sz then .need (k' < l.length) (match rowPart P t (rowSV ks (l.getD k' (RowT.dflt ks))) sz j with
        | some s => if s.sure = true then k s else .fail 61
        | none => .fail 62)
      else .fail 63
    | _ => .fail 64
  | s => match loadAtSV P mem t s with
    | some s => if s.sure = true then k s else .fail 65
    | none => .fail 66
/-- what a function hands back -/
def resVal (P : Program) (st : St) : ResultVar → Option SV
  | .tmp t => some (st.tmps.getD t (.v undef))
  | .cell a t => loadAtSV P st.mem t (st.tmps.getD a (.v undef))
def resVals (P : Program) (st : St) : List ResultVar → Option (List SV)
  | [] => some []
  | r :: rs => match resVal P st r, resVals P st rs with
    | some s, some ss => some (s :: ss)
    | _, _ => none
def resSV (P : Program) (st : St) (rs : List ResultVar) : Option SV :=
  match resVals P st rs with
  | some [s] => some s
  | some ss => some (.tup ss)
  | none => none
abbrev CallF (α : Type) := FuncId → List SV → List Blk → (SV → List Blk → Tr α) → Tr α
/-- does an operation only make a value? -/
def isVal (o : Oper) : Bool :=
  match o.op with
  | .move _ | .assign _ | .pick .. | .slice .. | .build .. | .load .. | .nilCheck _ | .binOp .. | .unOp .. | .convert .. | .makeFunc .. | .fieldAddr .. | .field .. | .indexAddr .. | .index .. | .extract .. => true
  | .call c => match c.callee with
    | .builtin b => match b with
      | .len | .max | .min => true
      | _ => false
    | _ => false
  | _ => false
/-- is a slice, that may be nil, compared with nil? -/
def nilO (P : Program) (op : BinOp) (t : TypeId) : SV → SV → Option (Nat × Bool)
  | .oslc _ _ _ len, .v x => match P.underlying t with
    | some (.slice _) => if isNilSlc x = true then (boolOp op).map fun b => (len, b) else none
    | _ => none
  | _, _ => none
def valOp {α : Type} (P : Program) (o : Oper) (st : St) (k : SV → Tr α) : Tr α :=
  match o.op with
  | .binOp op t x y _ => match nilO P op t (ev st x) (ev st y) with
    | some (len, b) => .br (decide (0 < len)) (k (.v (.bool b))) (.both (k (.v (.bool b))) (k (.v (.bool (!b)))))
    | none => match stepVal P st o with
      | some s => k s
      | none => .fail 37
  | .pick c x y => match ev st c with
    | .v (.bool b) => .br b (k (ev st x)) (k (ev st y))
    | _ => .fail 31
  | .indexAddr t x i => idxAddr P t (ev st x) (ev st i) k
  | .index t x i => idx P t (ev st x) (ev st i) k
  | .load t x => loadX P st.mem t (ev st x) k
  | .slice t x lo hi mx => if mx.isNone || hi.isSome then match optInt st lo, optInt st hi, optInt st mx with
    | some lo', some hi', some mx' => sliceX P t (ev st x) lo' hi' mx' k
    | _, _, _ => .fail 84
    else .fail 85
  | .convert src dst x => match isBytes P src dst with
    | true => bytesX P src dst st.mem (ev st x) k
    | false => match stepVal P st o with
      | some s => k s
      | none => .fail 37
  | _ => match stepVal P st o with
    | some s => k s
    | none => .fail 37
/-- an operation that makes or writes memory, or calls -/
def effOp {α : Type} (P : Program) (callF : CallF α) (o : Oper) (st : St) (k : St → Tr α) : Tr α :=
  match o.op with
  | .alloc e => match val? P (zeroValue e) with
    | some z => k (allocSV st o.dst (zcells z))
    | none => .fail 32
  | .box e x => if (ev st x).plain = true then k (allocSV st o.dst (ev st x).cells) else .fail 33
  | .store t p x => storeX P t (ev st p) (ev st x) st fun st' => k (st'.put o.dst (.v undef))
  | .buildSlice t len parts => buildSliceX P t len (parts.toList.map fun p => (p.1, ev st p.2)) st.mem fun s mem => k (St.put { st with mem := mem } o.dst s)
  | .makeSlice t l c => makeSliceX P t (ev st l) (ev st c) st.mem fun s mem => k (St.put { st with mem := mem } o.dst s)
  | .call c => match c.callee with
    | .value f => match ev st f with
      | .fn f caps => callF f (c.args.toList.map (ev st) ++ caps) st.mem fun s mem => k (St.put { st with mem := mem } o.dst s)
      | _ => .fail 35
    | .builtin b => match b, c.args.toList with
      | .append, [x, y] => appendX P c.argTypes.toList (ev st x) (ev st y) st.mem fun s mem => k (St.put { st with mem := mem } o.dst s)
      | .copy, [x, y] => copyX P c.argTypes.toList (ev st x) (ev st y) st.mem fun s mem => k (St.put { st with mem := mem } o.dst s)
      | .clear, [x] => clearX P c.argTypes.toList (ev st x) st.mem fun s mem => k (St.put { st with mem := mem } o.dst s)
      | _, _ => .fail 39
    | _ => .fail 36
  | _ => .fail 38
def stepOp {α : Type} (P : Program) (callF : CallF α) (o : Oper) (st : St) (k : St → Tr α) : Tr α :=
  match isVal o with
  | true => valOp P o st fun s => k (st.put o.dst s)
  | false => effOp P callF o st k
def runOps {α : Type} (P : Program) (callF : CallF α) (all : Array Oper) : List Oper → St → (St → Tr α) → Tr α
  | [], st, k => k st
  | o :: os, st, k =>
    match o.guard with
    | none => stepOp P callF o st fun st' => runOps P callF all os st' k
    | some (j, want) =>
      match (all[j]?).bind (·.dst) with
      | none => runOps P callF all os (st.put o.dst (.v undef)) k
      | some d =>
        match st.tmps[d]? with
        | none => runOps P callF all os (st.put o.dst (.v undef)) k
        | some (.v (.bool b)) =>
          match want with
          | true => .br b (stepOp P callF o (st.put (some d) (.v (.bool true))) fun st' => runOps P callF all os st' k) (runOps P callF all os ((st.put (some d) (.v (.bool false))).put o.dst (.v undef)) k)
          | false => .br b (runOps P callF all os ((st.put (some d) (.v (.bool true))).put o.dst (.v undef)) k) (stepOp P callF o (st.put (some d) (.v (.bool false))) fun st' => runOps P callF all os st' k)
        | some (.v (.tuple _)) => runOps P callF all os (st.put o.dst (.v undef)) k
        | _ => .fail 41
/-! ### A region that draws its order -/
/-- which blocks its stores go to (a hint: nothing rests on it) -/
def scanStep (P : Program) (st : St) (o : Oper) : SV :=
  match o.op with
  | .indexAddr _ x _ => match ev st x with
    | .ptr b o => .ptr b o
    | .slc b o _ _ => .ptr b o
    | .eptr b s k j => .eptr b s k j
    | .eslc b s k _ _ => .eptr b s k 0
    | .oslc b s k _ => .eptr b s k 0
    | _ => .any
  | .load t x => (loadAtSV P st.mem t (ev st x)).getD .any
  | _ => (stepVal P st o).getD .any
def scanWr (P : Program) : List Oper → St → List Nat
  | [], _ => []
  | o :: os, st => match o.op with
    | .store _ p _ => match ev st p with
      | .ptr b _ => b :: scanWr P os st
      | .eptr b _ _ _ => b :: scanWr P os st
      | _ => scanWr P os st
    | .call c => match c.callee, c.args.toList with
      | .builtin _, x :: _ => match ev st x with
        | .oslc b _ _ _ => b :: scanWr P os (st.put o.dst (scanStep P st o))
        | _ => scanWr P os (st.put o.dst (scanStep P st o))
      | _, _ => scanWr P os (st.put o.dst (scanStep P st o))
    | _ => scanWr P os (st.put o.dst (scanStep P st o))
def maskMem (wr : List Nat) : Nat → List Blk → List Blk
  | _, [] => []
  | i, b :: bs => (if wr.contains i then ⟨b.rw, .dead⟩ else b) :: maskMem wr (i + 1) bs
def Body.lo (n : Nat) : Body → Bool
  | .lit cs => loL n cs
  | _ => true
def memLo (n : Nat) (mem : List Blk) : Bool := mem.all fun b => b.body.lo n
def guardB (all : Array Oper) (o : Oper) (st : St) : Option Bool :=
  match o.guard with
  | none => some true
  | some (j, want) =>
    match (all[j]?).bind (·.dst) with
    | none => some false
    | some d =>
      match st.tmps[d]? with
      | none => some false
      | some (.v (.bool b)) => some (b == want)
      | some (.v (.tuple _)) => some false
      | _ => none
def loadable (masked : List Blk) : SV → Bool
  | .ptr b _ | .eptr b _ _ _ => match masked[b]? with
    | some ⟨_, b⟩ => b.live
    | none => false
  | _ => false
def quietOK (masked : List Blk) (st : St) (o : Oper) : Bool :=
  isVal o && (match o.op with
    | .load _ x => loadable masked (ev st x)
    | _ => true)
def isGuard (all : Array Oper) (i : Nat) : Bool := all.any fun o => match o.guard with
  | some (j, _) => j == i
  | none => false
/-- the temporary of an operation that guards others is decided at once -/
def decideTmp {α : Type} (all : Array Oper) (i : Nat) (d : Option Tmp) (st : St) (k : St → Tr α) : Tr α :=
  match isGuard all i, d with
  | true, some d => match st.tmps[d]? with
    | some (.v (.bool b)) => .br b (k (st.put (some d) (.v (.bool true)))) (k (st.put (some d) (.v (.bool false))))
    | _ => k st
  | _, _ => k st
def pickQuiet (ops : Array Oper) (masked : List Blk) (listed : Array Bool) (st : St) : List Nat → Option Nat
  | [] => none
  | i :: is =>
    match ops[i]? with
    | none => pickQuiet ops masked listed st is
    | some o =>
      match guardB ops o st with
      | some false => if Region.free .any ops listed i = true then some i else pickQuiet ops masked listed st is
      | some true => if (quietOK masked st o && Region.free .any ops listed i) = true then some i else pickQuiet ops masked listed st is
      | none => pickQuiet ops masked listed st is
def allOf {α : Type} : List Nat → (Nat → Tr α) → Tr α
  | [], _ => .fail 71
  | [i], f => f i
  | i :: is, f => .both (f i) (allOf is f)
def runDraw {α : Type} (P : Program) (callF : CallF α) (ops : Array Oper) (wr : List Nat) (m0 : Nat) (masked : List Blk) : Nat → Array Bool → St → (St → Tr α) → Tr α
  | 0, listed, st, k => match Region.ready .any ops listed with
    | [] => k st
    | _ => .fail 72
  | n + 1, listed, st, k =>
    match Region.ready .any ops listed with
    | [] => k st
    | r :: rs =>
      match pickQuiet ops masked listed st (r :: rs) with
      | some i =>
        match ops[i]? with
        | none => .fail 73
        | some o =>
          match guardB ops o st with
          | some true => if ((Region.ready .any ops listed).contains i && quietOK masked st o && Region.free .any ops listed i) = true then
              valOp P o { st with mem := masked } fun s => decideTmp ops i o.dst (st.put o.dst s) fun st' => runDraw P callF ops wr m0 masked n (listed.setIfInBounds i true) st' k
            else .fail 77
          | some false => if ((Region.ready .any ops listed).contains i && Region.free .any ops listed i) = true then runDraw P callF ops wr m0 masked n (listed.setIfInBounds i true) (st.put o.dst (.v undef)) k else .fail 78
          | none => .fail 74
      | none => allOf (r :: rs) fun i =>
        match ops[i]? with
        | none => .fail 75
        | some o =>
          match guardB ops o st with
          | some true => stepOp P callF o st fun st' => .same (maskMem wr 0 (st'.mem.take m0)) masked (decideTmp ops i o.dst st' fun st'' => runDraw P callF ops wr m0 masked n (listed.setIfInBounds i true) st'' k)
          | some false => runDraw P callF ops wr m0 masked n (listed.setIfInBounds i true) (st.put o.dst (.v undef)) k
          | none => .fail 76
def refine1 (st : St) (c : Operand) (b : Bool) : St :=
  match c with
  | .tmp d => st.put (some d) (.v (.bool b))
  | _ => st
def firstReg : Code → Nat
  | .region id _ _ => id
  | .seq a _ => firstReg a
  | .cond _ a _ => firstReg a
  | .block _ b | .loop b | .scope b => firstReg b
  | _ => 0
def exec {α : Type} (P : Program) (Γ : Env) : Nat → FuncId → Code → St → (Ex → St → Tr α) → Tr α
  | 0, _, _, _, _ => .fail 1
  | n + 1, fid, c, st, k =>
    match c with
    | .skip => k .normal st
    | .label _ => k .normal st
    | .exit id => k (.exit id) st
    | .ret => k .ret st
    | .seq x y => exec P Γ n fid x st fun e st' => match e with
      | .normal => exec P Γ n fid y st' k
      | e => k e st'
    | .block id b => exec P Γ n fid b st fun e st' => match e with
      | .exit i => if i = id then k .normal st' else k (.exit i) st'
      | e => k e st'
    | .loop b => match Γ.cut fid (firstReg b) with
      | true => .lp P b st k
      | false => exec P Γ n fid b st fun e st' => match e with
        | .normal => exec P Γ n fid (.loop b) st' k
        | e => k e st'
    | .cond c x y => match ev st c with
      | .v (.bool b) => .br b (exec P Γ n fid x (refine1 st c true) k) (exec P Γ n fid y (refine1 st c false) k)
      | _ => .fail 2
    | .region id ops draw =>
      let callF : CallF α := fun f args mem k' =>
        match P.funcs[f]? with
        | none => .fail 3
        | some fn => match fn.body with
          | none => .fail 4
          | some c => match Γ.call f args mem with
            | some tr => tr.bind fun r => k' r.1 r.2
            | none => exec P Γ n f c ⟨args ++ List.replicate (fn.ntmps - args.length) (.v undef), mem⟩ fun e st' => match e with
              | .exit _ => .fail 5
              | _ => match resSV P st' fn.results.toList with
                | some s => k' s st'.mem
                | none => .fail 6
      match draw with
      | false => runOps P callF ops ops.toList st (k .normal)
      | true =>
        let wr := Γ.wr fid id ++ scanWr P ops.toList st
        let masked := maskMem wr 0 st.mem
        if (Region.noSelect ops && memLo st.mem.length masked) = true then
          runDraw P callF ops wr st.mem.length masked ops.size (Array.replicate ops.size false) st (k .normal)
        else .fail 8
    | _ => .fail 7
def callX {α : Type} (P : Program) (Γ : Env) (n : Nat) : CallF α := fun f args mem k' =>
  match P.funcs[f]? with
  | none => .fail 3
  | some fn => match fn.body with
    | none => .fail 4
    | some c => match Γ.call f args mem with
      | some tr => tr.bind fun r => k' r.1 r.2
      | none => exec P Γ n f c ⟨args ++ List.replicate (fn.ntmps - args.length) (.v undef), mem⟩ fun e st' => match e with
        | .exit _ => .fail 5
        | _ => match resSV P st' fn.results.toList with
          | some s => k' s st'.mem
          | none => .fail 6

/-! ## 8. The run is sound -/
section
variable {P : Program} {w0 : World} {X : Nat → Prop} {α : Type} {R : α → Prop}
def CallPost (ρ : Loc) (w0 : World) (X : Nat → Prop) (R : SV × List Blk → Prop) (e : Ending) (w' : World) : Prop :=
  ∃ ρ' s v mem', e = .returned v ∧ Ext ρ ρ' ∧ Rel ρ' s v ∧ MemOK ρ' w0 X mem' w' ∧ Frm w0 X w' ∧ R (s, mem')
/-- the environment's words are true -/
def EnvOK (P : Program) (Γ : Env) : Prop :=
  ∀ f args mem tr, Γ.call f args mem = some tr → ∀ (ρ : Loc) (w0 : World) (X : Nat → Prop) (w : World) (ys : List Value) (R : SV × List Blk → Prop), MemOK ρ w0 X mem w → Frm w0 X w → RelL ρ args ys → tr.holds R →
    Calls P f ys.toArray w (CallPost ρ w0 X R)
def NoNG (P : Program) : Prop := ∀ (f : Nat) fn, P.funcs[f]? = some fn → (fn.name == "runtime.NumGoroutine") = false
def CallFOK (P : Program) (w0 : World) (X : Nat → Prop) (R : α → Prop) (callF : CallF α) : Prop :=
  ∀ f args mem k' (ρ : Loc) (w : World) (ys : List Value), MemOK ρ w0 X mem w → Frm w0 X w → RelL ρ args ys → (callF f args mem k').holds R →
    (∃ fn c, P.funcs[f]? = some fn ∧ fn.body = some c) ∧ Calls P f ys.toArray w (CallPost ρ w0 X fun r => (k' r.1 r.2).holds R)
theorem run_callFunc (hng : NoNG P) {f : FuncId} {args : Array Value} {fn : Func} {c : Code} (hf : P.funcs[f]? = some fn) (hc : fn.body = some c) (w : World) :
    (callFunc f args).run P w = .ok (.enter f args) w := by
  have h := hng f fn hf
  simp only [callFunc, Sem.run_bind, run_program, Result.andThen_ok, hf, h, Bool.false_eq_true, if_false, hc, Option.isNone_some, Sem.run_pure]
theorem wp_value {o : Oper} {a : Act} {w : World} {next : Act → World → Prop} {Q : Exit → Act → World → Prop} {y : Value} (h : (execOp a.eval o).run P w = .ok (.value y) w) (hn : next (a.put o.dst y) w) : o.wp P a w next Q := by
  unfold Oper.wp; rw [h]; exact hn
theorem pickIdx_holds {i : Int} {k : Nat → Tr α} : ∀ (n j : Nat), (pickIdx i n j k).holds R → ∃ m, j ≤ m ∧ m < j + n ∧ i = (m : Int) ∧ (k m).holds R
  | 0, j, h => by simp [pickIdx, Tr.holds] at h
  | n + 1, j, h => by
    simp only [pickIdx, Tr.holds] at h
    by_cases hi : i = (j : Int)
    · exact ⟨j, Nat.le_refl _, by omega, hi, h.1 (by simpa using hi)⟩
    · obtain ⟨m, h1, h2, h3, h4⟩ := pickIdx_holds n (j + 1) (h.2 (by simpa using hi))
      exact ⟨m, by omega, by omega, h3, h4⟩
theorem withIdx_holds {i : Int} {len : Nat} {k : Nat → Tr α} (h : (withIdx i len k).holds R) : ∃ m, m < len ∧ i = (m : Int) ∧ (k m).holds R := by
  unfold withIdx at h
  split at h
  · obtain ⟨m, _, h2, h3, h4⟩ := pickIdx_holds _ _ h
    exact ⟨m, by omega, h3, h4⟩
  · split at h
    · rename_i n
      split at h
      · rename_i hn; exact ⟨n, hn, rfl, h⟩
      · exact h.elim
    · exact h.elim
theorem idxAddr_sound {ρ : Loc} {t : TypeId} {s i : SV} {k : SV → Tr α} {y yi : Value} (hs : Rel ρ s y) (hi : Rel ρ i yi) (h : (idxAddr P t s i k).holds R) :
    ∃ s' y', (∀ w, (Instr.indexAt t y yi).run P w = .ok y' w) ∧ Rel ρ s' y' ∧ (k s').holds R := by
  unfold idxAddr at h
  split at h
  · rename_i kd i
    simp only [Rel] at hi
    subst hi
    split at h
    · rename_i len e b off hu
      simp only [Rel] at hs
      obtain ⟨r, hr, rfl⟩ := hs
      split at h
      · rename_i sz hsz
        split at h
        · exact h.elim
        · rename_i hlen
          obtain ⟨m, hm, rfl, hk⟩ := withIdx_holds h
          refine ⟨_, .pointer (some ⟨r.1, r.2 + (off + m * sz), none⟩), fun w => ?_, by simp only [Rel]; exact ⟨r, hr, rfl⟩, hk⟩
          simp [Instr.indexAt, asIntOf, run_underlying hu, Instr.sureAddr, run_size hsz, addr_add, hm, hlen, Nat.add_assoc]
      · exact h.elim
    · rename_i len e b sz' k' j' hu
      simp only [Rel] at hs
      obtain ⟨r, hr, rfl⟩ := hs
      split at h
      · rename_i sz hsz
        split at h
        · exact h.elim
        · rename_i hlen
          obtain ⟨m, hm, rfl, hk⟩ := withIdx_holds h
          refine ⟨_, .pointer (some ⟨r.1, r.2 + (k' * sz' + (j' + m * sz)), none⟩), fun w => ?_, by simp only [Rel]; exact ⟨r, hr, rfl⟩, hk⟩
          simp [Instr.indexAt, asIntOf, run_underlying hu, Instr.sureAddr, run_size hsz, addr_add, hm, hlen, Nat.add_assoc]
      · exact h.elim
    · rename_i e b off len cap hu
      simp only [Rel] at hs
      obtain ⟨r, hr, rfl⟩ := hs
      split at h
      · rename_i sz hsz
        obtain ⟨m, hm, rfl, hk⟩ := withIdx_holds h
        refine ⟨_, .pointer (some ⟨r.1, r.2 + (off + m * sz), none⟩), fun w => ?_, by simp only [Rel]; exact ⟨r, hr, rfl⟩, hk⟩
        simp [Instr.indexAt, asIntOf, run_underlying hu, run_size hsz, addr_add, hm, Nat.add_assoc]
      · exact h.elim
    · rename_i e b sz k' len cap hu
      simp only [Rel] at hs
      obtain ⟨r, hr, rfl⟩ := hs
      split at h
      · rename_i hsz
        obtain ⟨hb, hk⟩ := h
        refine ⟨_, .pointer (some ⟨r.1, r.2 + (k' * sz + i.toNat * sz), none⟩), fun w => ?_, by simp only [Rel]; exact ⟨r, hr, by rw [nadd_eq, Nat.add_mul]; rfl⟩, hk hb⟩
        simp [Instr.indexAt, asIntOf, run_underlying hu, run_size hsz, addr_add, hb, Nat.add_assoc]
      · exact h.elim
    · rename_i e b sz k' len hu
      simp only [Rel] at hs
      obtain ⟨r, hr, rfl, hpos⟩ := hs
      split at h
      · rename_i hsz
        obtain ⟨hb, hk⟩ := h
        obtain ⟨hp, hc⟩ := hpos (by omega)
        refine ⟨_, .pointer (some ⟨r.1, r.2 + (k' * sz + i.toNat * sz), none⟩), fun w => ?_, by simp only [Rel]; exact ⟨r, hr, by rw [nadd_eq, Nat.add_mul]; rfl⟩, hk hb⟩
        rw [if_neg (by omega), hp]
        simp [Instr.indexAt, asIntOf, run_underlying hu, run_size hsz, addr_add, hb, Nat.add_assoc]
      · exact h.elim
    · exact h.elim
  · exact h.elim
theorem bt_spec (s : ByteArray) {i : Int} (h0 : 0 ≤ i) (h1 : i < s.size) : s[i.toNat]? = some (s.data.toList.getD i.toNat 0) := by
  have hlt : i.toNat < s.size := by omega
  have hlt' : i.toNat < s.data.toList.length := by simpa using hlt
  rw [List.getD_eq_getElem?_getD, List.getElem?_eq_getElem hlt', Option.getD_some]
  show (if h : i.toNat < s.size then some s[i.toNat] else none) = _
  rw [dif_pos hlt]
  rfl
theorem idx_sound {ρ : Loc} {t : TypeId} {s i : SV} {k : SV → Tr α} {y yi : Value} (hs : Rel ρ s y) (hi : Rel ρ i yi) (h : (idx P t s i k).holds R) :
    ∃ s' y', (∀ w, (Instr.index t y yi).run P w = .ok y' w) ∧ Rel ρ s' y' ∧ (k s').holds R := by
  unfold idx at h
  split at h
  · rename_i kd i
    simp only [Rel] at hi
    subst hi
    split at h
    · rename_i len e cs hu
      simp only [Rel] at hs
      obtain ⟨ys, hys, rfl⟩ := hs
      split at h
      · rename_i sz hsz
        obtain ⟨m, hm, rfl, hk⟩ := withIdx_holds h
        split at hk
        · rename_i s' hp
          obtain ⟨y', hy', hr⟩ := part_sound hys hp
          refine ⟨s', y', fun w => ?_, hr, hk⟩
          have := hy' w
          simp [Instr.index, asIntOf, run_underlying hu, run_size hsz, hm, this]
        · exact hk.elim
      · exact h.elim
    · rename_i s0 hu
      simp only [Rel] at hs
      subst hs
      obtain ⟨hb, hk⟩ := h
      refine ⟨_, .int .u8 (bt s0 i.toNat), fun w => ?_, by simp [Rel], hk hb⟩
      simp only [Instr.index, asIntOf, Sem.run_bind, Sem.run_pure, Result.andThen_ok, run_underlying hu, hb.1, if_true, bt_spec s0 hb.1 hb.2, bt]
    · exact h.elim
  · exact h.elim
theorem withLo_holds {lo : Option Int} {d : Int} {k : Int → Tr α} (h : (withLo lo d k).holds R) : (k (lo.getD d)).holds R := by
  unfold withLo at h
  split at h <;> exact h
theorem optInt_spec {ρ : Loc} {st : St} {a : Act} (ht : RelL ρ st.tmps a.tmps.toList) {lo : Option Operand} {o : Option Int} (h : optInt st lo = some o) : (o = none ∧ lo.map a.eval = none) ∨ ∃ i kd, o = some i ∧ lo.map a.eval = some (.int kd i) := by
  unfold optInt at h
  split at h
  · cases h; exact .inl ⟨rfl, rfl⟩
  · rename_i x
    split at h
    · rename_i kd i hx
      cases h
      have := ev_rel ht x
      rw [hx] at this
      simp only [Rel] at this
      exact .inr ⟨i, kd, rfl, by simp [this]⟩
    · cases h
def IsInt (x : Option Value) (o : Option Int) : Prop := (o = none ∧ x = none) ∨ ∃ i kd, o = some i ∧ x = some (.int kd i)
theorem run_sliceBounds {isS : Bool} {len cap l h m : Nat} {lo hi mx : Option Value} {lo' hi' mx' : Option Int} (hlo : IsInt lo lo') (hhi : IsInt hi hi') (hmx : IsInt mx mx') (hn : mx = none ∨ hi.isSome = true)
    (el : lo'.getD 0 = (l : Int)) (eh : hi'.getD len = (h : Int)) (em : mx'.getD cap = (m : Int)) (h1 : l ≤ h) (h2 : h ≤ m) (h3 : m ≤ cap) (w : World) : (Instr.sliceBounds isS len cap lo hi mx).run P w = .ok (l, h, m) w := by
  have bd : ∀ (kd : IntKind) (i y : Nat) (c : BoundsCode), i ≤ y → (Instr.sliceBound (.int kd (i : Int)) y c).run P w = .ok i w := by
    intro kd i y c hi
    have h0 : (0 : Int) ≤ (i : Int) ∧ (i : Int) ≤ (y : Int) := ⟨by omega, by omega⟩
    simp [Instr.sliceBound, asIntOf, hi]
  rcases hmx with ⟨rfl, rfl⟩ | ⟨mi, mk, rfl, rfl⟩
  · simp only [Option.getD_none] at em
    have em : cap = m := by omega
    subst em
    rcases hhi with ⟨rfl, rfl⟩ | ⟨hh, hk, rfl, rfl⟩
    · simp only [Option.getD_none] at eh
      have eh : len = h := by omega
      subst eh
      rcases hlo with ⟨rfl, rfl⟩ | ⟨ll, lk, rfl, rfl⟩
      · simp only [Option.getD_none] at el
        have el : 0 = l := by omega
        subst el
        simp [Instr.sliceBounds]
      · simp only [Option.getD_some] at el
        subst el
        simp [Instr.sliceBounds, bd lk l _ _ h1]
    · simp only [Option.getD_some] at eh
      subst eh
      rcases hlo with ⟨rfl, rfl⟩ | ⟨ll, lk, rfl, rfl⟩
      · simp only [Option.getD_none] at el
        have el : 0 = l := by omega
        subst el
        simp [Instr.sliceBounds, bd hk h _ _ h2]
      · simp only [Option.getD_some] at el
        subst el
        simp [Instr.sliceBounds, bd hk h _ _ h2, bd lk l _ _ h1]
  · simp only [Option.getD_some] at em
    subst em
    rcases hhi with ⟨rfl, rfl⟩ | ⟨hh, hk, rfl, rfl⟩
    · simp at hn
    · simp only [Option.getD_some] at eh
      subst eh
      rcases hlo with ⟨rfl, rfl⟩ | ⟨ll, lk, rfl, rfl⟩
      · simp only [Option.getD_none] at el
        have el : 0 = l := by omega
        subst el
        simp [Instr.sliceBounds, bd hk h _ _ h2, bd mk m _ _ h3]
      · simp only [Option.getD_some] at el
        subst el
        simp [Instr.sliceBounds, bd hk h _ _ h2, bd lk l _ _ h1, bd mk m _ _ h3]
theorem run_slice {t e : TypeId} {sz : Nat} (hu : P.underlying t = some (.slice e)) (hsz : sizeT P e = some sz) {len cap l h m : Nat} {lo hi mx : Option Value} {lo' hi' mx' : Option Int} (hlo : IsInt lo lo') (hhi : IsInt hi hi') (hmx : IsInt mx mx') (hn : mx = none ∨ hi.isSome = true)
    (el : lo'.getD 0 = (l : Int)) (eh : hi'.getD len = (h : Int)) (em : mx'.getD cap = (m : Int)) (h1 : l ≤ h) (h2 : h ≤ m) (h3 : m ≤ cap) (base : Option Addr) (w : World) :
    (Instr.sliceAt t (.slice base len cap) lo hi mx).run P w = .ok (.slice (if m = l then base else base.map (·.add (l * sz))) (h - l) (m - l)) w := by
  have := run_sliceBounds (P := P) (isS := true) hlo hhi hmx hn el eh em h1 h2 h3 w
  simp only [Instr.sliceAt, Sem.run_bind, run_underlying hu, Result.andThen_ok, Instr.slice, this, run_size hsz, Sem.run_pure]
theorem sliceX_sound {ρ : Loc} {t : TypeId} {s : SV} {lo hi mx : Option Value} {lo' hi' mx' : Option Int} (hlo : IsInt lo lo') (hhi : IsInt hi hi') (hmx : IsInt mx mx') (hn : mx = none ∨ hi.isSome = true) {k : SV → Tr α} {y : Value} (hs : Rel ρ s y) (h : (sliceX P t s lo' hi' mx' k).holds R) :
    ∃ s' y', (∀ w, (Instr.sliceAt t y lo hi mx).run P w = .ok y' w) ∧ Rel ρ s' y' ∧ (k s').holds R := by
  have nat : ∀ {x : Int}, 0 ≤ x → ∃ n : Nat, x = (n : Int) := fun h => Int.eq_ofNat_of_zero_le h
  unfold sliceX at h
  split at h
  · rename_i b hu
    simp only [Rel] at hs
    subst hs
    split at h
    · rcases hmx with ⟨_, rfl⟩ | ⟨_, _, h', _⟩
      · obtain ⟨⟨h1, h2, h3⟩, hk⟩ := withLo_holds (withLo_holds h)
        obtain ⟨l, hl⟩ := nat h1
        obtain ⟨hh, hhh⟩ := nat (Int.le_trans h1 h2)
        have hk := hk ⟨h1, h2, h3⟩
        rw [hl, hhh] at h2 hk
        rw [hhh] at h3
        refine ⟨_, .string (b.extract l hh), fun w => ?_, by simp [Rel], hk⟩
        have := run_sliceBounds (P := P) (isS := false) (len := b.size) (cap := b.size) (m := b.size) hlo hhi (mx := none) (mx' := none) (.inl ⟨rfl, rfl⟩) (.inl rfl) hl hhh (by simp) (by omega) (by omega) (Nat.le_refl _) w
        simp only [Instr.sliceAt, Sem.run_bind, run_underlying hu, Result.andThen_ok, Instr.slice, Option.isSome_none, Bool.false_eq_true, if_false, this, Sem.run_pure]
      · cases h'
    · exact h.elim
  · rename_i n e b off hu
    simp only [Rel] at hs
    obtain ⟨r, hr, rfl⟩ := hs
    split at h
    · rcases hmx with ⟨_, rfl⟩ | ⟨_, _, h', _⟩
      · split at h
        · rename_i sz hsz
          obtain ⟨⟨h1, h2, h3⟩, hk⟩ := withLo_holds (withLo_holds h)
          obtain ⟨l, hl⟩ := nat h1
          obtain ⟨hh, hhh⟩ := nat (Int.le_trans h1 h2)
          have hk := hk ⟨h1, h2, h3⟩
          rw [hl, hhh] at h2 hk
          rw [hhh] at h3
          have hrun : ∀ w, (Instr.sliceAt t (.pointer (some ⟨r.1, r.2 + off, none⟩)) lo hi none).run P w = .ok (.slice (some (if n = l then ⟨r.1, r.2 + off, none⟩ else (⟨r.1, r.2 + off, none⟩ : Addr).add (l * sz))) (hh - l) (n - l)) w := by
            intro w
            have := run_sliceBounds (P := P) (isS := false) (len := n) (cap := n) (m := n) hlo hhi (mx := none) (mx' := none) (.inl ⟨rfl, rfl⟩) (.inl rfl) hl hhh (by simp) (by omega) (by omega) (Nat.le_refl _) w
            simp only [Instr.sliceAt, Sem.run_bind, run_underlying hu, Result.andThen_ok, Instr.sureAddr, Sem.run_pure, this, run_size hsz]
          by_cases hln : l = n
          · subst hln
            have : hh = l := by omega
            subst this
            refine ⟨_, _, hrun, ?_, hk.1 (by simp)⟩
            simp only [Rel]
            exact ⟨r, hr, by simp⟩
          · refine ⟨_, _, hrun, ?_, hk.2 (by simp; omega)⟩
            simp only [Rel]
            refine ⟨r, hr, ?_⟩
            rw [if_neg (fun e => hln e.symm), addr_add]
            simp [Nat.add_assoc]
        · exact h.elim
      · cases h'
    · exact h.elim
  · rename_i e a len cap hu
    simp only [Rel] at hs
    subst hs
    split at h
    · rename_i sz hsz
      obtain ⟨⟨h1, h2, h3⟩, hk⟩ := withLo_holds (withLo_holds (withLo_holds h))
      have hk := hk ⟨h1, h2, h3⟩
      refine ⟨_, _, run_slice hu hsz (l := 0) (h := 0) (m := 0) hlo hhi hmx hn h1 h2 h3 (by omega) (by omega) (by omega) a, by simp [Rel], hk⟩
    · exact h.elim
  · rename_i e b off len cap hu
    simp only [Rel] at hs
    obtain ⟨r, hr, rfl⟩ := hs
    split at h
    · rename_i sz hsz
      obtain ⟨⟨h1, h2, h3, h4⟩, hk⟩ := withLo_holds (withLo_holds (withLo_holds h))
      obtain ⟨l, hl⟩ := nat h1
      obtain ⟨hh, hhh⟩ := nat (Int.le_trans h1 h2)
      obtain ⟨m, hm⟩ := nat (Int.le_trans (Int.le_trans h1 h2) h3)
      have hk := hk ⟨h1, h2, h3, h4⟩
      rw [hl, hhh] at h2
      rw [hhh, hm] at h3
      rw [hm] at h4
      rw [hl, hhh, hm] at hk
      have hrun := run_slice hu hsz (len := len) (cap := cap) hlo hhi hmx hn hl hhh hm (by omega) (by omega) (by omega) (some ⟨r.1, r.2 + off, none⟩)
      by_cases hln : l = m
      · subst hln
        have : hh = l := by omega
        subst this
        refine ⟨_, _, hrun, ?_, hk.1 (by simp)⟩
        simp only [Rel]
        exact ⟨r, hr, by simp⟩
      · refine ⟨_, _, hrun, ?_, hk.2 (by simp; omega)⟩
        simp only [Rel]
        refine ⟨r, hr, ?_⟩
        rw [if_neg (fun e => hln e.symm)]
        simp [addr_add, Nat.add_assoc]
    · exact h.elim
  · rename_i e b sz k0 len cap hu
    simp only [Rel] at hs
    obtain ⟨r, hr, rfl⟩ := hs
    split at h
    · rename_i hsz
      obtain ⟨⟨h1, h2, h3, h4⟩, hk⟩ := withLo_holds (withLo_holds (withLo_holds h))
      obtain ⟨l, hl⟩ := nat h1
      obtain ⟨hh, hhh⟩ := nat (Int.le_trans h1 h2)
      obtain ⟨m, hm⟩ := nat (Int.le_trans (Int.le_trans h1 h2) h3)
      have hk := hk ⟨h1, h2, h3, h4⟩
      rw [hl, hhh] at h2
      rw [hhh, hm] at h3
      rw [hm] at h4
      rw [hl, hhh, hm] at hk
      have hrun := run_slice hu hsz (len := len) (cap := cap) hlo hhi hmx hn hl hhh hm (by omega) (by omega) (by omega) (some ⟨r.1, r.2 + k0 * sz, none⟩)
      by_cases hln : l = m
      · subst hln
        have : hh = l := by omega
        subst this
        refine ⟨_, _, hrun, ?_, hk.1 (by simp)⟩
        simp only [Rel]
        exact ⟨r, hr, by simp⟩
      · refine ⟨_, _, hrun, ?_, hk.2 (by simp; omega)⟩
        simp only [Rel]
        refine ⟨r, hr, ?_⟩
        rw [if_neg (fun e => hln e.symm)]
        simp [addr_add, nadd_eq, Nat.add_mul, Nat.add_assoc]
    · exact h.elim
  · rename_i e b sz k0 len hu
    simp only [Rel] at hs
    obtain ⟨r, hr, rfl, hpos⟩ := hs
    split at h
    · rename_i hc
      obtain ⟨hsz, rfl⟩ := hc
      split at h
      · rcases hmx with ⟨_, rfl⟩ | ⟨_, _, h', _⟩
        · obtain ⟨⟨h1, h2, h3⟩, hk⟩ := withLo_holds (withLo_holds h)
          obtain ⟨l, hl⟩ := nat h1
          obtain ⟨hh, hhh⟩ := nat (Int.le_trans h1 h2)
          have hk := hk ⟨h1, h2, h3⟩
          rw [hl, hhh] at h2
          rw [hhh] at h3
          rw [hl, hhh] at hk
          have hcap : hh ≤ r.cap := by
            by_cases h0 : 0 < len
            · have := (hpos h0).2; omega
            · omega
          have hrun := run_slice hu hsz (len := len) (cap := r.cap - 0) hlo hhi (mx := none) (mx' := none) (.inl ⟨rfl, rfl⟩) (.inl rfl) hl hhh (m := r.cap) (by simp) (by omega) (by omega) (by omega) (if r.cap = 0 then r.ptr else r.ptr.map (·.add (0 * sz)))
          refine ⟨_, _, hrun, ?_, hk⟩
          have hbase : (if r.cap = 0 then r.ptr else r.ptr.map (·.add (0 * sz))) = r.ptr := by
            split
            · rfl
            · simp [Addr.add]
          simp only [Rel]
          refine ⟨r, hr, by rw [hbase]; rfl, fun hp => ?_⟩
          have h0 : 0 < len := by simp at hp; omega
          exact ⟨(hpos h0).1, by have := (hpos h0).2; simp; omega⟩
        · cases h'
      · obtain ⟨⟨h1, h2, h3⟩, hk⟩ := withLo_holds (withLo_holds h)
        have hk := hk ⟨h1, h2, h3⟩
        have hbase : (if r.cap = 0 then r.ptr else r.ptr.map (·.add (0 * sz))) = r.ptr := by
          split
          · rfl
          · simp [Addr.add]
        refine ⟨_, _, run_slice hu hsz (l := 0) (h := 0) (m := 0) hlo hhi hmx hn h1 h2 (by simpa using h3) (by omega) (by omega) (by omega) _, ?_, hk⟩
        simp only [Rel]
        exact ⟨r, hr, by rw [hbase]; simp⟩
    · exact h.elim
  · rename_i e b hu
    simp only [Rel] at hs
    obtain ⟨r, hr, rfl⟩ := hs
    split at h
    · rename_i sz hsz
      obtain ⟨⟨h1, h2, h3⟩, hk⟩ := withLo_holds (withLo_holds (withLo_holds h))
      have hk := hk ⟨h1, h2, h3⟩
      refine ⟨_, _, run_slice hu hsz (l := 0) (h := 0) (m := 0) hlo hhi hmx hn h1 h2 h3 (by omega) (by omega) (by omega) _, ?_, hk⟩
      simp only [Rel]
      exact ⟨r, hr, by simp⟩
    · exact h.elim
  · exact h.elim
theorem CK.of_spec : ∀ {k : CK} {s : SV} {x : k.T}, k.of s = some x → s = k.toSV x
  | .bool, s, x, h => by
    simp only [CK.of] at h
    split at h
    · cases h; rfl
    · cases h
  | .int k, s, x, h => by
    simp only [CK.of] at h
    split at h
    · split at h
      · rename_i e; subst e; cases h; rfl
      · cases h
    · cases h
  | .str, s, x, h => by
    simp only [CK.of] at h
    split at h
    · cases h; rfl
    · cases h
theorem toRow_spec : ∀ {ks : List CK} {ss : List SV} {r : RowT ks}, toRow ks ss = some r → ss = rowSV ks r
  | [], [], r, h => rfl
  | [], _ :: _, r, h => by simp [toRow] at h
  | k :: ks, [], r, h => by simp [toRow] at h
  | k :: ks, s :: ss, r, h => by
    simp only [toRow] at h
    split at h
    · rename_i x r' h1 h2
      cases h
      simp only [rowSV]
      rw [← CK.of_spec h1, ← toRow_spec h2]
    · cases h
theorem rowV_one : ∀ (ks : List CK) (r : RowT ks), ∀ u ∈ rowV ks r, u.oneCell' = true
  | [], _, u, h => by simp [rowV] at h
  | k :: ks, r, u, h => by
    simp only [rowV, List.mem_cons] at h
    rcases h with rfl | h
    · cases k <;> rfl
    · exact rowV_one ks r.2 u h
theorem rowsV_one {ks : List CK} {l : List (RowT ks)} : ∀ u ∈ rowsV ks l, u.oneCell' = true := by
  intro u h
  simp only [rowsV, List.mem_flatMap] at h
  obtain ⟨r, _, h⟩ := h
  exact rowV_one ks r u h
theorem rowsV_length {ks : List CK} (l : List (RowT ks)) : (rowsV ks l).length = l.length * ks.length := by
  induction l with
  | nil => simp [rowsV]
  | cons r l ih => simp only [rowsV, List.flatMap_cons, List.length_append, rowV_length, List.length_cons] at ih ⊢; rw [ih, Nat.add_mul]; omega
theorem rowsV_append {ks : List CK} (l l' : List (RowT ks)) : rowsV ks (l ++ l') = rowsV ks l ++ rowsV ks l' := by simp [rowsV]
theorem rowsV_at {ks : List CK} : ∀ (l : List (RowT ks)) (k j : Nat) (x : RowT ks), l[k]? = some x → j < ks.length → (rowsV ks l)[k * ks.length + j]? = (rowV ks x)[j]?
  | [], k, j, x, h, _ => by simp at h
  | r :: l, 0, j, x, h, hj => by
    simp at h; subst h
    simp only [rowsV, List.flatMap_cons, Nat.zero_mul, Nat.zero_add]
    rw [List.getElem?_append_left (by rw [rowV_length]; exact hj)]
  | r :: l, k + 1, j, x, h, hj => by
    have ih := rowsV_at l k j x (by simpa using h) hj
    simp only [rowsV, List.flatMap_cons] at ih ⊢
    rw [List.getElem?_append_right (by rw [rowV_length, Nat.add_mul]; omega), rowV_length, ← ih]
    congr 1
    rw [Nat.add_mul]; omega
/-- what the cells are, of rows -/
theorem RowsOK.iff {w : World} {rw : Bool} {r : Place} {ks : List CK} {l : List (RowT ks)} : RowsOK w rw r ks l ↔ ∀ j c, (rowsV ks l)[j]? = some c → w.cell? ⟨r.1, r.2 + j, none⟩ = some c ∧ (rw = true → w.frozen? ⟨r.1, r.2 + j, none⟩ = false) := by
  constructor
  · intro h j c hj
    have hlt := (List.getElem?_eq_some_iff.1 hj).1
    rw [rowsV_length] at hlt
    have hpos : 0 < ks.length := by
      rcases Nat.eq_zero_or_pos ks.length with h0 | h0
      · rw [h0] at hlt; omega
      · exact h0
    have hk : j / ks.length < l.length := Nat.div_lt_of_lt_mul (by rw [Nat.mul_comm]; exact hlt)
    have hm : j % ks.length < ks.length := Nat.mod_lt _ hpos
    have hx := List.getElem?_eq_getElem hk
    have e : j / ks.length * ks.length + j % ks.length = j := by rw [Nat.mul_comm]; exact Nat.div_add_mod j ks.length
    have hat := rowsV_at l _ _ _ hx hm
    rw [e, hj] at hat
    have := h _ _ hx _ _ hat.symm
    rw [e] at this
    exact this
  · intro h k x hk j c hj
    have hjl := (List.getElem?_eq_some_iff.1 hj).1
    rw [rowV_length] at hjl
    exact h _ c (by rw [rowsV_at l k j x hk hjl]; exact hj)
theorem toRows_spec {ks : List CK} : ∀ {n : Nat} {ss : List SV} {l : List (RowT ks)}, toRows ks n ss = some l → l.length = n ∧ ∀ {ρ : Loc} {ys : List Value}, RelL ρ ss ys → ys = rowsV ks l
  | 0, [], l, h => by simp [toRows] at h; subst h; exact ⟨rfl, fun hr => by simp only [RelL] at hr; simp [hr, rowsV]⟩
  | 0, _ :: _, l, h => by simp [toRows] at h
  | n + 1, ss, l, h => by
    simp only [toRows] at h
    split at h
    · rename_i r l' h1 h2
      cases h
      obtain ⟨e1, e2⟩ := toRows_spec h2
      refine ⟨by simp [e1], fun {ρ ys} hr => ?_⟩
      have t1 := toRow_spec h1
      have a := hr.take ks.length
      have b := e2 (hr.drop ks.length)
      rw [t1] at a
      have c : ys.take ks.length = rowV ks r := by
        have key : ∀ (ks : List CK) (r : RowT ks) (zs : List Value), RelL ρ (rowSV ks r) zs → zs = rowV ks r := by
          intro ks
          induction ks with
          | nil => intro r zs h; simp only [rowSV, RelL] at h; simp [h, rowV]
          | cons k ks ih =>
            intro r zs h
            simp only [rowSV] at h
            obtain ⟨y, zs', rfl, h1, h2⟩ := h.cons_inv
            simp only [rowV]
            rw [ih r.2 zs' h2]
            have : y = k.toV r.1 := by cases k <;> simpa [CK.toSV, CK.toV, Rel] using h1
            rw [this]
        exact key ks r _ a
      rw [← List.take_append_drop ks.length ys, b, c]
      simp [rowsV]
    · cases h
theorem rowsV_sub {ks : List CK} {l : List (RowT ks)} {k m j : Nat} {v : Value} (h : (rowsV ks ((l.drop k).take m))[j]? = some v) : (rowsV ks l)[k * ks.length + j]? = some v := by
  by_cases hk : k ≤ l.length
  · have e : l = l.take k ++ ((l.drop k).take m ++ (l.drop k).drop m) := by rw [List.take_append_drop, List.take_append_drop]
    rw [e, rowsV_append, rowsV_append, List.getElem?_append_right (by rw [rowsV_length]; simp [hk]), rowsV_length]
    have : (l.take k).length = k := by simp [hk]
    rw [this, show k * ks.length + j - k * ks.length = j by omega, List.getElem?_append_left (List.getElem?_eq_some_iff.1 h).1]
    exact h
  · rw [List.drop_eq_nil_of_le (by omega)] at h
    simp [rowsV] at h
theorem readRows_spec {mem : List Blk} {ks : List CK} {s : SV} {p : Prop} {m : Nat} {l : List (RowT ks)} (h : readRows mem ks s = some (p, m, l)) (hp : p) {ρ : Loc} {w : World} {y : Value} (hm : MemB ρ mem w) (hs : Rel ρ s y) :
    l.length = m ∧ ∃ base c, y = .slice base m c ∧ (m = 0 ∨ ∃ a, base = some a ∧ ∀ j v, (rowsV ks l)[j]? = some v → w.cell? (a.add j) = some v) := by
  have sub : ∀ {rw : Bool} {r : Place} {l : List (RowT ks)} {k m : Nat}, RowsOK w rw r ks l → ∀ j v, (rowsV ks ((l.drop k).take m))[j]? = some v → w.cell? ((⟨r.1, r.2 + k * ks.length, none⟩ : Addr).add j) = some v := by
    intro rw r l k m h j v hj
    rw [addr_add, Nat.add_assoc]
    exact (RowsOK.iff.1 h _ _ (rowsV_sub hj)).1
  unfold readRows at h
  split at h
  · rename_i a len cap
    split at h
    · rename_i h0
      cases h
      simp only [Rel] at hs
      subst hs; subst h0
      exact ⟨rfl, a, cap, rfl, .inl rfl⟩
    · cases h
  · cases h
    simp only [Rel] at hs
    obtain ⟨r, hr, rfl⟩ := hs
    exact ⟨rfl, r.ptr, 0, rfl, .inl rfl⟩
  · rename_i b off m' cap
    split at h
    · rename_i rw cs hb
      split at h
      · rename_i l' hl
        cases h
        obtain ⟨e1, e2⟩ := toRows_spec hl
        simp only [Rel] at hs
        obtain ⟨r, hr, rfl⟩ := hs
        obtain ⟨r', hr', hbody⟩ := hm b _ hb
        rw [hr] at hr'; cases hr'
        have hbody : ∀ j s, cs[j]? = some s → CellOK ρ w rw r j s := hbody
        obtain ⟨ys, h1, h2⟩ := load_cells (ρ := ρ) (w := w) r off ((cs.drop off).take (m * ks.length)) 0 (fun j s hj => by
          have hj' : cs[off + j]? = some s := by
            rw [List.getElem?_take] at hj
            split at hj
            · rwa [List.getElem?_drop] at hj
            · cases hj
          obtain ⟨y, hy, hr, _⟩ := hbody _ _ hj'
          exact ⟨y, by rw [Nat.zero_add, Nat.add_assoc]; exact hy, hr⟩)
        rw [e2 h1] at h2
        exact ⟨e1, _, _, rfl, .inr ⟨_, rfl, fun j v hj => by have := h2 j v hj; simpa using this⟩⟩
      · cases h
    · cases h
  · rename_i b sz k m' cap
    split at h
    · rename_i rw ks' l' hb
      split at h
      · rename_i he
        subst he
        split at h
        · rename_i hsz
          cases h
          subst hsz
          simp only [Rel] at hs
          obtain ⟨r, hr, rfl⟩ := hs
          obtain ⟨r', hr', hbody⟩ := hm b _ hb
          rw [hr] at hr'; cases hr'
          exact ⟨by simp; omega, _, _, rfl, .inr ⟨_, rfl, sub hbody⟩⟩
        · cases h
      · cases h
    · rename_i rw e' ks' l' hb
      split at h
      · rename_i he
        subst he
        split at h
        · rename_i hsz
          cases h
          subst hsz
          simp only [Rel] at hs
          obtain ⟨r, hr, rfl⟩ := hs
          obtain ⟨r', hr', hbody⟩ := hm b _ hb
          rw [hr] at hr'; cases hr'
          exact ⟨by simp; omega, _, _, rfl, .inr ⟨_, rfl, sub hbody.1⟩⟩
        · cases h
      · cases h
    · cases h
  · rename_i b sz k m'
    split at h
    · rename_i rw ks' l' hb
      split at h
      · rename_i he
        subst he
        split at h
        · rename_i hsz
          cases h
          subst hsz
          simp only [Rel] at hs
          obtain ⟨r, hr, rfl, hpos⟩ := hs
          obtain ⟨r', hr', hbody⟩ := hm b _ hb
          rw [hr] at hr'; cases hr'
          refine ⟨by simp; omega, _, _, rfl, ?_⟩
          rcases Nat.eq_zero_or_pos m with h0 | h0
          · exact .inl h0
          · obtain ⟨h1, h2⟩ := hpos h0
            exact .inr ⟨⟨r.1, r.2 + k * ks'.length, none⟩, by rw [if_neg (by omega), h1]; simp [addr_add], sub hbody⟩
        · cases h
      · cases h
    · rename_i rw e' ks' l' hb
      split at h
      · rename_i he
        subst he
        split at h
        · rename_i hsz
          cases h
          subst hsz
          simp only [Rel] at hs
          obtain ⟨r, hr, rfl, hpos⟩ := hs
          obtain ⟨r', hr', hbody⟩ := hm b _ hb
          rw [hr] at hr'; cases hr'
          refine ⟨by simp; omega, _, _, rfl, ?_⟩
          rcases Nat.eq_zero_or_pos m with h0 | h0
          · exact .inl h0
          · obtain ⟨h1, h2⟩ := hpos h0
            exact .inr ⟨⟨r.1, r.2 + k * ks'.length, none⟩, by rw [if_neg (by omega), h1]; simp [addr_add], sub hbody.1⟩
        · cases h
      · cases h
    · cases h
  · cases h
theorem baseRows_spec {mem : List Blk} {e : TypeId} {ks : List CK} {s : SV} {q : Prop} {n : Nat} {olds : List (RowT ks)} {kl : Option Nat} (h : baseRows mem e ks s = some (q, n, olds, kl)) (hq : q) {ρ : Loc} {y : Value} (hs : Rel ρ s y) :
    (kl = none ∧ n = 0 ∧ olds = [] ∧ ∃ a, y = .slice a 0 0) ∨ ∃ b l r, kl = some b ∧ mem[b]? = some ⟨true, .own e ks l⟩ ∧ n ≤ l.length ∧ olds = l.take n ∧ ρ b = some r ∧ y = .slice r.ptr n r.cap := by
  unfold baseRows at h
  split at h
  · rename_i a len cap
    split at h
    · rename_i h0
      cases h
      simp only [Rel] at hs
      subst hs
      obtain ⟨rfl, rfl⟩ := h0
      exact .inl ⟨rfl, rfl, rfl, a, rfl⟩
    · cases h
  · cases h
    simp only [Rel] at hs
    obtain ⟨r, hr, rfl⟩ := hs
    exact .inl ⟨rfl, rfl, rfl, r.ptr, rfl⟩
  · split at h
    · rename_i h0
      cases h
      simp only [Rel] at hs
      obtain ⟨r, hr, rfl⟩ := hs
      obtain ⟨rfl, rfl⟩ := h0
      exact .inl ⟨rfl, rfl, rfl, _, rfl⟩
    · cases h
  · split at h
    · rename_i h0
      cases h
      simp only [Rel] at hs
      obtain ⟨r, hr, rfl⟩ := hs
      obtain ⟨rfl, rfl⟩ := h0
      exact .inl ⟨rfl, rfl, rfl, _, rfl⟩
    · cases h
  · rename_i b sz k n'
    split at h
    · rename_i e' ks' l hb
      split at h
      · rename_i he
        subst he
        split at h
        · rename_i hc
          obtain ⟨rfl, rfl, rfl⟩ := hc
          cases h
          simp only [Rel] at hs
          obtain ⟨r, hr, rfl, hpos⟩ := hs
          refine .inr ⟨b, l, r, rfl, hb, hq, rfl, hr, ?_⟩
          congr 1
          split
          · rfl
          · simp [Addr.add]
        · cases h
      · cases h
    · cases h
  · cases h
theorem elemOf_spec {t : TypeId} {i : ElemInfo} (h : elemOf P t = some i) : P.underlying t = some (.slice i.e) ∧ ∃ ti z, P.info? i.e = some ti ∧ ti.zero = some z ∧ ti.size = i.ks.length ∧ ti.bytes = i.bytes ∧ 0 < i.ks.length ∧ z.cells.size = i.ks.length ∧ z.cells.toList = rowV i.ks i.row := by
  unfold elemOf at h
  split at h
  · rename_i e hu
    split at h
    · rename_i ks ti hk hi
      split at h
      · rename_i z hz
        split at h
        · rename_i r hr
          split at h
          · rename_i hc
            cases h
            refine ⟨hu, ti, z, hi, hz, hc.1, rfl, hc.2.1, hc.2.2, ?_⟩
            have := toRow_spec hr
            have h1 : RelL (fun _ => none) (rowSV ks r) z.cells.toList := by rw [← this]; exact RelL.map_v _
            have h2 := row_rel (ρ := fun _ => none) ks r
            exact (RelL.unique (rowSV ks r) (by
              have : ∀ (ks : List CK) (r : RowT ks), sureL (rowSV ks r) = true := by
                intro ks
                induction ks with
                | nil => intro r; rfl
                | cons k ks ih => intro r; simp only [rowSV, sureL, ih r.2, Bool.and_true]; cases k <;> rfl
              exact this ks r) h1 h2)
          · cases h
        · cases h
      · cases h
    · cases h
  · cases h
theorem killB_length (mem : List Blk) (kl : Option Nat) : (killB mem kl).length = mem.length := by cases kl <;> simp [killB]
theorem Sim.drew {ρ : Loc} {st : St} {a : Act} {w : World} (S : Sim ρ w0 X st a w) : Sim ρ w0 X st a w.drew :=
  ⟨S.defers, S.tmps, ⟨S.mem.blk, S.mem.past, S.mem.apart⟩, ⟨S.frame.os, S.frame.tape, S.frame.output, S.frame.size, S.frame.block⟩⟩
theorem Sim.kill {ρ : Loc} {st : St} {a : Act} {w : World} (S : Sim ρ w0 X st a w) (kl : Option Nat) : Sim ρ w0 X { st with mem := killB st.mem kl } a w := by
  cases kl with
  | none => exact S
  | some b => exact ⟨S.defers, S.tmps, S.mem.kill b, S.frame⟩
/-- a new block of rows -/
theorem Sim.pushOwn {ρ : Loc} {st : St} {a : Act} {w : World} (S : Sim ρ w0 X st a w) (e : TypeId) {ks : List CK} {l : List (RowT ks)} {cap : Nat} (hcap : l.length ≤ cap) (hmax : cap ≤ maxLen) {cur : Array Value} (hsz : cur.size = cap * ks.length) (hcur : ∀ (j : Nat) (c : Value), (rowsV ks l)[j]? = some c → cur[j]? = some c) :
    ∃ ρ', Ext ρ ρ' ∧ Sim ρ' w0 X { st with mem := st.mem ++ [⟨true, .own e ks l⟩] } a (w.alloc (.cells cur e)) ∧ Rel ρ' (.oslc st.mem.length ks.length 0 l.length) (.slice (some ⟨w.heap.size, 0, none⟩) l.length cap) := by
  have he : Ext ρ (ext ρ st.mem.length ⟨w.heap.size, 0, some ⟨w.heap.size, 0, none⟩, cap⟩) := ext_ext (S.mem.past _ (Nat.le_refl _)) _
  have hold : ∀ k, k < w.heap.size → (w.alloc (.cells cur e)).heap[k]? = w.heap[k]? := fun k hk => by show (w.heap.push _)[k]? = _; rw [Array.getElem?_push, if_neg (by omega)]
  have hnew : (w.alloc (.cells cur e)).heap[w.heap.size]? = some (.cells cur e (0, 0)) := by show (w.heap.push _)[w.heap.size]? = _; simp
  refine ⟨_, he, ⟨S.defers, S.tmps.mono he, (S.mem.later hold (by simp)).push ⟨?_, hcap, hmax, fun _ => ⟨rfl, rfl, cur, hnew, hsz⟩⟩ fun hh => ⟨by simp, .inl S.frame.size, fun j bj rj hj hrj hh e => ?_⟩, S.frame.alloc _⟩, ?_⟩
  · refine RowsOK.iff.2 fun j c hj => ?_
    simp only [Nat.zero_add]
    refine ⟨?_, fun _ => ?_⟩
    · rw [World.cell?_alloc_at _ _ _ _ rfl]; exact hcur j c hj
    · exact World.frozen?_alloc_at _ _ _ _ rfl
  · obtain ⟨r, hr, _, hx⟩ := S.mem.blk j bj hj
    rw [hrj] at hr; cases hr
    have := (hx hh).1
    simp only at e
    omega
  · simp only [Rel]
    refine ⟨_, ext_at _ _ _, ?_, fun _ => ⟨rfl, by simpa using hcap⟩⟩
    congr 1
    split
    · rfl
    · simp [Addr.add]
/-- a block of rows whose place is known, that nothing else holds -/
theorem Sim.pushAt {ρ : Loc} {st : St} {a : Act} {w : World} (S : Sim ρ w0 X st a w) {e : TypeId} {ks : List CK} {l : List (RowT ks)} {r : Place} (hok : BodyOK ρ w true r (.own e ks l)) (hh : 0 < r.cap → r.1 < w.heap.size ∧ (w0.heap.size ≤ r.1 ∨ X r.1) ∧ ∀ j bj rj, st.mem[j]? = some bj → ρ j = some rj → bj.body.hold rj → rj.1 ≠ r.1) :
    ∃ ρ', Ext ρ ρ' ∧ Sim ρ' w0 X { st with mem := st.mem ++ [⟨true, .own e ks l⟩] } a w ∧ Rel ρ' (.oslc st.mem.length ks.length 0 l.length) (.slice r.ptr l.length r.cap) := by
  have he : Ext ρ (ext ρ st.mem.length r) := ext_ext (S.mem.past _ (Nat.le_refl _)) _
  refine ⟨_, he, ⟨S.defers, S.tmps.mono he, S.mem.push (hok.mono he) hh, S.frame⟩, ?_⟩
  simp only [Rel]
  obtain ⟨h1, h2, h3, h4⟩ := hok
  refine ⟨_, ext_at _ _ _, ?_, fun hp => ?_⟩
  · congr 1
    split
    · rfl
    · simp [Addr.add]
  · have hc : 0 < r.cap := by omega
    obtain ⟨e1, e2, _⟩ := h4 hc
    exact ⟨by rw [e2, e1], by simpa using h2⟩
theorem run_append_zero {t ty e : TypeId} {i : TypeInfo} (ht : P.underlying t = some (.slice e)) (hi : P.info? e = some i) (base b : Option Addr) {n cap c : Nat} (h : n ≤ cap) (w : World) :
    (Builtin.append_ #[t, t] ty #[.slice base n cap, .slice b 0 c]).run P w = .ok (.slice base n cap) w := by
  cases b with
  | none =>
    cases base with
    | none => simp [Builtin.append_, run_underlying ht, sizeOf, typeInfo, hi, Builtin.lenOf, Builtin.firstCells, h]
    | some a => simp [Builtin.append_, run_underlying ht, sizeOf, typeInfo, hi, Builtin.lenOf, Builtin.firstCells, h, storeCells]
  | some b =>
    cases base with
    | none => simp [Builtin.append_, run_underlying ht, sizeOf, typeInfo, hi, Builtin.lenOf, Builtin.firstCells, h, loadCells, loadCellsFrom]
    | some a => simp [Builtin.append_, run_underlying ht, sizeOf, typeInfo, hi, Builtin.lenOf, Builtin.firstCells, h, loadCells, loadCellsFrom, storeCells]
theorem appendX_sound {ρ : Loc} {st : St} {a : Act} {w : World} (S : Sim ρ w0 X st a w) {ts : Array TypeId} {ty : TypeId} {dst x : SV} {yd yx : Value} (hd : Rel ρ dst yd) (hx : Rel ρ x yx) {k : SV → List Blk → Tr α} (h : (appendX P ts.toList dst x st.mem k).holds R) :
    ∃ ρ' y' w' s' mem', Ext ρ ρ' ∧ (Builtin.append_ ts ty #[yd, yx]).run P w = .ok y' w' ∧ Sim ρ' w0 X { st with mem := mem' } a w' ∧ Rel ρ' s' y' ∧ (k s' mem').holds R := by
  unfold appendX at h
  split at h
  · rename_i t t' hts
    split at h
    · rename_i htt
      subst htt
      have hts : ts = #[t, t] := by apply Array.ext'; simpa using hts
      subst hts
      split at h
      · rename_i i hi
        obtain ⟨hu, ti, z, hti, hz, hsz, hby, hpos, hzs, hzr⟩ := elemOf_spec hi
        split at h
        · rename_i q n olds kl p m news hb hr
          obtain ⟨⟨hq, hp, h63, hbytes⟩, hk⟩ := h
          have hk := hk ⟨hq, hp, h63, hbytes⟩
          obtain ⟨hnl, xb, c, rfl, hxr⟩ := readRows_spec hr hp S.mem.memB hx
          have hnl' : (rowsV i.ks news).length = m * ti.size := by rw [rowsV_length, hnl, hsz]
          -- a new block
          have fresh : ∀ (old cap' : Nat) (w1 : World), w1 = w.drew → cap' = grownCap w (n + m) old i.e → olds.length = n →
              ∃ ρ' s' mem', Ext ρ ρ' ∧ Sim ρ' w0 X { st with mem := mem' } a (w1.alloc (.cells ((rowsV i.ks olds).toArray ++ (rowsV i.ks news).toArray ++ Builtin.zeroCells z.cells (cap' - (n + m))) i.e)) ∧ Rel ρ' s' (.slice (some ⟨w.heap.size, 0, none⟩) (n + m) cap') ∧ (k s' mem').holds R := by
            intro old cap' w1 hw1 hcap hol
            subst hw1; subst hcap
            have hge := grownCap_ge w (n + m) old i.e
            have hcm : grownCap w (n + m) old i.e ≤ maxLen := grownCap_le_maxLen w (n + m) old i.e (by simp only [maxLen]; omega)
            obtain ⟨ρ', he, S', hr'⟩ := (S.drew.kill kl).pushOwn i.e (ks := i.ks) (l := olds ++ news) (cap := grownCap w (n + m) old i.e) (cur := (rowsV i.ks olds).toArray ++ (rowsV i.ks news).toArray ++ Builtin.zeroCells z.cells (grownCap w (n + m) old i.e - (n + m)))
              (by simp [hol, hnl, hge]) hcm (by
                simp only [Array.size_append, List.size_toArray, size_zeroCells, hzs, rowsV_length, hol, hnl, ← Nat.add_mul]
                congr 1; omega) (fun j c hj => by
                rw [rowsV_append] at hj
                have hlt := (List.getElem?_eq_some_iff.1 hj).1
                have e : ((rowsV i.ks olds).toArray ++ (rowsV i.ks news).toArray ++ Builtin.zeroCells z.cells (grownCap w (n + m) old i.e - (n + m)))[j]? = ((rowsV i.ks olds ++ rowsV i.ks news) ++ (Builtin.zeroCells z.cells (grownCap w (n + m) old i.e - (n + m))).toList)[j]? := by
                  rw [← Array.getElem?_toList]; simp
                rw [e, List.getElem?_append_left hlt]
                exact hj)
            refine ⟨ρ', _, _, he, S', ?_, hk⟩
            simp only [killB_length, List.length_append, hol, hnl] at hr'
            exact hr'
          rcases Nat.eq_zero_or_pos m with hm0 | hm0
          · -- nothing is appended
            subst hm0
            have hn0 : news = [] := List.eq_nil_of_length_eq_zero hnl
            subst hn0
            rcases baseRows_spec hb hq hd with ⟨rfl, rfl, rfl, ab, rfl⟩ | ⟨b, l, r, rfl, hmb, hnl2, rfl, hrb, rfl⟩
            · obtain ⟨ρ', he, S', hr'⟩ := S.pushAt (e := i.e) (ks := i.ks) (l := []) (r := ⟨0, 0, ab, 0⟩) ⟨fun k x hk => by simp at hk, by simp, by simp, fun h => absurd h (Nat.lt_irrefl _)⟩ (fun h => absurd h (Nat.lt_irrefl _))
              exact ⟨ρ', _, w, _, _, he, run_append_zero hu hti ab xb (Nat.le_refl _) w, S', hr', by simpa [killB] using hk⟩
            · obtain ⟨r', hr2, hok, hxx⟩ := S.mem.blk b _ hmb
              rw [hrb] at hr2; cases hr2
              obtain ⟨o1, o2, o3, o4⟩ := hok
              obtain ⟨ρ', he, S', hr'⟩ := (S.kill (some b)).pushAt (e := i.e) (ks := i.ks) (l := l.take n) (r := r) ⟨fun k x hk => o1 k x (by rw [List.getElem?_take] at hk; split at hk; exact hk; cases hk), by simp; omega, o3, o4⟩ (fun hc => ⟨(hxx hc).1, (hxx hc).2 rfl, fun j bj rj hj hrj hhj => by
                  have hjb : j ≠ b := by
                    rintro rfl
                    have hl := (List.getElem?_eq_some_iff.1 hmb).1
                    simp [killB, hl] at hj
                    subst hj
                    exact hhj.elim
                  simp only [killB] at hj
                  rw [List.getElem?_set_ne (Ne.symm hjb)] at hj
                  exact fun e => S.mem.apart b j _ bj r rj (Ne.symm hjb) hmb hj rfl hrb hrj hc hhj e.symm⟩)
              have hl : (l.take n).length = n := by simp [hnl2]
              refine ⟨ρ', _, w, _, _, he, run_append_zero hu hti r.ptr xb (by omega) w, S', ?_, by simpa using hk⟩
              simp only [killB_length, hl, Nat.add_zero] at hr' ⊢
              exact hr'
          · have hxr := hxr.resolve_left (by omega)
            obtain ⟨xa, rfl, hnews⟩ := hxr
            rcases baseRows_spec hb hq hd with ⟨rfl, rfl, rfl, ab, rfl⟩ | ⟨b, l, r, rfl, hmb, hnl2, rfl, hrb, rfl⟩
            · obtain ⟨ρ', s', mem', he, S', hr', hk'⟩ := fresh 0 _ _ rfl rfl rfl
              cases ab with
              | none =>
                refine ⟨ρ', _, _, s', mem', he, ?_, S', hr', hk'⟩
                have := run_append_nil (P := P) w t ty i.e ti z hu hti hz xa m c (rowsV i.ks news) hnl' hnews hm0 (by omega) (by rw [hby]; have := hbytes; simp only [Nat.zero_add] at this; omega)
                simpa [rowsV] using this
              | some aa =>
                refine ⟨ρ', _, _, s', mem', he, ?_, S', hr', hk'⟩
                have := run_append_grow (P := P) w t ty i.e ti z hu hti hz aa 0 0 [] (by simp) (by simp) xa m c (rowsV i.ks news) hnl' hnews (by omega) (by omega) (by rw [hby]; exact growslice_fits (by omega) hbytes)
                simpa [rowsV] using this
            · obtain ⟨r', hr2, hok, hxx⟩ := S.mem.blk b _ hmb
              rw [hrb] at hr2; cases hr2
              obtain ⟨o1, o2, o3, o4⟩ := hok
              have hol : (l.take n).length = n := by simp [hnl2]
              by_cases hroom : n + m ≤ r.cap
              · have hc : 0 < r.cap := by omega
                obtain ⟨e1, e2, cur, e3, e4⟩ := o4 hc
                have hfit : n * ti.size + (rowsV i.ks news).length ≤ cur.size := by rw [hnl', e4, hsz, ← Nat.add_mul]; exact Nat.mul_le_mul_right _ hroom
                have hrun := run_append_room (P := P) w t ty i.e ti hu hti r.1 n r.cap cur e3 xa m c (rowsV i.ks news) hnl' hnews rowsV_one hroom hfit
                have hcurl : cur.toList.take (n * ti.size) = rowsV i.ks (l.take n) := by
                  apply List.ext_getElem?
                  intro j
                  rw [List.getElem?_take]
                  have hlen : (rowsV i.ks (l.take n)).length = n * ti.size := by rw [rowsV_length, hol, hsz]
                  split
                  · rename_i hj
                    have hj2 : j < (rowsV i.ks (l.take n)).length := by omega
                    rw [List.getElem?_eq_getElem hj2]
                    have hjl : (rowsV i.ks l)[j]? = some ((rowsV i.ks (l.take n))[j]) := by
                      have e : rowsV i.ks l = rowsV i.ks (l.take n) ++ rowsV i.ks (l.drop n) := by rw [← rowsV_append, List.take_append_drop]
                      rw [e, List.getElem?_append_left hj2]
                      simp
                    have := (RowsOK.iff.1 o1 j _ hjl).1
                    rw [e1, Nat.zero_add, cell_of_row w r.1 j cur i.e (0, 0) e3] at this
                    simpa using this
                  · rename_i hj
                    rw [List.getElem?_eq_none (by omega)]
                rw [hcurl] at hrun
                generalize hcur' : (rowsV i.ks (l.take n) ++ rowsV i.ks news ++ cur.toList.drop (n * ti.size + (rowsV i.ks news).length)).toArray = cur' at hrun
                have hw3 := setRow_heap w r.1 cur cur' i.e (0, 0) e3
                have hoth : ∀ k, k ≠ r.1 → (w.setRow r.1 cur').heap[k]? = w.heap[k]? := fun k hk => setRow_other w r.1 k _ hk
                have hS : Sim ρ w0 X { st with mem := killB st.mem (some b) } a (w.setRow r.1 cur') := ⟨S.defers, S.tmps, S.mem.upd hmb hrb (fun k hk => hoth k (hk hc)) (by simp) (fun h => h.elim) trivial, S.frame.upd S.mem hmb hrb hc rfl rfl rfl (by simp) hoth⟩
                obtain ⟨ρ', he, S', hr'⟩ := hS.pushAt (e := i.e) (ks := i.ks) (l := l.take n ++ news) (r := r) ⟨RowsOK.iff.2 fun j v hj => by
                    rw [rowsV_append] at hj
                    rw [e1, Nat.zero_add, cell_of_row _ r.1 j cur' i.e (0, 0) hw3]
                    refine ⟨?_, fun _ => by simp [World.frozen?, hw3]⟩
                    rw [← hcur']
                    have hlt := (List.getElem?_eq_some_iff.1 hj).1
                    simp only [List.getElem?_toArray]
                    rw [List.getElem?_append_left hlt]
                    exact hj, by simp [hnl, hnl2]; omega, o3, fun _ => ⟨e1, e2, cur', hw3, by
                    rw [← hcur', ← e4]
                    have : (rowsV i.ks (l.take n)).length = n * ti.size := by rw [rowsV_length, hol, hsz]
                    simp only [List.size_toArray, List.length_append, List.length_drop, Array.length_toList, this]
                    omega⟩⟩ (fun _ => ⟨by simpa using (hxx hc).1, (hxx hc).2 rfl, fun j bj rj hj hrj hhj => by
                    have hjb : j ≠ b := by
                      rintro rfl
                      have hl := (List.getElem?_eq_some_iff.1 hmb).1
                      simp [killB, hl] at hj
                      subst hj
                      exact hhj.elim
                    simp only [killB] at hj
                    rw [List.getElem?_set_ne (Ne.symm hjb)] at hj
                    exact fun e => S.mem.apart b j _ bj r rj (Ne.symm hjb) hmb hj rfl hrb hrj hc hhj e.symm⟩)
                refine ⟨ρ', _, _, _, _, he, by rw [e2]; exact hrun, S', ?_, by simpa using hk⟩
                simp only [killB_length, List.length_append, hol, hnl] at hr' ⊢
                rw [e2] at hr'
                exact hr'
              · obtain ⟨ρ', s', mem', he, S', hr', hk'⟩ := fresh r.cap _ _ rfl rfl hol
                refine ⟨ρ', _, _, s', mem', he, ?_, S', hr', hk'⟩
                rcases Nat.eq_zero_or_pos r.cap with hc | hc
                · have hl0 : l = [] := List.eq_nil_of_length_eq_zero (by omega)
                  subst hl0
                  have hn0 : n = 0 := by simpa using hnl2
                  subst hn0
                  cases hptr : r.ptr with
                  | none =>
                    have := run_append_nil (P := P) w t ty i.e ti z hu hti hz xa m c (rowsV i.ks news) hnl' hnews hm0 (by omega) (by rw [hby]; have := hbytes; simp only [Nat.zero_add] at this; omega)
                    rw [hc]
                    simpa [rowsV] using this
                  | some aa =>
                    have := run_append_grow (P := P) w t ty i.e ti z hu hti hz aa 0 0 [] (by simp) (by simp) xa m c (rowsV i.ks news) hnl' hnews (by omega) (by omega) (by rw [hby]; exact growslice_fits (by omega) hbytes)
                    rw [hc]
                    simpa [rowsV] using this
                · obtain ⟨e1, e2, cur, e3, e4⟩ := o4 hc
                  rw [e2]
                  refine run_append_grow (P := P) w t ty i.e ti z hu hti hz ⟨r.1, 0, none⟩ n r.cap (rowsV i.ks (l.take n)) (by rw [rowsV_length, hol, hsz]) (fun j v hj => ?_) xa m c (rowsV i.ks news) hnl' hnews (by omega) (by omega) (by rw [hby]; exact growslice_fits (by omega) hbytes)
                  have hjl : (rowsV i.ks l)[j]? = some v := by
                    have e : rowsV i.ks l = rowsV i.ks (l.take n) ++ rowsV i.ks (l.drop n) := by rw [← rowsV_append, List.take_append_drop]
                    rw [e, List.getElem?_append_left (List.getElem?_eq_some_iff.1 hj).1]
                    exact hj
                  have := (RowsOK.iff.1 o1 j _ hjl).1
                  rw [e1, Nat.zero_add] at this
                  rw [addr_add, Nat.zero_add]
                  exact this
        · exact h.elim
      · exact h.elim
    · exact h.elim
  · exact h.elim
theorem Sim.mem_tmps {ρ ρ' : Loc} {st : St} {a : Act} {w w' : World} (S : Sim ρ w0 X st a w) (he : Ext ρ ρ') {mem : List Blk} (hm : MemOK ρ' w0 X mem w') (hf : Frm w0 X w') : Sim ρ' w0 X { st with mem := mem } a w' :=
  ⟨S.defers, S.tmps.mono he, hm, hf⟩
theorem storeSV_sound {ρ : Loc} {st st' : St} {a : Act} {w : World} (S : Sim ρ w0 X st a w) {t : TypeId} {s x : SV} {ys yx : Value} (hs : Rel ρ s ys) (hx : Rel ρ x yx) (h : storeSV P st t s x = some st') :
    ∃ w', (Instr.storeAt t ys yx).run P w = .ok () w' ∧ Sim ρ w0 X st' a w' := by
  unfold storeSV at h
  split at h
  · rename_i b off
    simp only [Rel] at hs
    obtain ⟨r, hr, rfl⟩ := hs
    split at h
    · rename_i cs hb
      split at h
      · rename_i hc
        obtain ⟨hsz, hp, h1, hle⟩ := hc
        cases h
        have hcell := hx.cells (SV.plain_v hp) (SV.plain_any hp)
        obtain ⟨w', hrun, S'⟩ := Sim.setAll (P := P) x.cells yx.cells.toList S hb hr (j := off) (i := 0) (o := r.2 + off) (by omega) hle hcell h1
        refine ⟨w', ?_, S'⟩
        have hlen := hcell.length
        simp only [Instr.storeAt, Instr.sureAddr, Sem.run_bind, Sem.run_pure, Result.andThen_ok, storeVar, run_size hsz]
        rw [if_neg (by simp only [Array.length_toList] at hlen; omega)]
        simpa using hrun
      · cases h
    · cases h
  · cases h
/-- cells of a whole block of rows are written -/
theorem Sim.writeOwn {ρ : Loc} {st : St} {a : Act} {w : World} (S : Sim ρ w0 X st a w) {b : Nat} {e : TypeId} {ks : List CK} {l l' : List (RowT ks)} (hb : st.mem[b]? = some ⟨true, .own e ks l⟩) {r : Place} (hr : ρ b = some r) {o : Nat} {ys : List Value} (hone : ∀ u ∈ ys, u.oneCell' = true) (hl : l'.length = l.length) (hfit : o + ys.length ≤ l.length * ks.length) (hc : 0 < r.cap)
    (hl' : rowsV ks l' = (rowsV ks l).take o ++ ys ++ (rowsV ks l).drop (o + ys.length)) :
    ∃ w', (storeCells ⟨r.1, o, none⟩ ys).run P w = .ok () w' ∧ r.2 = 0 ∧ Sim ρ w0 X { st with mem := st.mem.set b ⟨true, .own e ks l'⟩ } a w' := by
  obtain ⟨r', hr2, hok, hxx⟩ := S.mem.blk b _ hb
  rw [hr] at hr2; cases hr2
  obtain ⟨o1, o2, o3, o4⟩ := hok
  obtain ⟨e1, e2, cur, e3, e4⟩ := o4 hc
  have hcl : l.length * ks.length ≤ cur.size := by rw [e4]; exact Nat.mul_le_mul_right _ o2
  have hrun := run_storeCells_at P r.1 o e ys 0 cur w e3 (by omega) hone
  simp only [Nat.add_zero] at hrun
  generalize hcur' : (cur.toList.take o ++ ys ++ cur.toList.drop (o + ys.length)).toArray = cur' at hrun
  have hw3 := setRow_heap w r.1 cur cur' e (0, 0) e3
  have hoth : ∀ k, k ≠ r.1 → (w.setRow r.1 cur').heap[k]? = w.heap[k]? := fun k hk => setRow_other w r.1 k _ hk
  have hcs : cur'.size = cur.size := by
    rw [← hcur']
    simp only [List.size_toArray, List.length_append, List.length_take, List.length_drop, Array.length_toList]
    omega
  have hcells : ∀ (j : Nat) (v : Value), (rowsV ks l)[j]? = some v → cur.toList[j]? = some v := by
    intro j v hj
    have := (RowsOK.iff.1 o1 j v hj).1
    rw [e1, Nat.zero_add, cell_of_row w r.1 j cur e (0, 0) e3] at this
    simpa using this
  refine ⟨_, hrun, e1, ⟨S.defers, S.tmps, S.mem.upd hb hr (fun k hk => hoth k (hk hc)) (by simp) (fun h => h) ⟨RowsOK.iff.2 fun j v hj => ?_, by rw [hl]; exact o2, o3, fun _ => ⟨e1, e2, cur', hw3, by rw [hcs, e4]⟩⟩, S.frame.upd S.mem hb hr hc rfl rfl rfl (by simp) hoth⟩⟩
  rw [e1, Nat.zero_add, cell_of_row _ r.1 j cur' e (0, 0) hw3]
  refine ⟨?_, fun _ => by simp [World.frozen?, hw3]⟩
  rw [hl'] at hj
  rw [← hcur']
  simp only [List.getElem?_toArray]
  have hrl : (rowsV ks l).length = l.length * ks.length := rowsV_length l
  have ht1 : ((rowsV ks l).take o).length = o := by simp; omega
  have ht2 : (cur.toList.take o).length = o := by simp; omega
  rw [List.append_assoc] at hj ⊢
  by_cases hjo : j < o
  · rw [List.getElem?_append_left (by omega), List.getElem?_take_of_lt hjo] at hj
    rw [List.getElem?_append_left (by omega), List.getElem?_take_of_lt hjo]
    exact hcells j v hj
  · rw [List.getElem?_append_right (by omega), ht1] at hj
    rw [List.getElem?_append_right (by omega), ht2]
    by_cases hjy : j - o < ys.length
    · rw [List.getElem?_append_left hjy] at hj ⊢
      exact hj
    · rw [List.getElem?_append_right (by omega), List.getElem?_drop] at hj ⊢
      exact hcells _ v hj
theorem setRange_take : ∀ (ss cs : List SV) (j : Nat), j + ss.length ≤ cs.length → setRange cs j ss = cs.take j ++ ss ++ cs.drop (j + ss.length)
  | [], cs, j, h => by simp [setRange]
  | s :: ss, cs, j, h => by
    simp only [List.length_cons] at h
    simp only [setRange]
    rw [setRange_take ss (cs.set j s) (j + 1) (by simp; omega)]
    have e1 : (cs.set j s).take (j + 1) = cs.take j ++ [s] := by
      apply List.ext_getElem?
      intro i
      simp only [List.getElem?_take, List.getElem?_set, List.getElem?_append, List.length_take]
      have : min j cs.length = j := by omega
      rw [this]
      by_cases h1 : i < j
      · simp [h1, show i < j + 1 by omega, show ¬ j = i by omega]
      · by_cases h2 : i = j
        · subst h2; simp [show i < cs.length by omega]
        · have : ∃ d, i - j = d + 1 := ⟨i - j - 1, by omega⟩
          obtain ⟨d, hd⟩ := this
          simp [h1, show ¬ i < j + 1 by omega, hd]
    have e2 : (cs.set j s).drop (j + 1 + ss.length) = cs.drop (j + (ss.length + 1)) := by
      apply List.ext_getElem?
      intro i
      simp only [List.getElem?_drop, List.getElem?_set]
      rw [if_neg (by omega)]
      congr 1; omega
    rw [e1, e2]
    simp
theorem rowsV_set {ks : List CK} : ∀ (l : List (RowT ks)) (k : Nat) (x : RowT ks), k < l.length → rowsV ks (l.set k x) = (rowsV ks l).take (k * ks.length) ++ rowV ks x ++ (rowsV ks l).drop (k * ks.length + ks.length)
  | [], k, x, h => by simp at h
  | r :: l, 0, x, h => by
    simp only [List.set_cons_zero, rowsV, List.flatMap_cons, Nat.zero_mul, List.take_zero, List.nil_append, Nat.zero_add]
    congr 1
    rw [List.drop_append_of_le_length (by rw [rowV_length]; exact Nat.le_refl _), List.drop_of_length_le (by rw [rowV_length]; exact Nat.le_refl _), List.nil_append]
  | r :: l, k + 1, x, h => by
    have ih := rowsV_set l k x (by simpa using h)
    simp only [rowsV] at ih
    simp only [List.set_cons_succ, rowsV, List.flatMap_cons, ih]
    have e1 : (rowV ks r ++ l.flatMap (rowV ks)).take ((k + 1) * ks.length) = rowV ks r ++ (l.flatMap (rowV ks)).take (k * ks.length) := by
      rw [List.take_append, List.take_of_length_le (by rw [rowV_length, Nat.add_mul]; omega), rowV_length]
      congr 2; rw [Nat.add_mul]; omega
    have e2 : (rowV ks r ++ l.flatMap (rowV ks)).drop ((k + 1) * ks.length + ks.length) = (l.flatMap (rowV ks)).drop (k * ks.length + ks.length) := by
      rw [List.drop_append, List.drop_of_length_le (by rw [rowV_length, Nat.add_mul]; omega), rowV_length, List.nil_append]
      congr 1; rw [Nat.add_mul]; omega
    rw [e1, e2]
    simp
theorem rowSV_rel_eq {ρ : Loc} : ∀ (ks : List CK) (r : RowT ks) (zs : List Value), RelL ρ (rowSV ks r) zs → zs = rowV ks r
  | [], r, zs, h => by simp only [rowSV, RelL] at h; simp [h, rowV]
  | k :: ks, r, zs, h => by
    simp only [rowSV] at h
    obtain ⟨y, zs', rfl, h1, h2⟩ := h.cons_inv
    simp only [rowV]
    rw [rowSV_rel_eq ks r.2 zs' h2]
    have : y = k.toV r.1 := by cases k <;> simpa [CK.toSV, CK.toV, Rel] using h1
    rw [this]
theorem storeX_sound {ρ : Loc} {st : St} {a : Act} {w : World} (S : Sim ρ w0 X st a w) {t : TypeId} {s x : SV} {ys yx : Value} (hs : Rel ρ s ys) (hx : Rel ρ x yx) {k : St → Tr α} (h : (storeX P t s x st k).holds R) :
    ∃ w' st', (Instr.storeAt t ys yx).run P w = .ok () w' ∧ Sim ρ w0 X st' a w' ∧ (k st').holds R := by
  unfold storeX at h
  split at h
  · rename_i b sz k' j
    split at h
    · rename_i e ks l hb
      split at h
      · rename_i hc
        obtain ⟨hsz, hp, h1, hle, hks⟩ := hc
        subst hks
        split at h
        · rename_i r' hr'
          obtain ⟨hk, h⟩ := h
          have h := h hk
          simp only [Rel] at hs
          obtain ⟨r, hr, rfl⟩ := hs
          obtain ⟨r2, hr2, hok, hxx⟩ := S.mem.blk b _ hb
          rw [hr] at hr2; cases hr2
          have hcap : 0 < r.cap := by have := hok.2.1; omega
          have hcell := hx.cells (SV.plain_v hp) (SV.plain_any hp)
          have hlen := hcell.length
          have hlx : l[k']? = some (l.getD k' (RowT.dflt ks)) := by rw [List.getD_eq_getElem?_getD, List.getElem?_eq_getElem hk, Option.getD_some]
          generalize hrow : l.getD k' (RowT.dflt ks) = row at *
          have hsr := toRow_spec hr'
          have hrl : (rowSV ks row).length = ks.length := rowSV_length ks row
          have hv : rowV ks r' = (rowV ks row).take j ++ yx.cells.toList ++ (rowV ks row).drop (j + yx.cells.toList.length) := by
            refine (rowSV_rel_eq (ρ := ρ) ks r' _ ?_).symm
            rw [← hsr, setRange_take _ _ _ (by rw [hrl]; exact hle)]
            have hr0 := row_rel (ρ := ρ) ks row
            rw [← hlen]
            exact ((hr0.take j).append hcell).append (hr0.drop _)
          have hmul : (k' + 1) * ks.length ≤ l.length * ks.length := Nat.mul_le_mul_right _ hk
          rw [Nat.add_mul, Nat.one_mul] at hmul
          have htk : (rowsV ks l).take (k' * ks.length + ks.length) = (rowsV ks l).take (k' * ks.length) ++ rowV ks row := by
            apply List.ext_getElem?
            intro i
            have hll : (rowsV ks l).length = l.length * ks.length := rowsV_length l
            have ht1 : ((rowsV ks l).take (k' * ks.length)).length = k' * ks.length := by simp; omega
            by_cases hi : i < k' * ks.length
            · rw [List.getElem?_append_left (by omega), List.getElem?_take_of_lt hi, List.getElem?_take_of_lt (by omega)]
            · rw [List.getElem?_append_right (by omega), ht1]
              by_cases hi2 : i < k' * ks.length + ks.length
              · rw [List.getElem?_take_of_lt hi2, ← rowsV_at l k' (i - k' * ks.length) row hlx (by omega)]
                congr 1; omega
              · rw [List.getElem?_take, if_neg hi2, List.getElem?_eq_none (by rw [rowV_length]; omega)]
          obtain ⟨w', hrun, e1, S'⟩ := S.writeOwn (P := P) hb hr (l' := l.set k' r') (o := k' * ks.length + j) (ys := yx.cells.toList) (by
              intro u hu
              have key : ∀ (ss : List SV) (zs : List Value), RelL ρ ss zs → ss.all SV.one = true → ∀ u ∈ zs, u.oneCell' = true := by
                intro ss
                induction ss with
                | nil => intro zs hz _ u hu; simp only [RelL] at hz; subst hz; simp at hu
                | cons s0 ss ih =>
                  intro zs hz ho u hu
                  obtain ⟨z, zs', rfl, a1, a2⟩ := hz.cons_inv
                  simp only [List.all_cons, Bool.and_eq_true] at ho
                  rcases List.mem_cons.1 hu with rfl | hu
                  · exact a1.one ho.1
                  · exact ih _ a2 ho.2 u hu
              exact key _ _ hcell h1 u hu) (by simp) (by rw [← hlen]; omega) hcap (by
              rw [rowsV_set l k' r' hk, hv]
              have hll : (rowsV ks l).length = l.length * ks.length := rowsV_length l
              have hdr : (rowsV ks l).drop (k' * ks.length) = rowV ks row ++ (rowsV ks l).drop (k' * ks.length + ks.length) := by
                have := List.take_append_drop (k' * ks.length + ks.length) (rowsV ks l)
                rw [htk] at this
                have e := congrArg (List.drop (k' * ks.length)) this
                rw [← e, List.append_assoc, List.drop_append_of_le_length (by rw [List.length_take]; omega), List.drop_eq_nil_of_le (by rw [List.length_take]; omega), List.nil_append]
              have e3 : (rowsV ks l).take (k' * ks.length + j) = (rowsV ks l).take (k' * ks.length) ++ (rowV ks row).take j := by
                rw [List.take_add, hdr, List.take_append_of_le_length (by rw [rowV_length]; omega)]
              have e4 : (rowsV ks l).drop (k' * ks.length + j + yx.cells.toList.length) = (rowV ks row).drop (j + yx.cells.toList.length) ++ (rowsV ks l).drop (k' * ks.length + ks.length) := by
                rw [Nat.add_assoc, ← List.drop_drop, hdr, List.drop_append_of_le_length (by rw [rowV_length, ← hlen]; omega)]
              rw [e3, e4]
              simp only [List.append_assoc])
          refine ⟨w', _, ?_, S', h⟩
          simp only [Instr.storeAt, Instr.sureAddr, Sem.run_bind, Sem.run_pure, Result.andThen_ok, storeVar, run_size hsz]
          rw [if_neg (by simp only [Array.length_toList] at hlen; omega), e1, Nat.zero_add]
          exact hrun
        · exact h.elim
      · exact h.elim
    · exact h.elim
  · split at h
    · rename_i st' hst
      obtain ⟨w', hrun, S'⟩ := storeSV_sound S hs hx hst
      exact ⟨w', st', hrun, S', h⟩
    · exact h.elim
theorem replZ_rel {ρ : Loc} (z : Value) (n : Nat) : RelL ρ (replZ z n) ((Array.range n).map (z.cells[· % z.cells.size]!)).toList := by
  have : ((Array.range n).map (z.cells[· % z.cells.size]!)).toList = (List.range n).map fun i => z.cells[i % z.cells.size]! := by simp
  rw [this]
  exact RelL.mapAll fun i => by simp [Rel]
theorem buildSliceX_sound {ρ : Loc} {st : St} {a : Act} {w : World} (S : Sim ρ w0 X st a w) {t : TypeId} {len : Nat} {parts : List (Nat × SV)} {vs : Array (Nat × Value)} (hi : parts.map (·.1) = vs.toList.map (·.1)) (hr : RelL ρ (parts.map (·.2)) (vs.toList.map (·.2))) {k : SV → List Blk → Tr α} (h : (buildSliceX P t len parts st.mem k).holds R) :
    ∃ ρ' y' w' s' mem', Ext ρ ρ' ∧ (Instr.buildSlice t len vs).run P w = .ok y' w' ∧ Sim ρ' w0 X { st with mem := mem' } a w' ∧ Rel ρ' s' y' ∧ (k s' mem').holds R := by
  unfold buildSliceX at h
  split at h
  · rename_i e hu
    split at h
    · rename_i size z hsz hz
      split at h
      · rename_i hc
        split at h
        · rename_i cells hf
          obtain ⟨ys, h1, h2⟩ := fill_sound _ parts vs.toList _ _ cells hi hr (replZ_rel z (len * size)) hf
          obtain ⟨he, S', hr'⟩ := S.alloc h2 e
          refine ⟨_, .slice (some ⟨w.heap.size, 0, none⟩) len len, _, _, _, he, ?_, S', ?_, h⟩
          · simp only [Instr.buildSlice, Sem.run_bind, run_underlying hu, Result.andThen_ok, run_size hsz]
            rw [if_neg (by omega), if_neg (by omega)]
            simp only [Sem.run_bind, Sem.run_pure, run_of_val? _ hz, Result.andThen_ok, h1, Array.toArray_toList]
            simp [newRow]
          · simp only [Rel]
            exact ⟨_, ext_at _ _ _, rfl⟩
        · exact h.elim
      · split at h
        · rename_i h0
          split at h
          · have hv : vs.toList = [] := by simpa using hi.symm
            obtain ⟨he, S', hr'⟩ := S.alloc (ys := []) .nil e
            refine ⟨_, .slice (some ⟨w.heap.size, 0, none⟩) len len, _, _, _, he, ?_, S', ?_, h⟩
            · simp only [Instr.buildSlice, Sem.run_bind, run_underlying hu, Result.andThen_ok, run_size hsz]
              rw [if_neg (by omega), if_pos h0]
              simp [hv, h0, newRow, Instr.fill]
              rw [show (Array.map (fun x => (default : Value)) (Array.range 0)) = #[] from Array.eq_empty_of_size_eq_zero (by simp)]
            · simp only [Rel]
              exact ⟨_, ext_at _ _ _, rfl⟩
          · exact h.elim
        · exact h.elim
    · exact h.elim
  · exact h.elim
theorem rowsV_replicate {ks : List CK} {row : RowT ks} {z : Array Value} (hz : z.toList = rowV ks row) (hs : z.size = ks.length) (hpos : 0 < ks.length) (n : Nat) : rowsV ks (List.replicate n row) = (List.range (n * ks.length)).map fun i => z[i % z.size]! := by
  apply List.ext_getElem?
  intro i
  by_cases hi : i < n * ks.length
  · have hk : i / ks.length < n := Nat.div_lt_of_lt_mul (by rw [Nat.mul_comm]; exact hi)
    have hm : i % ks.length < ks.length := Nat.mod_lt _ hpos
    have e : i / ks.length * ks.length + i % ks.length = i := by rw [Nat.mul_comm]; exact Nat.div_add_mod i ks.length
    have hx : (List.replicate n row)[i / ks.length]? = some row := by simp [hk]
    have := rowsV_at (List.replicate n row) _ _ _ hx hm
    rw [e] at this
    rw [this, ← hz]
    simp only [List.getElem?_map, List.getElem?_range hi, Option.map_some]
    rw [hs]
    have hm' : i % ks.length < z.size := by rw [hs]; exact hm
    simp [hm']
  · rw [List.getElem?_eq_none (by rw [rowsV_length]; simp; omega), List.getElem?_eq_none (by simp; omega)]
theorem makeSliceX_sound {ρ : Loc} {st : St} {a : Act} {w : World} (S : Sim ρ w0 X st a w) {t : TypeId} {sl sc : SV} {yl yc : Value} (hl : Rel ρ sl yl) (hc : Rel ρ sc yc) {k : SV → List Blk → Tr α} (h : (makeSliceX P t sl sc st.mem k).holds R) :
    ∃ ρ' y' w' s' mem', Ext ρ ρ' ∧ (Instr.makeSlice t yl yc).run P w = .ok y' w' ∧ Sim ρ' w0 X { st with mem := mem' } a w' ∧ Rel ρ' s' y' ∧ (k s' mem').holds R := by
  unfold makeSliceX at h
  split at h
  · rename_i kl l kc c
    simp only [Rel] at hl hc
    subst hl; subst hc
    split at h
    · rename_i i hi
      obtain ⟨hu, ti, z, hti, hz, hsz, hby, hpos, hzs, hzr⟩ := elemOf_spec hi
      obtain ⟨⟨rfl, h0, h1, h2⟩, hk⟩ := h
      have hk := hk ⟨rfl, h0, h1, h2⟩
      obtain ⟨n, rfl⟩ := Int.eq_ofNat_of_zero_le h0
      obtain ⟨ρ', he, S', hr'⟩ := S.pushOwn i.e (ks := i.ks) (l := List.replicate n i.row) (cap := n) (cur := madeCells z.cells (n * ti.size)) (by simp) (by simp only [maxLen]; omega) (by simp [hsz, madeCells]) (fun j v hj => by
        rw [rowsV_replicate hzr hzs hpos, ← hsz] at hj
        rw [← Array.getElem?_toList]
        simpa [madeCells] using hj)
      have hrun := run_make (P := P) w t i.e ti z hu hti hz kl kc (n : Int) (n : Int) h0 (Int.le_refl _) (by rw [hby, Int.mul_comm]; omega) (by omega)
      simp only [Int.toNat_natCast] at hrun hk
      refine ⟨ρ', _, _, _, _, he, hrun, S', ?_, hk⟩
      simpa using hr'
    · exact h.elim
  · exact h.elim
theorem rowsV_take {ks : List CK} {l : List (RowT ks)} (n : Nat) : (rowsV ks l).take (n * ks.length) = rowsV ks (l.take n) := by
  by_cases hn : n ≤ l.length
  · have e : rowsV ks l = rowsV ks (l.take n) ++ rowsV ks (l.drop n) := by rw [← rowsV_append, List.take_append_drop]
    have hl : (rowsV ks (l.take n)).length = n * ks.length := by rw [rowsV_length]; simp [hn]
    rw [e, ← hl, List.take_left]
  · rw [List.take_of_length_le (by rw [rowsV_length]; exact Nat.mul_le_mul_right _ (by omega)), List.take_of_length_le (by omega)]
theorem rowsV_drop {ks : List CK} {l : List (RowT ks)} (n : Nat) : (rowsV ks l).drop (n * ks.length) = rowsV ks (l.drop n) := by
  by_cases hn : n ≤ l.length
  · have e : rowsV ks l = rowsV ks (l.take n) ++ rowsV ks (l.drop n) := by rw [← rowsV_append, List.take_append_drop]
    have hl : (rowsV ks (l.take n)).length = n * ks.length := by rw [rowsV_length]; simp [hn]
    rw [e, ← hl, List.drop_left]
  · rw [List.drop_of_length_le (by rw [rowsV_length]; exact Nat.mul_le_mul_right _ (by omega)), List.drop_of_length_le (by omega)]; rfl
/-- rows laid over those of a whole block -/
theorem Sim.over {ρ : Loc} {st : St} {a : Act} {w : World} (S : Sim ρ w0 X st a w) {b : Nat} {e : TypeId} {ks : List CK} {l : List (RowT ks)} (hb : st.mem[b]? = some ⟨true, .own e ks l⟩) {r : Place} (hr : ρ b = some r) (k0 : Nat) (news : List (RowT ks)) (hfit : k0 + news.length ≤ l.length) (hc : 0 < r.cap) :
    ∃ w', (storeCells ⟨r.1, r.2 + k0 * ks.length, none⟩ (rowsV ks news)).run P w = .ok () w' ∧ Sim ρ w0 X { st with mem := st.mem.set b ⟨true, .own e ks (overRows l k0 news)⟩ } a w' := by
  have hmul : (k0 + news.length) * ks.length ≤ l.length * ks.length := Nat.mul_le_mul_right _ hfit
  rw [Nat.add_mul] at hmul
  obtain ⟨w', h1, h2, h3⟩ := S.writeOwn (P := P) hb hr (l' := overRows l k0 news) (o := k0 * ks.length) (ys := rowsV ks news) rowsV_one (by simp [overRows]; omega) (by rw [rowsV_length]; exact hmul) hc (by
    rw [overRows, rowsV_append, rowsV_append, ← rowsV_take, ← rowsV_drop, rowsV_length, Nat.add_mul])
  rw [h2, Nat.zero_add]
  exact ⟨w', h1, h3⟩
theorem over_nil {α : Type} (l : List α) (k : Nat) : overRows l k [] = l := by simp [overRows]
theorem set_same {mem : List Blk} {b : Nat} {x : Blk} (h : mem[b]? = some x) : mem.set b x = mem := by
  apply List.ext_getElem?
  intro k
  by_cases hk : b = k
  · subst hk; rw [List.getElem?_set_self (List.getElem?_eq_some_iff.1 h).1, h]
  · rw [List.getElem?_set_ne hk]
def byteRow (b : UInt8) : RowT byteK := ((b.toNat : Int), ())
theorem strRows_eq (s : ByteArray) : strRows s = s.data.toList.map byteRow := rfl
theorem strRows_length (s : ByteArray) : (strRows s).length = s.size := by rw [strRows_eq, List.length_map]; simp
theorem bytesV (bs : List UInt8) : rowsV byteK (bs.map byteRow) = bs.map fun b => Value.int .u8 b.toNat := by
  induction bs with
  | nil => rfl
  | cons b bs ih =>
    have : rowsV byteK ((b :: bs).map byteRow) = rowV byteK (byteRow b) ++ rowsV byteK (bs.map byteRow) := rfl
    rw [this, ih]; rfl
theorem copySrc_spec {mem : List Blk} {ks : List CK} {t : TypeId} {s : SV} {p : Prop} {m : Nat} {l : List (RowT ks)} (h : copySrc P mem ks t s = some (p, m, l)) (hp : p) {ρ : Loc} {w : World} {y : Value} (hm : MemB ρ mem w) (hs : Rel ρ s y) :
    l.length = m ∧ (Builtin.lenOf y).run P w = .ok m w ∧ ∀ n, n ≤ m → (Builtin.firstCells ks.length n y).run P w = .ok (rowsV ks (l.take n)).toArray w := by
  have rows : readRows mem ks s = some (p, m, l) → l.length = m ∧ (Builtin.lenOf y).run P w = .ok m w ∧ ∀ n, n ≤ m → (Builtin.firstCells ks.length n y).run P w = .ok (rowsV ks (l.take n)).toArray w := by
    intro h
    obtain ⟨h1, base, c, rfl, h2⟩ := readRows_spec h hp hm hs
    refine ⟨h1, rfl, fun n hn => ?_⟩
    rcases h2 with rfl | ⟨a, rfl, h2⟩
    · have : n = 0 := by omega
      subst this
      cases base with
      | none => simp [Builtin.firstCells, rowsV]
      | some a => simp [Builtin.firstCells, rowsV, loadCells, loadCellsFrom]
    · refine run_firstCells_some w ks.length n a m c (rowsV ks (l.take n)) (by rw [rowsV_length, List.length_take, Nat.min_eq_left (by omega)]) fun j v hj => h2 j v ?_
      rw [← rowsV_take] at hj
      rw [List.getElem?_take] at hj
      split at hj
      · exact hj
      · cases hj
  unfold copySrc at h
  split at h
  · rename_i s
    split at h
    · split at h
      · rename_i he
        subst he
        cases h
        simp only [Rel] at hs
        subst hs
        refine ⟨strRows_length s, rfl, fun n hn => ?_⟩
        have hb : byteK.length = 1 := rfl
        rw [hb]
        simp only [Builtin.firstCells, Sem.run_pure]
        congr 1
        apply Array.ext'
        have e1 : (s.extract 0 n).data = s.data.extract 0 n := by
          rw [ByteArray.data_extract]
        have e2 : rowsV byteK ((strRows s).take n) = (s.data.toList.take n).map fun b => Value.int .u8 b.toNat := by rw [strRows_eq, ← List.map_take]; exact bytesV _
        show _ = rowsV byteK ((strRows s).take n)
        rw [e2, e1]
        simp [List.extract_eq_take_drop]
      · cases h
    · cases h
  · exact rows h
theorem copyX_sound {ρ : Loc} {st : St} {a : Act} {w : World} (S : Sim ρ w0 X st a w) {ts : Array TypeId} {ty : TypeId} {dst x : SV} {yd yx : Value} (hd : Rel ρ dst yd) (hx : Rel ρ x yx) {k : SV → List Blk → Tr α} (h : (copyX P ts.toList dst x st.mem k).holds R) :
    ∃ y' w' s' mem', (Builtin.copy_ ts ty #[yd, yx]).run P w = .ok y' w' ∧ Sim ρ w0 X { st with mem := mem' } a w' ∧ Rel ρ s' y' ∧ (k s' mem').holds R := by
  unfold copyX at h
  split at h
  · rename_i t t' hts
    have hts : ts = #[t, t'] := by apply Array.ext'; simpa using hts
    subst hts
    split at h
    · rename_i i hi
      obtain ⟨hu, ti, z, hti, hz, hsz, hby, hpos, hzs, hzr⟩ := elemOf_spec hi
      split at h
      · rename_i b sz k0 n
        split at h
        · rename_i e ks l p m news hb hc
          split at h
          · rename_i hks
            subst hks
            split at h
            · rename_i hsz2
              subst hsz2
              obtain ⟨⟨hp, hfit⟩, hk⟩ := h
              have hk := hk ⟨hp, hfit⟩
              obtain ⟨hnl, hlen, hfirst⟩ := copySrc_spec hc hp S.mem.memB hx
              simp only [Rel] at hd
              obtain ⟨r, hr, rfl, hposn⟩ := hd
              have hmin : Nat.min m n ≤ m := Nat.min_le_left _ _
              have hmin2 : Nat.min m n ≤ n := Nat.min_le_right _ _
              have hf := hfirst (Nat.min m n) hmin
              have htl : (news.take (Nat.min m n)).length = Nat.min m n := by rw [List.length_take, Nat.min_eq_left (by omega)]
              have hrun0 : ∀ (base : Option Addr) (c : Nat) (w' : World), (match base with | some a => storeCells a (rowsV i.ks (news.take (Nat.min m n))) | none => pure ()).run P w = .ok () w' →
                  (Builtin.copy_ #[t, t'] ty #[.slice base n c, yx]).run P w = .ok (.int .i64 (Nat.min m n : Nat)) w' := by
                intro base c w' hst
                cases base with
                | none =>
                  simp only at hst
                  simp [Builtin.copy_, run_underlying hu, hlen, sizeOf, typeInfo, hti, hsz, hf, goInt]
                  simpa using hst
                | some aa =>
                  simp only at hst
                  simp [Builtin.copy_, run_underlying hu, hlen, sizeOf, typeInfo, hti, hsz, hf, goInt, hst]
              rcases Nat.eq_zero_or_pos (Nat.min m n) with h0 | h0
              · have hn0 : news.take (Nat.min m n) = [] := by rw [h0]; rfl
                refine ⟨_, w, _, _, hrun0 _ _ w ?_, ?_, by simp only [Rel], hk⟩
                · rw [hn0]
                  split <;> rfl
                · show Sim ρ w0 X { st with mem := st.mem.set b ⟨true, .own e i.ks (overRows l k0 (news.take (Nat.min m n)))⟩ } a w
                  rw [hn0, over_nil, set_same hb]; exact S
              · obtain ⟨hp1, hp2⟩ := hposn (by omega)
                obtain ⟨w', h1, S'⟩ := S.over (P := P) hb hr k0 (news.take (Nat.min m n)) (by rw [htl]; omega) (by omega)
                refine ⟨_, w', _, _, hrun0 _ _ w' ?_, S', by simp only [Rel], hk⟩
                rw [if_neg (by omega), hp1]
                simp only [Option.map_some, addr_add]
                exact h1
            · exact h.elim
          · exact h.elim
        · exact h.elim
      · exact h.elim
    · exact h.elim
  · exact h.elim
theorem clearX_sound {ρ : Loc} {st : St} {a : Act} {w : World} (S : Sim ρ w0 X st a w) {ts : Array TypeId} {ty : TypeId} {x : SV} {yx : Value} (hx : Rel ρ x yx) {k : SV → List Blk → Tr α} (h : (clearX P ts.toList x st.mem k).holds R) :
    ∃ y' w' s' mem', (Builtin.clear_ ts ty #[yx]).run P w = .ok y' w' ∧ Sim ρ w0 X { st with mem := mem' } a w' ∧ Rel ρ s' y' ∧ (k s' mem').holds R := by
  unfold clearX at h
  split at h
  · rename_i t hts
    have hts : ts = #[t] := by apply Array.ext'; simpa using hts
    subst hts
    split at h
    · rename_i i hi
      obtain ⟨hu, ti, z, hti, hz, hsz, hby, hpos, hzs, hzr⟩ := elemOf_spec hi
      split at h
      · rename_i b sz k0 n
        split at h
        · rename_i e ks l hb
          split at h
          · rename_i hks
            subst hks
            split at h
            · rename_i hsz2
              subst hsz2
              obtain ⟨hfit, hk⟩ := h
              have hk := hk hfit
              simp only [Rel] at hx
              obtain ⟨r, hr, rfl, hposn⟩ := hx
              rcases Nat.eq_zero_or_pos n with h0 | h0
              · subst h0
                refine ⟨.tuple #[], w, _, _, ?_, ?_, by simp only [Rel], hk⟩
                · cases hb : (if r.cap = k0 then r.ptr else r.ptr.map (·.add (k0 * i.ks.length))) <;> simp [Builtin.clear_, run_underlying hu]
                · show Sim ρ w0 X { st with mem := st.mem.set b ⟨true, .own e i.ks (overRows l k0 (List.replicate 0 i.row))⟩ } a w
                  rw [List.replicate_zero, over_nil, set_same hb]; exact S
              · obtain ⟨hp1, hp2⟩ := hposn h0
                obtain ⟨w', h1, S'⟩ := S.over (P := P) hb hr k0 (List.replicate n i.row) (by simpa using hfit) (by omega)
                refine ⟨.tuple #[], w', _, _, ?_, S', by simp only [Rel], hk⟩
                rw [if_neg (by omega), hp1]
                have hz0 : (Builtin.zeroCells z.cells n).toList = rowsV i.ks (List.replicate n i.row) := by
                  rw [rowsV_replicate hzr hzs hpos]
                  simp [Builtin.zeroCells, hzs]
                obtain ⟨n', rfl⟩ : ∃ n', n = n' + 1 := ⟨n - 1, by omega⟩
                simp only [Option.map_some, addr_add]
                simp [Builtin.clear_, run_underlying hu, zeroValue, typeInfo, hti, hz, hz0, h1]
            · exact h.elim
          · exact h.elim
        · exact h.elim
      · rename_i p n c
        split at h
        · rename_i h0
          subst h0
          simp only [Rel] at hx
          subst hx
          refine ⟨.tuple #[], w, _, _, ?_, S, by simp only [Rel], h⟩
          cases p <;> simp [Builtin.clear_, run_underlying hu]
        · exact h.elim
      · exact h.elim
    · exact h.elim
  · exact h.elim
theorem bytesX_sound {ρ : Loc} {w : World} {mem : List Blk} (hm : MemB ρ mem w) {src dst : TypeId} {s : SV} {y : Value} (hs : Rel ρ s y) {k : SV → Tr α} (h : (bytesX P src dst mem s k).holds R) :
    ∃ s' y', (∀ w', MemB ρ mem w' → (convert src dst y).run P w' = .ok y' w') ∧ Rel ρ s' y' ∧ (k s').holds R := by
  unfold bytesX at h
  split at h
  · rename_i e h1 h2
    split at h
    · rename_i h3
      split at h
      · rename_i p m l hr
        obtain ⟨hp, hk⟩ := h
        refine ⟨_, .string (rowsStr l), fun w' hm' => ?_, by simp [Rel], hk hp⟩
        obtain ⟨hl, base, c, rfl, hc⟩ := readRows_spec hr hp hm' hs
        rw [run_convert_bytes_string (P := P) w' src dst e base m c h1 h3 h2]
        have hfold : ∀ (l : List (RowT byteK)) (acc : ByteArray), (l.map fun x => x.1).foldl (fun r (n : Int) => r.push (UInt8.ofNat n.toNat)) acc = l.foldl (fun r x => r.push (UInt8.ofNat (Int.toNat x.1))) acc := by
          intro l
          induction l with
          | nil => intro acc; rfl
          | cons x l ih => intro acc; simp only [List.map_cons, List.foldl_cons]; exact ih _
        have hrows : ∀ l : List (RowT byteK), rowsV byteK l = (l.map fun x => x.1).map (Value.int .u8) := by
          intro l
          induction l with
          | nil => rfl
          | cons x l ih =>
            have : rowsV byteK (x :: l) = rowV byteK x ++ rowsV byteK l := rfl
            rw [this, ih]; rfl
        rcases hc with rfl | ⟨a, rfl, hc⟩
        · have hl0 : l = [] := List.eq_nil_of_length_eq_zero hl
          subst hl0
          cases base with
          | none => simp [Conv.bytesToString, rowsStr]
          | some a =>
            have := run_bytesToString (P := P) w' a 0 c [] (by simp [loadCells, loadCellsFrom])
            simpa [rowsStr] using this
        · have hload := run_loadCells_list (P := P) w' a (rowsV byteK l) hc
          have hll : (rowsV byteK l).length = m := by rw [rowsV_length, hl]; simp [byteK]
          rw [hll, hrows] at hload
          rw [run_bytesToString (P := P) w' a m c _ hload]
          rw [hfold]; rfl
      · exact h.elim
    · exact h.elim
  · exact h.elim
theorem rowLoad_sound {ρ : Loc} {w : World} {r : Place} {sz k' j : Nat} {cs : List SV} {t : TypeId} {s : SV} (hlen : cs.length = sz) (hcell : ∀ j s, cs[j]? = some s → ∃ y, w.cell? ⟨r.1, r.2 + (k' * sz + j), none⟩ = some y ∧ Rel ρ s y) (h : rowPart P t cs sz j = some s) :
    ∃ y, (Instr.loadAt t (.pointer (some ⟨r.1, r.2 + (k' * sz + j), none⟩))).run P w = .ok y w ∧ Rel ρ s y := by
  unfold rowPart at h
  split at h
  · rename_i ha
    split at h
    · rename_i m hn
      split at h
      · rename_i hle
        cases h
        obtain ⟨ys, h1, h2⟩ := load_cells (ρ := ρ) (w := w) r (k' * sz + j) ((cs.drop j).take m) 0 (fun i s hi => by
          have hi' : cs[j + i]? = some s := by
            rw [List.getElem?_take] at hi
            split at hi
            · rwa [List.getElem?_drop] at hi
            · cases hi
          obtain ⟨y, hy, hr⟩ := hcell _ _ hi'
          exact ⟨y, by rw [Nat.zero_add, show r.2 + (k' * sz + j) + i = r.2 + (k' * sz + (j + i)) by omega]; exact hy, hr⟩)
        have hl' : ys.length = m := by rw [← h1.length]; simp; omega
        refine ⟨.agg ys.toArray, ?_, by simp only [Rel]; exact ⟨ys, h1, rfl⟩⟩
        have hl := run_loadCells_list (P := P) w ⟨r.1, r.2 + (k' * sz + j), none⟩ ys (fun i v hi => by simpa using h2 i v hi)
        rw [hl'] at hl
        simp only [Instr.loadAt, Instr.sureAddr, Sem.run_bind, Sem.run_pure, Result.andThen_ok, loadVar, run_agg ha, if_true, run_size hn, hl]
      · cases h
    · cases h
  · rename_i ha
    obtain ⟨y, hy, hr2⟩ := hcell _ _ h
    refine ⟨y, ?_, hr2⟩
    simp only [Instr.loadAt, Instr.sureAddr, Sem.run_bind, Sem.run_pure, Result.andThen_ok, loadVar, run_agg ha, Bool.false_eq_true, if_false, run_load, hy]
  · cases h
theorem RowsOK.at {ρ : Loc} {w : World} {rw : Bool} {r : Place} {ks : List CK} {l : List (RowT ks)} (h : RowsOK w rw r ks l) {k : Nat} (hk : k < l.length) : ∀ j s, (rowSV ks (l.getD k (RowT.dflt ks)))[j]? = some s → ∃ y, w.cell? ⟨r.1, r.2 + (k * ks.length + j), none⟩ = some y ∧ Rel ρ s y := by
  intro j s hj
  obtain ⟨y, hy, hr⟩ := (row_rel (ρ := ρ) ks (l.getD k (RowT.dflt ks))).get hj
  have hx : l[k]? = some (l.getD k (RowT.dflt ks)) := by rw [List.getD_eq_getElem?_getD, List.getElem?_eq_getElem hk, Option.getD_some]
  exact ⟨y, (h k _ hx j y hy).1, hr⟩
theorem loadX_sound {ρ : Loc} {w : World} {mem : List Blk} (hm : MemB ρ mem w) {t : TypeId} {s : SV} {k : SV → Tr α} {ys : Value} (hs : Rel ρ s ys) (h : (loadX P mem t s k).holds R) :
    ∃ s' y, (∀ w', MemB ρ mem w' → (Instr.loadAt t ys).run P w' = .ok y w') ∧ Rel ρ s' y ∧ (k s').holds R := by
  unfold loadX at h
  split at h
  · rename_i b sz k' j
    split at h
    · rename_i rw n sz' get hb
      split at h
      · rename_i hsz
        subst hsz
        obtain ⟨hk, h⟩ := h
        have h := h hk
        split at h
        · rename_i s' hp
          split at h
          · rename_i hsure
            simp only [Rel] at hs
            obtain ⟨r, hr, rfl⟩ := hs
            have at_ : ∀ w', MemB ρ mem w' → ∃ y, (Instr.loadAt t (.pointer (some ⟨r.1, r.2 + (k' * sz' + j), none⟩))).run P w' = .ok y w' ∧ Rel ρ s' y := by
              intro w' hm'
              obtain ⟨r', hr', hbody⟩ := hm' b _ hb
              rw [hr] at hr'; cases hr'
              exact rowLoad_sound (hbody k' hk).1 (fun j s hj => let ⟨_, y, h1, h2, _⟩ := (hbody k' hk).2 j s hj; ⟨y, h1, h2⟩) hp
            obtain ⟨y, hy, hry⟩ := at_ w hm
            refine ⟨s', y, fun w' hm' => ?_, hry, h⟩
            obtain ⟨y', hy', hry'⟩ := at_ w' hm'
            rw [hy', Rel.unique s' hsure hry hry']
          · exact h.elim
        · exact h.elim
      · exact h.elim
    · rename_i rw ks l hb
      split at h
      · rename_i hsz
        subst hsz
        obtain ⟨hk, h⟩ := h
        have h := h hk
        split at h
        · rename_i s' hp
          split at h
          · rename_i hsure
            simp only [Rel] at hs
            obtain ⟨r, hr, rfl⟩ := hs
            have at_ : ∀ w', MemB ρ mem w' → ∃ y, (Instr.loadAt t (.pointer (some ⟨r.1, r.2 + (k' * ks.length + j), none⟩))).run P w' = .ok y w' ∧ Rel ρ s' y := by
              intro w' hm'
              obtain ⟨r', hr', hbody⟩ := hm' b _ hb
              rw [hr] at hr'; cases hr'
              have hbody : RowsOK w' rw r ks l := hbody
              exact rowLoad_sound (rowSV_length ks _) (hbody.at hk) hp
            obtain ⟨y, hy, hry⟩ := at_ w hm
            refine ⟨s', y, fun w' hm' => ?_, hry, h⟩
            obtain ⟨y', hy', hry'⟩ := at_ w' hm'
            rw [hy', Rel.unique s' hsure hry hry']
          · exact h.elim
        · exact h.elim
      · exact h.elim
    · rename_i rw e ks l hb
      split at h
      · rename_i hsz
        subst hsz
        obtain ⟨hk, h⟩ := h
        have h := h hk
        split at h
        · rename_i s' hp
          split at h
          · rename_i hsure
            simp only [Rel] at hs
            obtain ⟨r, hr, rfl⟩ := hs
            have at_ : ∀ w', MemB ρ mem w' → ∃ y, (Instr.loadAt t (.pointer (some ⟨r.1, r.2 + (k' * ks.length + j), none⟩))).run P w' = .ok y w' ∧ Rel ρ s' y := by
              intro w' hm'
              obtain ⟨r', hr', hbody⟩ := hm' b _ hb
              rw [hr] at hr'; cases hr'
              have hbody : RowsOK w' true r ks l := hbody.1
              exact rowLoad_sound (rowSV_length ks _) (hbody.at hk) hp
            obtain ⟨y, hy, hry⟩ := at_ w hm
            refine ⟨s', y, fun w' hm' => ?_, hry, h⟩
            obtain ⟨y', hy', hry'⟩ := at_ w' hm'
            rw [hy', Rel.unique s' hsure hry hry']
          · exact h.elim
        · exact h.elim
      · exact h.elim
    · exact h.elim
  · split at h
    · rename_i s' hl
      split at h
      · rename_i hsure
        obtain ⟨y, hy, hry⟩ := loadAt_sound hm hs hl
        refine ⟨s', y, fun w' hm' => ?_, hry, h⟩
        obtain ⟨y', hy', hry'⟩ := loadAt_sound hm' hs hl
        rw [hy', Rel.unique s' hsure hry hry']
      · exact h.elim
    · exact h.elim
theorem nilO_sound {ρ : Loc} {op : BinOp} {t : TypeId} {ox oy : Operand} {s1 s2 : SV} {y1 y2 : Value} {len : Nat} {b : Bool} (h1 : Rel ρ s1 y1) (h2 : Rel ρ s2 y2) (h : nilO P op t s1 s2 = some (len, b)) :
    ∃ c, (∀ w, (do eqGuard op t ox oy y1 y2; binOp op t y1 y2 : Sem Value).run P w = .ok (.bool c) w) ∧ (c = b ∨ len = 0 ∧ c = !b) := by
  unfold nilO at h
  split at h
  · rename_i b0 sz k0 n x
    split at h
    · rename_i e hu
      split at h
      · rename_i hn
        obtain ⟨b', hb, hbe⟩ := Option.map_eq_some_iff.1 h
        cases hbe
        obtain ⟨l, c, rfl⟩ := isNilSlc_spec hn
        simp only [Rel] at h1 h2
        obtain ⟨r, _, rfl, hpos⟩ := h1
        subst h2
        generalize hbase : (if r.cap = k0 then r.ptr else r.ptr.map (·.add (k0 * sz))) = base
        cases base with
        | some p => exact ⟨b, fun w => bin_nil hb trivial (by unfold Op.equal Op.maxDepth; exact (eq_nil_slc 9999 hu p _ _ l c w).1), .inl rfl⟩
        | none =>
          refine ⟨!b, fun w => ?_, .inr ⟨?_, rfl⟩⟩
          · have he : (Op.equal t (.slice none len (r.cap - k0)) (.slice none l c)).run P w = .ok true w := by
              unfold Op.equal Op.maxDepth; exact eq_nil_nil 9999 hu _ _ l c w
            have hop : (op = .eql ∧ b = false) ∨ (op = .neq ∧ b = true) := by
              cases op <;> simp_all [boolOp]
            rcases hop with ⟨rfl, rfl⟩ | ⟨rfl, rfl⟩ <;> simp [eqGuard, binOp, he]
          · rcases Nat.eq_zero_or_pos len with h0 | h0
            · exact h0
            · obtain ⟨h3, h4⟩ := hpos h0
              rw [h3] at hbase
              split at hbase <;> simp at hbase
      · cases h
    · cases h
  · cases h
theorem valOp_sound {ρ : Loc} {st : St} {a : Act} {w : World} (ht : RelL ρ st.tmps a.tmps.toList) (hm : MemB ρ st.mem w) {o : Oper} {k : SV → Tr α} (h : (valOp P o st k).holds R) :
    ∃ s y, (∀ w', MemB ρ st.mem w' → (execOp a.eval o).run P w' = .ok (.value y) w') ∧ Rel ρ s y ∧ (k s).holds R := by
  unfold valOp at h
  split at h
  · rename_i op t x y spot ho
    split at h
    · rename_i len b hn
      obtain ⟨c, hc, hcb⟩ := nilO_sound (ox := x) (oy := y) (ev_rel ht x) (ev_rel ht y) hn
      refine ⟨.v (.bool c), .bool c, fun w' _ => ?_, by simp [Rel], ?_⟩
      · have := hc w'
        simp only [execOp, ho]
        simp only [Sem.run_bind] at this ⊢
        rw [this]; rfl
      · rcases hcb with rfl | ⟨rfl, rfl⟩
        · cases hd : decide (0 < len) with
          | true => exact h.1 hd
          | false => exact (h.2 hd).1
        · exact (h.2 (by simp)).2
    · split at h
      · rename_i s hv
        obtain ⟨y, hy, hr⟩ := stepVal_sound ht hv
        exact ⟨s, y, fun w' _ => hy w', hr, h⟩
      · exact h.elim
  · rename_i c x y ho
    split at h
    · rename_i b hb
      have hc := ev_rel ht c
      rw [hb] at hc
      simp only [Rel] at hc
      cases b with
      | true => exact ⟨_, a.eval x, fun w' _ => by simp [execOp, ho, hc, asBool], ev_rel ht x, h.1 rfl⟩
      | false => exact ⟨_, a.eval y, fun w' _ => by simp [execOp, ho, hc, asBool], ev_rel ht y, h.2 rfl⟩
    · exact h.elim
  · rename_i t x i ho
    obtain ⟨s', y', hy, hr, hh⟩ := idxAddr_sound (ev_rel ht x) (ev_rel ht i) h
    exact ⟨s', y', fun w' _ => by simp [execOp, ho, hy], hr, hh⟩
  · rename_i t x i ho
    obtain ⟨s', y', hy, hr, hh⟩ := idx_sound (ev_rel ht x) (ev_rel ht i) h
    exact ⟨s', y', fun w' _ => by simp [execOp, ho, hy], hr, hh⟩
  · rename_i t x ho
    obtain ⟨s', y', hy, hr, hh⟩ := loadX_sound hm (ev_rel ht x) h
    exact ⟨s', y', fun w' hm' => by simp [execOp, ho, hy w' hm'], hr, hh⟩
  · rename_i t x lo hi mx ho
    split at h
    · rename_i hc
      split at h
      · rename_i lo' hi' mx' e1 e2 e3
        have hn : mx.map a.eval = none ∨ (hi.map a.eval).isSome = true := by
          cases mx <;> cases hi <;> simp_all
        obtain ⟨s', y', hy, hr, hh⟩ := sliceX_sound (optInt_spec ht e1) (optInt_spec ht e2) (optInt_spec ht e3) hn (ev_rel ht x) h
        exact ⟨s', y', fun w' _ => by simp [execOp, ho, hy], hr, hh⟩
      · exact h.elim
    · exact h.elim
  · rename_i src dst x ho
    split at h
    · obtain ⟨s', y', hy, hr, hh⟩ := bytesX_sound hm (ev_rel ht x) h
      exact ⟨s', y', fun w' hm' => by simp [execOp, ho, hy w' hm'], hr, hh⟩
    · split at h
      · rename_i s hv
        obtain ⟨y, hy, hr⟩ := stepVal_sound ht hv
        exact ⟨s, y, fun w' _ => hy w', hr, h⟩
      · exact h.elim
  · split at h
    · rename_i s hv
      obtain ⟨y, hy, hr⟩ := stepVal_sound ht hv
      exact ⟨s, y, fun w' _ => hy w', hr, h⟩
    · exact h.elim
theorem effOp_sound (hng : NoNG P) {callF : CallF α} (hcall : CallFOK P w0 X R callF) {o : Oper} {st : St} {k : St → Tr α} {ρ : Loc} {a : Act} {w : World} (S : Sim ρ w0 X st a w) (h : (effOp P callF o st k).holds R)
    {next : Act → World → Prop} {Q : Exit → Act → World → Prop} (hk : ∀ st' ρ' a' w', Ext ρ ρ' → Sim ρ' w0 X st' a' w' → (k st').holds R → next a' w') : o.wp P a w next Q := by
  unfold effOp at h
  split at h
  · rename_i e ho
    split at h
    · rename_i z hz
      obtain ⟨he, S', hr⟩ := S.alloc (cs := zcells z) (ys := z.cells.toList) (RelL.map_v _) e
      unfold Oper.wp
      have hrun : (execOp a.eval o).run P w = .ok (.value (.pointer (some ⟨w.heap.size, 0, none⟩))) (w.alloc (.cells z.cells.toList.toArray e)) := by
        simp [execOp, ho, Instr.alloc, run_of_val? _ hz, newVar, newRow]
      rw [hrun]
      exact hk _ _ _ _ he (S'.put hr _) h
    · exact h.elim
  · rename_i e x ho
    split at h
    · rename_i hp
      obtain ⟨he, S', hr⟩ := S.alloc (cs := (ev st x).cells) ((S.ev x).cells (SV.plain_v hp) (SV.plain_any hp)) e
      unfold Oper.wp
      have hrun : (execOp a.eval o).run P w = .ok (.value (.pointer (some ⟨w.heap.size, 0, none⟩))) (w.alloc (.cells (a.eval x).cells.toList.toArray e)) := by
        simp [execOp, ho, Instr.box, newVar, newRow]
      rw [hrun]
      exact hk _ _ _ _ he (S'.put hr _) h
    · exact h.elim
  · rename_i t p x ho
    obtain ⟨w', st', hrun, S', hh⟩ := storeX_sound S (S.ev p) (S.ev x) h
    unfold Oper.wp
    have hrun' : (execOp a.eval o).run P w = .ok .skip w' := by simp [execOp, ho, hrun]
    rw [hrun']
    exact hk _ _ _ _ (Ext.refl _) (S'.put (by simp [Rel]) _) hh
  · rename_i t len parts ho
    obtain ⟨ρ', y', w', s', mem', he, hrun, S', hr, hh⟩ := buildSliceX_sound (vs := parts.map fun p => (p.1, a.eval p.2)) S (by simp) (by simpa using parts_map S.tmps parts.toList) h
    unfold Oper.wp
    have hrun' : (execOp a.eval o).run P w = .ok (.value y') w' := by simp [execOp, ho, hrun]
    rw [hrun']
    exact hk _ _ _ _ he (S'.put hr _) hh
  · rename_i t l c ho
    obtain ⟨ρ', y', w', s', mem', he, hrun, S', hr, hh⟩ := makeSliceX_sound S (S.ev l) (S.ev c) h
    unfold Oper.wp
    have hrun' : (execOp a.eval o).run P w = .ok (.value y') w' := by simp [execOp, ho, hrun]
    rw [hrun']
    exact hk _ _ _ _ he (S'.put hr _) hh
  · rename_i c ho
    split at h
    · rename_i fo hcal
      split at h
      · rename_i f caps hf
        have hfv := S.ev fo
        rw [hf] at hfv
        simp only [Rel] at hfv
        obtain ⟨cys, hcys, hfo⟩ := hfv
        obtain ⟨⟨fn, cb, hfn, hb⟩, hC⟩ := hcall f _ st.mem _ ρ w ((c.args.map a.eval).toList ++ cys) S.mem S.frame ((map_ev S.tmps c.args).append hcys) h
        unfold Oper.wp
        have hrun : (execOp a.eval o).run P w = .ok (.enter f ((c.args.map a.eval).toList ++ cys).toArray) w := by
          have := run_callFunc hng (args := ((c.args.map a.eval).toList ++ cys).toArray) hfn hb w
          have e : (Array.map a.eval c.args ++ cys.toArray) = ((c.args.map a.eval).toList ++ cys).toArray := by apply Array.ext'; simp
          simp only [execOp, ho, resolve, hcal, hfo, Deferred.ofValue, Sem.run_bind, Sem.run_pure, Result.andThen_ok, invoke, Array.empty_append, e, this]
        rw [hrun]
        refine hC.mono ?_
        rintro e w' ⟨ρ', s, v, mem', rfl, he, hr, hm, hf', hh⟩
        exact hk _ _ _ _ he ((S.mem_tmps he hm hf').put hr _) hh
      · exact h.elim
    · rename_i b hcal
      have hrun0 : ∀ {y' : Value} {w' : World} (_ : (Go.builtin b c.argTypes o.type (c.args.map fun | .const _ => true | _ => false) (c.args.map a.eval)).run P w = .ok (.value y') w'), (execOp a.eval o).run P w = .ok (.value y') w' := fun h => by
        simp only [execOp, ho, resolve, hcal, Sem.run_bind, Sem.run_pure, Result.andThen_ok, invoke]
        exact h
      split at h
      · rename_i x y hargs
        have hargs : c.args = #[x, y] := by apply Array.ext'; simpa using hargs
        obtain ⟨ρ', y', w', s', mem', he, hrun, S', hr, hh⟩ := appendX_sound (ty := o.type) S (S.ev x) (S.ev y) h
        unfold Oper.wp
        rw [hrun0 (y' := y') (w' := w') (by simp [Go.builtin, hargs, hrun])]
        exact hk _ _ _ _ he (S'.put hr _) hh
      · rename_i x y hargs
        have hargs : c.args = #[x, y] := by apply Array.ext'; simpa using hargs
        obtain ⟨y', w', s', mem', hrun, S', hr, hh⟩ := copyX_sound (ty := o.type) S (S.ev x) (S.ev y) h
        unfold Oper.wp
        rw [hrun0 (y' := y') (w' := w') (by simp [Go.builtin, hargs, hrun])]
        exact hk _ _ _ _ (Ext.refl _) (S'.put hr _) hh
      · rename_i x hargs
        have hargs : c.args = #[x] := by apply Array.ext'; simpa using hargs
        obtain ⟨y', w', s', mem', hrun, S', hr, hh⟩ := clearX_sound (ty := o.type) S (S.ev x) h
        unfold Oper.wp
        rw [hrun0 (y' := y') (w' := w') (by simp [Go.builtin, hargs, hrun])]
        exact hk _ _ _ _ (Ext.refl _) (S'.put hr _) hh
      · exact h.elim
    · exact h.elim
  · exact h.elim
theorem stepOp_sound (hng : NoNG P) {callF : CallF α} (hcall : CallFOK P w0 X R callF) {o : Oper} {st : St} {k : St → Tr α} {ρ : Loc} {a : Act} {w : World} (S : Sim ρ w0 X st a w) (h : (stepOp P callF o st k).holds R)
    {next : Act → World → Prop} {Q : Exit → Act → World → Prop} (hk : ∀ st' ρ' a' w', Ext ρ ρ' → Sim ρ' w0 X st' a' w' → (k st').holds R → next a' w') : o.wp P a w next Q := by
  unfold stepOp at h
  split at h
  · obtain ⟨s, y, hy, hr, hh⟩ := valOp_sound S.tmps S.mem.memB h
    exact wp_value (hy w S.mem.memB) (hk _ _ _ _ (Ext.refl _) (S.put hr _) hh)
  · exact effOp_sound hng hcall S h hk
theorem runOps_sound (hng : NoNG P) {callF : CallF α} (hcall : CallFOK P w0 X R callF) (all : Array Oper) {Q : Exit → Act → World → Prop} : ∀ (ops : List Oper) {st : St} {k : St → Tr α} {ρ : Loc} {a : Act} {w : World}, Sim ρ w0 X st a w → (runOps P callF all ops st k).holds R →
    (∀ st' ρ' a' w', Ext ρ ρ' → Sim ρ' w0 X st' a' w' → (k st').holds R → Q .normal a' w') → wpList P all Q ops a w
  | [], st, k, ρ, a, w, S, h, hk => hk _ _ _ _ (Ext.refl _) S h
  | o :: os, st, k, ρ, a, w, S, h, hk => by
    have go : ∀ {st : St} {a : Act}, Sim ρ w0 X st a w → (stepOp P callF o st fun st' => runOps P callF all os st' k).holds R → o.wp P a w (wpList P all Q os) Q := fun S h =>
      stepOp_sound hng hcall S h fun st' ρ' a' w' he S' h' => runOps_sound hng hcall all os S' h' fun st'' ρ'' a'' w'' he' S'' h'' => hk _ _ _ _ (he.trans he') S'' h''
    have pass : ∀ {st : St} {a : Act}, Sim ρ w0 X st a w → (runOps P callF all os (st.put o.dst (.v undef)) k).holds R → wpList P all Q os (a.put o.dst undef) w := fun S h =>
      runOps_sound hng hcall all os (S.put (by simp [Rel]) _) h hk
    unfold wpList
    unfold runOps at h
    split at h
    · rename_i hg
      rw [if_pos (by simp [Region.wanted, hg])]
      exact .inl (go S h)
    · rename_i j want hg
      have hw : Region.wanted o (yielded all a.tmps) = (yielded all a.tmps j == some want) := by simp [Region.wanted, hg]
      rw [hw]
      split at h
      · rename_i hd
        rw [if_neg (by simp [yielded, hd])]
        exact pass S h
      · rename_i d hd
        split at h
        · rename_i ht
          have hl := S.tmps.length
          have hnone : a.tmps[d]? = none := by
            have : st.tmps.length ≤ d := by simpa using ht
            simp at hl ⊢; omega
          rw [if_neg (by simp [yielded, hd, hnone])]
          exact pass S h
        · rename_i b ht
          obtain ⟨y, hy, hr⟩ := S.tmps.get ht
          simp only [Rel] at hr
          subst hr
          have hy' : a.tmps[d]? = some (.bool b) := by simpa using hy
          have hyl : yielded all a.tmps j = some b := by simp [yielded, hd, hy']
          have Sb : Sim ρ w0 X (st.put (some d) (.v (.bool b))) a w := by
            have := S.put (ρ := ρ) (s := .v (.bool b)) (y := .bool b) (by simp [Rel]) (some d)
            have e : a.put (some d) (.bool b) = a := by
              cases a with
              | mk tmps defers =>
                simp only [Act.put]
                congr 1
                apply Array.ext'
                simp only [Array.toList_setIfInBounds]
                have hlt : d < tmps.toList.length := (List.getElem?_eq_some_iff.1 hy).1
                apply List.ext_getElem?
                intro i
                by_cases hi : d = i
                · subst hi; rw [List.getElem?_set_self hlt]; exact hy.symm
                · rw [List.getElem?_set_ne hi]
            rw [e] at this; exact this
          rw [hyl]
          cases want with
          | true =>
            cases b with
            | true => rw [if_pos (by decide)]; exact .inl (go Sb (h.1 rfl))
            | false => rw [if_neg (by decide)]; exact pass Sb (h.2 rfl)
          | false =>
            cases b with
            | true => rw [if_neg (by decide)]; exact pass Sb (h.1 rfl)
            | false => rw [if_pos (by decide)]; exact .inl (go Sb (h.2 rfl))
        · rename_i vs ht
          obtain ⟨y, hy, hr⟩ := S.tmps.get ht
          simp only [Rel] at hr
          subst hr
          have hy' : a.tmps[d]? = some (.tuple vs) := by simpa using hy
          rw [if_neg (by simp [yielded, hd, hy'])]
          exact pass S h
        · exact h.elim
theorem guardB_sound {ρ : Loc} {all : Array Oper} {o : Oper} {st : St} {a : Act} {b : Bool} (ht : RelL ρ st.tmps a.tmps.toList) (h : guardB all o st = some b) : Region.wanted o (yielded all a.tmps) = b := by
  unfold guardB at h
  split at h
  · rename_i hg; cases h; simp [Region.wanted, hg]
  · rename_i j want hg
    have hw : Region.wanted o (yielded all a.tmps) = (yielded all a.tmps j == some want) := by simp [Region.wanted, hg]
    rw [hw]
    split at h
    · rename_i hd; cases h; simp [yielded, hd]
    · rename_i d hd
      split at h
      · rename_i hn
        cases h
        have hl := ht.length
        have hnone : a.tmps[d]? = none := by
          have : st.tmps.length ≤ d := by simpa using hn
          simp at hl ⊢; omega
        simp [yielded, hd, hnone]
      · rename_i b0 hb
        cases h
        obtain ⟨y, hy, hr⟩ := ht.get hb
        simp only [Rel] at hr
        subst hr
        have hy' : a.tmps[d]? = some (.bool b0) := by simpa using hy
        simp [yielded, hd, hy']
      · rename_i vs hb
        cases h
        obtain ⟨y, hy, hr⟩ := ht.get hb
        simp only [Rel] at hr
        subst hr
        have hy' : a.tmps[d]? = some (.tuple vs) := by simpa using hy
        simp [yielded, hd, hy']
      · cases h
theorem put_same {a : Act} {d : Tmp} {y : Value} (hy : a.tmps.toList[d]? = some y) : a.put (some d) y = a := by
  cases a with
  | mk tmps defers =>
    simp only [Act.put]
    congr 1
    apply Array.ext'
    simp only [Array.toList_setIfInBounds]
    have hlt : d < tmps.toList.length := (List.getElem?_eq_some_iff.1 hy).1
    apply List.ext_getElem?
    intro i
    by_cases hi : d = i
    · subst hi; rw [List.getElem?_set_self hlt]; exact hy.symm
    · rw [List.getElem?_set_ne hi]
theorem decideTmp_sim {ρ : Loc} {all : Array Oper} {i : Nat} {d : Option Tmp} {st : St} {k : St → Tr α} {a : Act} {w : World} (S : Sim ρ w0 X st a w) (h : (decideTmp all i d st k).holds R) : ∃ st', Sim ρ w0 X st' a w ∧ (k st').holds R := by
  unfold decideTmp at h
  split at h
  · rename_i d _
    split at h
    · rename_i b hb
      obtain ⟨y, hy, hr⟩ := S.tmps.get hb
      simp only [Rel] at hr
      subst hr
      have := S.put (ρ := ρ) (s := .v (.bool b)) (y := .bool b) (by simp [Rel]) (some d)
      rw [put_same hy] at this
      cases b with
      | true => exact ⟨_, this, h.1 rfl⟩
      | false => exact ⟨_, this, h.2 rfl⟩
    · exact ⟨st, S, h⟩
  · exact ⟨st, S, h⟩
theorem maskMem_get (wr : List Nat) : ∀ (mem : List Blk) (i0 i : Nat), (maskMem wr i0 mem)[i]? = (mem[i]?).map fun b => if wr.contains (i0 + i) then ⟨b.rw, .dead⟩ else b
  | [], i0, i => by simp [maskMem]
  | b :: bs, i0, i => by
    cases i with
    | zero => simp [maskMem]
    | succ i => simp only [maskMem, List.getElem?_cons_succ, maskMem_get wr bs (i0 + 1) i]; rw [show i0 + 1 + i = i0 + (i + 1) by omega]
theorem BodyOK.down {n : Nat} {ρ ρ' : Loc} (hd : Down n ρ' ρ) {w : World} {rw : Bool} {r : Place} {b : Body} (hb : b.lo n = true) (h : BodyOK ρ' w rw r b) : BodyOK ρ w rw r b := by
  cases b with
  | lit cs =>
    intro j s hj
    obtain ⟨y, h1, h2, h3⟩ := h j s hj
    have lo : ∀ (l : List SV) (j : Nat) (s : SV), loL n l = true → l[j]? = some s → s.lo n = true := by
      intro l
      induction l with
      | nil => intro j s _ hj; simp at hj
      | cons x l ih =>
        intro j s hl hj
        simp only [loL, Bool.and_eq_true] at hl
        cases j with
        | zero => simp at hj; subst hj; exact hl.1
        | succ j => exact ih j s hl.2 (by simpa using hj)
    exact ⟨y, h1, h2.down hd s (lo cs j s hb hj), h3⟩
  | row m sz get =>
    intro k hk
    refine ⟨(h k hk).1, fun j s hj => ?_⟩
    obtain ⟨h0, y, h1, h2, h3⟩ := (h k hk).2 j s hj
    have hd0 : Down 0 ρ' ρ := fun i hi => absurd hi (Nat.not_lt_zero _)
    exact ⟨h0, y, h1, Rel.down hd0 s h0 h2, h3⟩
  | rows ks l => exact h
  | own e ks l => exact h
  | dead => trivial
/-- the blocks that are kept, in a later world -/
theorem masked_later {ρ ρ' : Loc} {wr : List Nat} {mem mem' masked : List Blk} {w' : World} (hmask : maskMem wr 0 mem = masked) (hdom : ∀ i, i < mem.length → ∃ r, ρ i = some r) (he : Ext ρ ρ') (hlo : memLo mem.length masked = true) (hm : MemB ρ' mem' w') (hkeep : maskMem wr 0 (mem'.take mem.length) = masked) : MemB ρ masked w' := by
  intro i b hi
  have hlen : masked.length = mem.length := by
    rw [← hmask]
    have : ∀ (l : List Blk) (i0 : Nat), (maskMem wr i0 l).length = l.length := by
      intro l; induction l with
      | nil => intro _; rfl
      | cons x l ih => intro i0; simp [maskMem, ih]
    exact this _ _
  have hil : i < mem.length := by rw [← hlen]; exact (List.getElem?_eq_some_iff.1 hi).1
  obtain ⟨r, hr⟩ := hdom i hil
  have hi2 := hi
  rw [← hkeep, maskMem_get] at hi2
  obtain ⟨b', hb', hbe⟩ := Option.map_eq_some_iff.1 hi2
  rw [List.getElem?_take_of_lt hil] at hb'
  obtain ⟨r', hr', hbody⟩ := hm i b' hb'
  rw [he _ _ hr] at hr'; cases hr'
  refine ⟨r, hr, ?_⟩
  have hlob : b.body.lo mem.length = true := by
    unfold memLo at hlo
    rw [List.all_eq_true] at hlo
    exact hlo b (List.mem_of_getElem? hi)
  have hdown : Down mem.length ρ' ρ := fun i hi r hr' => by
    obtain ⟨r0, hr0⟩ := hdom i hi
    rw [he _ _ hr0] at hr'; cases hr'; exact hr0
  refine BodyOK.down hdown hlob ?_
  split at hbe
  · subst hbe; trivial
  · subst hbe; exact hbody
theorem runDraw_sound (hng : NoNG P) {callF : CallF α} (hcall : CallFOK P w0 X R callF) {ops : Array Oper} (hsel : Region.noSelect ops = true) {wr : List Nat} {mem0 masked : List Blk} {ρ0 : Loc} (hmask : maskMem wr 0 mem0 = masked) (hdom : ∀ i, i < mem0.length → ∃ r, ρ0 i = some r) (hlo : memLo mem0.length masked = true)
    {Q : Exit → Act → World → Prop} (hQ : ∀ c a w, ¬ Q (.panic c) a w) : ∀ (n : Nat) {listed : Array Bool} {st : St} {k : St → Tr α} {ρ : Loc} {a : Act} {w : World}, Ext ρ0 ρ → Sim ρ w0 X st a w → MemB ρ0 masked w →
    (runDraw P callF ops wr mem0.length masked n listed st k).holds R → (∀ st' ρ' a' w', Ext ρ0 ρ' → Sim ρ' w0 X st' a' w' → (k st').holds R → Q .normal a' w') → wpAnyH P .any ops Q (MemB ρ0 masked) n listed a w
  | 0, listed, st, k, ρ, a, w, he0, S, hS, h, hk => by
    unfold runDraw at h
    split at h
    · rename_i hr; exact ⟨hr, hk _ _ _ _ he0 S h⟩
    · exact h.elim
  | n + 1, listed, st, k, ρ, a, w, he0, S, hS, h, hk => by
    unfold runDraw at h
    split at h
    · rename_i hr; exact wpAnyH_done hr (hk _ _ _ _ he0 S h) _
    · rename_i r rs hr
      split at h
      · rename_i i hi
        split at h
        · exact h.elim
        · rename_i o ho
          split at h
          · rename_i hg
            split at h
            · rename_i hc
              simp only [Bool.and_eq_true] at hc
              obtain ⟨⟨hcon, _⟩, hfree⟩ := hc
              have hm : MemB ρ masked w := fun i b hb => by
                obtain ⟨r, hr, hbody⟩ := hS i b hb
                exact ⟨r, he0 _ _ hr, hbody.mono he0⟩
              obtain ⟨s, y, hy, hry, hh⟩ := valOp_sound (st := { st with mem := masked }) S.tmps hm h
              obtain ⟨st', S', hh'⟩ := decideTmp_sim (S.put hry o.dst) hh
              refine wpAnyH_take ho hsel hfree hcon (fun c a w hq => absurd hq (hQ _ _ _)) (.inl ⟨guardB_sound S.tmps hg, fun w' hS' => hy w' fun i b hb => ?_⟩) hS (runDraw_sound hng hcall hsel hmask hdom hlo hQ n he0 S' hS hh' hk)
              obtain ⟨r, hr, hbody⟩ := hS' i b hb
              exact ⟨r, he0 _ _ hr, hbody.mono he0⟩
            · exact h.elim
          · rename_i hg
            split at h
            · rename_i hc
              simp only [Bool.and_eq_true] at hc
              exact wpAnyH_take ho hsel hc.2 hc.1 (fun c a w hq => absurd hq (hQ _ _ _)) (.inr ⟨guardB_sound S.tmps hg, rfl⟩) hS (runDraw_sound hng hcall hsel hmask hdom hlo hQ n he0 (S.put (by simp [Rel]) _) hS h hk)
            · exact h.elim
          · exact h.elim
      · refine wpAnyH_all hr (by simp) ?_
        have hall : ∀ (l : List Nat) (f : Nat → Tr α), (allOf l f).holds R → ∀ i ∈ l, (f i).holds R := by
          intro l
          induction l with
          | nil => intro f _ i hi; cases hi
          | cons x l ih =>
            intro f hf i hi
            cases l with
            | nil =>
              simp only [List.mem_singleton] at hi
              subst hi; exact hf
            | cons x' l' =>
              obtain ⟨h1, h2⟩ := hf
              rcases List.mem_cons.1 hi with rfl | hi
              · exact h1
              · exact ih f h2 i hi
        intro i hi
        have hi' := hall _ _ h i hi
        split at hi'
        · exact hi'.elim
        · rename_i o ho
          split at hi'
          · rename_i hg
            have hw := guardB_sound S.tmps hg
            unfold wpOp
            rw [ho]
            simp only [hw, if_true]
            refine .inl (stepOp_sound hng hcall S hi' ?_)
            intro st' ρ' a' w' he S' hh
            obtain ⟨hkeep, hh⟩ := hh
            obtain ⟨st'', S'', hh''⟩ := decideTmp_sim S' (hh hkeep)
            have hS' := masked_later hmask hdom (he0.trans he) hlo S'.mem.memB hkeep
            exact ⟨hS', runDraw_sound hng hcall hsel hmask hdom hlo hQ n (he0.trans he) S'' hS' hh'' hk⟩
          · rename_i hg
            have hw := guardB_sound S.tmps hg
            unfold wpOp
            rw [ho]
            simp only [hw, Bool.false_eq_true, if_false]
            exact ⟨hS, runDraw_sound hng hcall hsel hmask hdom hlo hQ n he0 (S.put (by simp [Rel]) _) hS hi' hk⟩
          · exact hi'.elim
def NoPan (Q : Exit → Act → World → Prop) : Exit → Act → World → Prop
  | .panic _, _, _ => False
  | e, a, w => Q e a w
def resF (tmps : Array Value) : ResultVar → Sem Value
  | .tmp t => pure (tmps.getD t undef)
  | .cell b t => do loadVar t (← asAddr (tmps.getD b undef))
theorem results_eq (fn : Func) (tmps : Array Value) : results fn tmps = (do let vs ← fn.results.mapM (resF tmps); pure (if h : vs.size = 1 then vs[0] else .tuple vs)) := by
  have e : (fun (r : ResultVar) => (match r with | .tmp t => pure (tmps.getD t undef) | .cell b t => do loadVar t (← asAddr (tmps.getD b undef)) : Sem Value)) = resF tmps := funext fun r => by cases r <;> rfl
  rw [← e]
  rfl
theorem res_one {ρ : Loc} {st : St} {a : Act} {w : World} (S : Sim ρ w0 X st a w) {r : ResultVar} {s : SV} (h : resVal P st r = some s) :
    ∃ y, ((resF a.tmps r).run P w = .ok y w) ∧ Rel ρ s y := by
  have hg : ∀ t, Rel ρ (st.tmps.getD t (.v undef)) (a.tmps.getD t undef) := fun t => by
    have := S.tmps.getD t
    simpa [List.getD_eq_getElem?_getD, Array.getD_eq_getD_getElem?] using this
  cases r with
  | tmp t =>
    simp only [resVal, Option.some.injEq] at h
    subst h
    exact ⟨_, rfl, hg t⟩
  | cell b t =>
    simp only [resVal] at h
    obtain ⟨y, hy, hr⟩ := loadAt_sound S.mem.memB (hg b) h
    refine ⟨y, ?_, hr⟩
    have hrel := hg b
    show (do loadVar t (← asAddr (a.tmps.getD b undef)) : Sem Value).run P w = .ok y w
    revert h hy hrel
    generalize st.tmps.getD b (.v undef) = sb
    generalize a.tmps.getD b undef = yb
    intro h hy hrel
    cases sb <;> simp only [loadAtSV] at h <;> try cases h
    simp only [Rel] at hrel
    obtain ⟨r, _, rfl⟩ := hrel
    simpa [asAddr, Instr.loadAt, Instr.sureAddr] using hy
theorem res_sound {ρ : Loc} {st : St} {a : Act} {w : World} (S : Sim ρ w0 X st a w) {fn : Func} {s : SV} (h : resSV P st fn.results.toList = some s) :
    ∃ y, (results fn a.tmps).run P w = .ok y w ∧ Rel ρ s y := by
  have key : ∀ (rs : List ResultVar) (ss : List SV), resVals P st rs = some ss →
      ∃ ys, (rs.mapM (resF a.tmps)).run P w = .ok ys w ∧ RelL ρ ss ys := by
    intro rs
    induction rs with
    | nil => intro ss h; simp [resVals] at h; subst h; exact ⟨[], rfl, .nil⟩
    | cons r rs ih =>
      intro ss h
      simp only [resVals] at h
      split at h
      · rename_i s0 ss0 h1 h2
        cases h
        obtain ⟨y, hy, hr⟩ := res_one S h1
        obtain ⟨ys, hys, hrs⟩ := ih _ h2
        refine ⟨y :: ys, ?_, .cons hr hrs⟩
        rw [List.mapM_cons]
        simp only [Sem.run_bind]
        rw [hy]
        simp only [Result.andThen_ok]
        rw [hys]
        rfl
      · cases h
  unfold resSV at h
  have hrun : ∀ (ys : List Value), (fn.results.toList.mapM (resF a.tmps)).run P w = .ok ys w →
      (results fn a.tmps).run P w = .ok (if h : ys.toArray.size = 1 then ys.toArray[0] else .tuple ys.toArray) w := by
    intro ys hys
    rw [results_eq, Array.mapM_eq_mapM_toList]
    simp only [Sem.run_bind, Sem.run_map]
    rw [hys]
    rfl
  split at h
  · rename_i s1 hr
    cases h
    obtain ⟨ys, hys, hrs⟩ := key _ _ hr
    obtain ⟨y, ys', rfl, h1, h2⟩ := hrs.cons_inv
    simp only [RelL] at h2; subst h2
    exact ⟨y, by rw [hrun _ hys]; rfl, h1⟩
  · rename_i ss hne hr
    cases h
    obtain ⟨ys, hys, hrs⟩ := key _ _ hr
    refine ⟨.tuple ys.toArray, ?_, by simp only [Rel]; exact ⟨ys, hrs, rfl⟩⟩
    rw [hrun _ hys]
    rw [dif_neg]
    intro hsz
    have hl := hrs.length
    match ss, hl with
    | [s1], _ => exact hne s1 rfl
    | [], hl => simp at hl hsz; omega
    | _ :: _ :: _, hl => simp at hl hsz; omega
  · cases h
theorem refine1_sim {ρ : Loc} {st : St} {a : Act} {w : World} (S : Sim ρ w0 X st a w) {c : Operand} {b : Bool} (h : ev st c = .v (.bool b)) : Sim ρ w0 X (refine1 st c b) a w := by
  cases c with
  | tmp d =>
    simp only [refine1]
    have hr := S.ev (.tmp d)
    rw [h] at hr
    simp only [Rel, Act.eval] at hr
    have := S.put (ρ := ρ) (s := .v (.bool b)) (y := .bool b) (by simp [Rel]) (some d)
    have e : a.put (some d) (.bool b) = a := by
      cases a with
      | mk tmps defers =>
        simp only [Act.put]
        congr 1
        apply Array.ext'
        simp only [Array.toList_setIfInBounds]
        have hr3 : tmps.getD d undef = .bool b := hr
        apply List.ext_getElem?
        intro i
        by_cases hi : d = i
        · subst hi
          by_cases hlt : d < tmps.toList.length
          · rw [List.getElem?_set_self hlt, ← hr3]
            have hlt' : d < tmps.size := by simpa using hlt
            simp [Array.getD, hlt']
          · rw [List.set_eq_of_length_le (Nat.le_of_not_lt hlt)]
        · rw [List.getElem?_set_ne hi]
    rw [e] at this; exact this
  | const _ => exact S
  | global _ => exact S
  | func _ => exact S
theorem exec_sound (hng : NoNG P) (hmix : P.follows .mixedOrders = true) {Γ : Env} (hΓ : EnvOK P Γ) : ∀ (n : Nat) (fid : FuncId) (c : Code) {st : St} {k : Ex → St → Tr α} {ρ : Loc} {a : Act} {w : World} {Q : Exit → Act → World → Prop}, Sim ρ w0 X st a w → (exec P Γ n fid c st k).holds R →
    (∀ e st' ρ' a' w', Ext ρ ρ' → Sim ρ' w0 X st' a' w' → (k e st').holds R → Q e.to a' w') → c.wp P Q a w
  | 0, fid, c, st, k, ρ, a, w, Q, S, h, hk => h.elim
  | n + 1, fid, c, st, k, ρ, a, w, Q, S, h, hk => by
    have hcall : CallFOK P w0 X R (callX P Γ n) := by
      intro f args mem k' ρ w ys hm hf hargs h
      unfold callX at h
      split at h
      · exact h.elim
      · rename_i fn hfn
        split at h
        · exact h.elim
        · rename_i cb hb
          refine ⟨⟨fn, cb, hfn, hb⟩, ?_⟩
          split at h
          · rename_i tr htr
            rw [Tr.holds_bind] at h
            exact hΓ f args mem tr htr ρ w0 X w ys _ hm hf hargs h
          · refine calls_of_wp hfn hb ?_
            have S' : Sim ρ w0 X ⟨args ++ List.replicate (fn.ntmps - args.length) (.v undef), mem⟩ { tmps := ys.toArray ++ Array.replicate (fn.ntmps - ys.toArray.size) undef, defers := [] } w := by
              refine ⟨rfl, ?_, hm, hf⟩
              have hl := hargs.length
              simpa [hl] using hargs.append (RelL.replicate (ρ := ρ) (s := .v undef) (y := undef) (by simp [Rel]) (fn.ntmps - args.length))
            refine exec_sound hng hmix hΓ n f cb S' h ?_
            intro e st' ρ' a' w' he S'' hh
            have fin : ∀ (hh : (match resSV P st' fn.results.toList with | some s => k' s st'.mem | none => .fail 6 : Tr α).holds R), a'.defers = [] ∧ ∃ v, (results fn a'.tmps).run P w' = .ok v w' ∧ CallPost ρ w0 X (fun r => (k' r.1 r.2).holds R) (.returned v) w' := by
              intro hh
              split at hh
              · rename_i s hs
                obtain ⟨y, hy, hr⟩ := res_sound S'' hs
                exact ⟨S''.defers, y, hy, ρ', s, y, st'.mem, rfl, he, hr, S''.mem, S''.frame, hh⟩
              · exact hh.elim
            cases e with
            | exit i => exact hh.elim
            | normal => exact fin hh
            | ret => exact fin hh
    unfold exec at h
    split at h
    · exact wp_skip (hk .normal _ _ _ _ (Ext.refl _) S h)
    · exact wp_label (hk .normal _ _ _ _ (Ext.refl _) S h)
    · exact wp_exit (hk (.exit _) _ _ _ _ (Ext.refl _) S h)
    · exact wp_ret (hk .ret _ _ _ _ (Ext.refl _) S h)
    · rename_i x y
      refine wp_seq (exec_sound hng hmix hΓ n fid x S h ?_)
      intro e st' ρ' a' w' he S' hh
      cases e with
      | normal => exact exec_sound hng hmix hΓ n fid y S' hh fun e st'' ρ'' a'' w'' he' S'' hh' => hk _ _ _ _ _ (he.trans he') S'' hh'
      | exit i => exact hk _ _ _ _ _ he S' hh
      | ret => exact hk _ _ _ _ _ he S' hh
    · rename_i id b
      refine wp_block (exec_sound hng hmix hΓ n fid b S h ?_)
      intro e st' ρ' a' w' he S' hh
      cases e with
      | normal => exact hk .normal _ _ _ _ he S' hh
      | exit i =>
        simp only [Ex.to, Exit.inBlock]
        by_cases hi : i = id
        · rw [if_pos hi]; simp only [hi, if_true] at hh; exact hk .normal _ _ _ _ he S' hh
        · rw [if_neg hi]; simp only [hi, if_false] at hh; exact hk (.exit i) _ _ _ _ he S' hh
      | ret => exact hk .ret _ _ _ _ he S' hh
    · rename_i b
      split at h
      · obtain ⟨Y, p, out, hgood, hout⟩ := h
        exact hgood ρ w0 X a w Q S fun y hy ρ' a' w' he S' => hk _ _ _ _ _ he S' (hout y hy)
      · rename_i hcut
        refine wp_loop_rounds (n + 1) ?_
        have key : ∀ (m : Nat), m ≤ n → ∀ {st : St} {ρ1 : Loc} {a : Act} {w : World}, Ext ρ ρ1 → Sim ρ1 w0 X st a w → (exec P Γ m fid b st fun e st' => match e with | .normal => exec P Γ m fid (.loop b) st' k | e => k e st').holds R → Code.rounds P b Q (m + 1) a w := by
          intro m
          induction m with
          | zero => intro _ st ρ1 a w _ _ h; exact h.elim
          | succ m ih =>
            intro hm st ρ1 a w he1 S h
            rw [rounds_succ]
            refine exec_sound hng hmix hΓ (m + 1) fid b S h ?_
            intro e st' ρ' a' w' he S' hh
            cases e with
            | normal => exact ih (by omega) (he1.trans he) S' (by simpa only [exec, hcut] using hh)
            | exit i => exact hk _ _ _ _ _ (he1.trans he) S' hh
            | ret => exact hk _ _ _ _ _ (he1.trans he) S' hh
        exact key n (Nat.le_refl _) (Ext.refl _) S h
    · rename_i c x y
      split at h
      · rename_i b hb
        have hc := S.ev c
        rw [hb] at hc
        simp only [Rel] at hc
        cases b with
        | true => exact wp_cond_true hc (exec_sound hng hmix hΓ n fid x (refine1_sim S hb) (h.1 rfl) hk)
        | false => exact wp_cond_false hc (exec_sound hng hmix hΓ n fid y (refine1_sim S hb) (h.2 rfl) hk)
      · exact h.elim
    · rename_i id ops draw
      cases draw with
      | false => exact wp_region_list (runOps_sound hng hcall ops ops.toList S h fun st' ρ' a' w' he S' hh => hk .normal _ _ _ _ he S' hh)
      | true =>
        simp only at h
        split at h
        · rename_i hc
          simp only [Bool.and_eq_true] at hc
          have hS0 : MemB ρ (maskMem (Γ.wr fid id ++ scanWr P ops.toList st) 0 st.mem) { w with drawn := w.drawn + 1 } := by
            intro i b hb
            rw [maskMem_get] at hb
            obtain ⟨b', hb', hbe⟩ := Option.map_eq_some_iff.1 hb
            obtain ⟨r, hr, hbody⟩ := S.mem.memB i b' hb'
            refine ⟨r, hr, ?_⟩
            split at hbe
            · subst hbe; trivial
            · subst hbe; exact hbody
          have Sd : Sim ρ w0 X st a { w with drawn := w.drawn + 1 } := ⟨S.defers, S.tmps, ⟨S.mem.blk, S.mem.past, S.mem.apart⟩, ⟨S.frame.os, S.frame.tape, S.frame.output, S.frame.size, S.frame.block⟩⟩
          have hdom : ∀ i, i < st.mem.length → ∃ r, ρ i = some r := fun i hi => by
            obtain ⟨r, hr, _⟩ := S.mem.memB i _ (List.getElem?_eq_getElem hi)
            exact ⟨r, hr⟩
          have := wp_region_held (id := id) (P := P) (Q := NoPan Q) hmix (runDraw_sound hng hcall hc.1 rfl hdom hc.2 (Q := NoPan Q) (fun _ _ _ hq => hq) ops.size (Ext.refl _) Sd hS0 h fun st' ρ' a' w' he S' hh => hk .normal _ _ _ _ he S' hh)
          exact wp_mono this fun e a w hq => by cases e <;> first | exact hq | exact hq.elim
        · exact h.elim
    · exact h.elim
/-- A call, by its run. -/
theorem calls_of_exec (hng : NoNG P) (hmix : P.follows .mixedOrders = true) {Γ : Env} (hΓ : EnvOK P Γ) (n : Nat) (f : FuncId) {fn : Func} {c : Code} (hfn : P.funcs[f]? = some fn) (hb : fn.body = some c) (hno : ∀ args mem, Γ.call f args mem = none) {args : List SV} {mem : List Blk} {ρ : Loc} {w : World} {ys : List Value} {R : SV × List Blk → Prop}
    (hm : MemOK ρ w0 X mem w) (hf : Frm w0 X w) (hargs : RelL ρ args ys) (h : (callX P Γ n f args mem fun s mem => .ok (s, mem)).holds R) : Calls P f ys.toArray w (CallPost ρ w0 X R) := by
  unfold callX at h
  simp only [hfn, hb, hno] at h
  refine calls_of_wp hfn hb ?_
  have S' : Sim ρ w0 X ⟨args ++ List.replicate (fn.ntmps - args.length) (.v undef), mem⟩ { tmps := ys.toArray ++ Array.replicate (fn.ntmps - ys.toArray.size) undef, defers := [] } w := by
    refine ⟨rfl, ?_, hm, hf⟩
    have hl := hargs.length
    simpa [hl] using hargs.append (RelL.replicate (ρ := ρ) (s := .v undef) (y := undef) (by simp [Rel]) (fn.ntmps - args.length))
  refine exec_sound hng hmix hΓ n f c S' h ?_
  intro e st' ρ' a' w' he S'' hh
  have fin : ∀ (hh : (match resSV P st' fn.results.toList with | some s => .ok (s, st'.mem) | none => .fail 6 : Tr (SV × List Blk)).holds R), a'.defers = [] ∧ ∃ v, (results fn a'.tmps).run P w' = .ok v w' ∧ CallPost ρ w0 X R (.returned v) w' := by
    intro hh
    split at hh
    · rename_i s hs
      obtain ⟨y, hy, hr⟩ := res_sound S'' hs
      exact ⟨S''.defers, y, hy, ρ', s, y, st'.mem, rfl, he, hr, S''.mem, S''.frame, hh⟩
    · exact hh.elim
  cases e with
  | exit i => exact hh.elim
  | normal => exact fin hh
  | ret => exact fin hh
end

/-! ## 9. Going along a tree -/
inductive Step where
  | run (n : Nat)
  | yes
  | no
structure Path (α : Type) where
  conds : List (Bool × Bool)
  xs : List (List Blk)
  ys : List (List Blk)
  rest : Tr α
def Tr.runN {α : Type} : Nat → Tr α → Path α
  | 0, t => ⟨[], [], [], t⟩
  | n + 1, .br true t _ => Tr.runN n t
  | n + 1, .br false _ e => Tr.runN n e
  | n + 1, .same x y k => let p := Tr.runN n k; ⟨p.conds, x :: p.xs, y :: p.ys, p.rest⟩
  | _ + 1, t => ⟨[], [], [], .fail 98⟩
def Tr.go {α : Type} : List Step → Tr α → Path α
  | [], t => ⟨[], [], [], t⟩
  | .run n :: ss, t => let p := Tr.runN n t; let q := Tr.go ss p.rest; ⟨q.conds, p.xs ++ q.xs, p.ys ++ q.ys, q.rest⟩
  | .yes :: ss, .br c t _ => let q := Tr.go ss t; ⟨(c, true) :: q.conds, q.xs, q.ys, q.rest⟩
  | .no :: ss, .br c _ e => let q := Tr.go ss e; ⟨(c, false) :: q.conds, q.xs, q.ys, q.rest⟩
  | _, _ => ⟨[], [], [], .fail 99⟩
theorem Tr.runN_holds {α : Type} {Q : α → Prop} : ∀ (n : Nat) (t : Tr α), (Tr.runN n t).xs = (Tr.runN n t).ys → (Tr.runN n t).rest.holds Q → t.holds Q
  | 0, t, _, h => h
  | n + 1, .br true t e, hs, h => ⟨fun _ => Tr.runN_holds n t hs h, (fun c => by cases c)⟩
  | n + 1, .br false t e, hs, h => ⟨(fun c => by cases c), fun _ => Tr.runN_holds n e hs h⟩
  | n + 1, .same x y k, hs, h => by
    simp only [Tr.runN, List.cons.injEq] at hs h
    exact ⟨hs.1, fun _ => Tr.runN_holds n k hs.2 h⟩
  | n + 1, .ok a, _, h => by simp [Tr.runN, Tr.holds] at h
  | n + 1, .both .., _, h => by simp [Tr.runN, Tr.holds] at h
  | n + 1, .need .., _, h => by simp [Tr.runN, Tr.holds] at h
  | n + 1, .all .., _, h => by simp [Tr.runN, Tr.holds] at h
  | n + 1, .lp .., _, h => by simp [Tr.runN, Tr.holds] at h
  | n + 1, .fail _, _, h => by simp [Tr.runN, Tr.holds] at h
theorem Tr.runN_len {α : Type} : ∀ (n : Nat) (t : Tr α), (Tr.runN n t).xs.length = (Tr.runN n t).ys.length
  | 0, t => rfl
  | n + 1, .br true t e => Tr.runN_len n t
  | n + 1, .br false t e => Tr.runN_len n e
  | n + 1, .same x y k => by simp [Tr.runN, Tr.runN_len n k]
  | n + 1, .ok a => rfl
  | n + 1, .both .. => rfl
  | n + 1, .need .. => rfl
  | n + 1, .all .. => rfl
  | n + 1, .lp .. => rfl
  | n + 1, .fail _ => rfl
theorem Tr.go_holds {α : Type} {Q : α → Prop} : ∀ (ss : List Step) (t : Tr α), (Tr.go ss t).xs = (Tr.go ss t).ys → (∀ c ∈ (Tr.go ss t).conds, c.1 = c.2) → (Tr.go ss t).rest.holds Q → t.holds Q
  | [], t, _, _, h => h
  | .run n :: ss, t, hs, hc, h => by
    simp only [Tr.go] at hs hc h
    obtain ⟨h1, h2⟩ := List.append_inj hs (Tr.runN_len n t)
    exact Tr.runN_holds n t h1 (Tr.go_holds ss _ h2 hc h)
  | .yes :: ss, .br c t e, hs, hc, h => by
    simp only [Tr.go] at hs hc h
    have hcc := hc (c, true) (by simp)
    simp only at hcc
    exact ⟨fun _ => Tr.go_holds ss t hs (fun x hx => hc x (by simp [hx])) h, fun hf => by rw [hcc] at hf; cases hf⟩
  | .no :: ss, .br c t e, hs, hc, h => by
    simp only [Tr.go] at hs hc h
    have hcc := hc (c, false) (by simp)
    simp only at hcc
    exact ⟨(fun hf => by rw [hcc] at hf; cases hf), fun _ => Tr.go_holds ss e hs (fun x hx => hc x (by simp [hx])) h⟩
  | .yes :: ss, .ok a, hs, hc, h => h.elim
  | .yes :: ss, .both .., hs, hc, h => h.elim
  | .yes :: ss, .need .., hs, hc, h => h.elim
  | .yes :: ss, .same .., hs, hc, h => h.elim
  | .yes :: ss, .all .., hs, hc, h => h.elim
  | .yes :: ss, .lp .., hs, hc, h => h.elim
  | .yes :: ss, .fail _, hs, hc, h => h.elim
  | .no :: ss, .ok a, hs, hc, h => h.elim
  | .no :: ss, .both .., hs, hc, h => h.elim
  | .no :: ss, .need .., hs, hc, h => h.elim
  | .no :: ss, .same .., hs, hc, h => h.elim
  | .no :: ss, .all .., hs, hc, h => h.elim
  | .no :: ss, .lp .., hs, hc, h => h.elim
  | .no :: ss, .fail _, hs, hc, h => h.elim
def Conds : List (Bool × Bool) → Prop
  | [] => True
  | c :: cs => c.1 = c.2 ∧ Conds cs
theorem Conds.mem : ∀ {cs : List (Bool × Bool)}, Conds cs → ∀ c ∈ cs, c.1 = c.2
  | _ :: _, ⟨h, hs⟩, c, hc => by
    rcases List.mem_cons.1 hc with rfl | hc
    · exact h
    · exact hs.mem c hc
/-- along one way to what is left -/
theorem Tr.along {α : Type} {Q : α → Prop} {t : Tr α} (ss : List Step) {cs : List (Bool × Bool)} (hc : (t.go ss).conds = cs) (hs : (t.go ss).xs = (t.go ss).ys) (h : Conds cs) (hr : (t.go ss).rest.holds Q) : t.holds Q :=
  Tr.go_holds ss t hs (fun c hm => (hc ▸ h).mem c hm) hr
def Tr.leaf? {α β : Type} (f : α → β) : Tr α → Option β
  | .ok a => some (f a)
  | _ => none
theorem Tr.leaf_holds {α β : Type} {Q : α → Prop} {t : Tr α} {f : α → β} {y : β} (h : t.leaf? f = some y) (hq : ∀ a, f a = y → Q a) : t.holds Q := by
  cases t <;> simp [Tr.leaf?] at h
  exact hq _ h
/-- .. to a leaf, of which a part is looked at -/
theorem Tr.end_ {α β : Type} {Q : α → Prop} {t : Tr α} (ss : List Step) {cs : List (Bool × Bool)} (f : α → β) {y : β} (hc : ((t.go ss).conds, (t.go ss).xs, (t.go ss).rest.leaf? f) = (cs, (t.go ss).ys, some y)) (h : Conds cs) (hq : ∀ a, f a = y → Q a) : t.holds Q := by
  simp only [Prod.mk.injEq] at hc
  exact Tr.along ss hc.1 hc.2.1 h (Tr.leaf_holds hc.2.2 hq)
/-- .. to a demand -/
def Tr.needK {α : Type} : Tr α → Tr α
  | .need _ k => k
  | _ => .fail 97
def Tr.needP {α : Type} : Tr α → Option Prop
  | .need p _ => some p
  | _ => none
theorem Tr.need_holds {α : Type} {Q : α → Prop} {t : Tr α} {p : Prop} (h : t.needP = some p) (hp : p) (hk : t.needK.holds Q) : t.holds Q := by
  cases t with
  | need p' k => simp only [Tr.needP, Option.some.injEq] at h; subst h; exact ⟨hp, fun _ => hk⟩
  | _ => simp [Tr.needP] at h
theorem Tr.need_ {α : Type} {Q : α → Prop} {t : Tr α} (ss : List Step) {cs : List (Bool × Bool)} {p : Prop} (hc : ((t.go ss).conds, (t.go ss).xs, (t.go ss).rest.needP) = (cs, (t.go ss).ys, some p)) (h : Conds cs) (hp : p) (hk : (t.go ss).rest.needK.holds Q) : t.holds Q := by
  simp only [Prod.mk.injEq] at hc
  exact Tr.along ss hc.1 hc.2.1 h (Tr.need_holds hc.2.2 hp hk)
/-- .. to a way that can't be -/
theorem Tr.never {α : Type} {Q : α → Prop} {t : Tr α} (ss : List Step) {cs : List (Bool × Bool)} (hc : ((t.go ss).conds, (t.go ss).xs) = (cs, (t.go ss).ys)) (h : Conds cs → False) (hh : Conds cs) : t.holds Q := (h hh).elim
def Tr.both1 {α : Type} : Tr α → Tr α
  | .both t _ => t
  | _ => .fail 96
def Tr.both2 {α : Type} : Tr α → Tr α
  | .both _ t => t
  | _ => .fail 95
theorem Tr.both_holds {α : Type} {Q : α → Prop} {t : Tr α} (h1 : t.both1.holds Q) (h2 : t.both2.holds Q) : t.holds Q := by
  cases t <;> first | exact h1.elim | exact ⟨h1, h2⟩
/-- .. to a cut loop -/
def Tr.lpK {α : Type} (e : Ex) (st : St) : Tr α → Tr α
  | .lp _ _ _ k => k e st
  | _ => .fail 94
def Tr.lpB {α : Type} : Tr α → Code
  | .lp _ b _ _ => b
  | _ => .skip
def Tr.lpSt {α : Type} : Tr α → St
  | .lp _ _ st _ => st
  | _ => ⟨[], []⟩
def Tr.lpIs {α : Type} : Tr α → Option Program
  | .lp P _ _ _ => some P
  | _ => none
theorem Tr.lp_holds {α : Type} {Q : α → Prop} {t : Tr α} {P : Program} (h : t.lpIs = some P) {Y : Type} {p : Y → Prop} {out : Y → Ex × St} (hg : LoopSum P t.lpB t.lpSt Y p out) (hk : ∀ y, p y → (t.lpK (out y).1 (out y).2).holds Q) : t.holds Q := by
  cases t <;> simp [Tr.lpIs] at h
  subst h
  exact ⟨Y, p, out, hg, hk⟩
theorem Tr.lp_ {α : Type} {Q : α → Prop} {t : Tr α} (ss : List Step) {cs : List (Bool × Bool)} {P : Program} (hc : ((t.go ss).conds, (t.go ss).xs, (t.go ss).rest.lpIs) = (cs, (t.go ss).ys, some P)) (h : Conds cs) {Y : Type} {p : Y → Prop} {out : Y → Ex × St} (hg : LoopSum P (t.go ss).rest.lpB (t.go ss).rest.lpSt Y p out) (hk : ∀ y, p y → ((t.go ss).rest.lpK (out y).1 (out y).2).holds Q) : t.holds Q := by
  simp only [Prod.mk.injEq] at hc
  exact Tr.along ss hc.1 hc.2.1 h (Tr.lp_holds hc.2.2 hg hk)
/-- .. to a leaf, whole -/
def Tr.isOk {α : Type} : Tr α → Bool
  | .ok _ => true
  | _ => false
def Tr.get {α : Type} (d : α) : Tr α → α
  | .ok a => a
  | _ => d
theorem Tr.fin_ {α : Type} {Q : α → Prop} {t : Tr α} (ss : List Step) {cs : List (Bool × Bool)} (d : α) (hc : ((t.go ss).conds, (t.go ss).xs, (t.go ss).rest.isOk) = (cs, (t.go ss).ys, true)) (h : Conds cs) (hq : Q ((t.go ss).rest.get d)) : t.holds Q := by
  simp only [Prod.mk.injEq] at hc
  refine Tr.along ss hc.1 hc.2.1 h ?_
  revert hq
  generalize (t.go ss).rest = r at hc
  cases r <;> simp [Tr.isOk] at hc
  exact id
theorem show_ {p q : Prop} (h : p = q) (hq : q) : p := h ▸ hq

/-! ## 10. Weaker states, the blocks named anew; a loop -/
section
variable {P : Program} {w0 : World} {X : Nat → Prop}
/-- the blocks of a weaker state, each by the block that it was -/
def renLoc (π : List Nat) (ρ : Loc) : Loc := fun i => match π[i]? with
  | some j => match ρ j with
    | some r => some r
    | none => some ⟨0, 0, none, 0⟩
  | none => none
theorem renLoc_at {π : List Nat} {ρ : Loc} {i j : Nat} {r : Place} (hi : π[i]? = some j) (hr : ρ j = some r) : renLoc π ρ i = some r := by simp [renLoc, hi, hr]
theorem renLoc_pad {π : List Nat} {ρ : Loc} {i j : Nat} (hi : π[i]? = some j) (hr : ρ j = none) : renLoc π ρ i = some ⟨0, 0, none, 0⟩ := by simp [renLoc, hi, hr]
mutual
/-- what is owed that a value may be looked at as another one, of blocks named anew; then more -/
def EqsV (m : Nat) (π : List Nat) : SV → SV → Prop → Prop
  | .v (.slice a l c), .oslc b' s' i' l', k => match π[b']? with
    | some j => match decide (m ≤ j) with
      | true => a = none ∧ (l, c) = (0, 0) ∧ (i', l') = (0, 0) ∧ k
      | false => False
    | none => False
  | .v x, .v y, k => x = y ∧ k
  | .ptr b o, .ptr b' o', k => match π[b']? with
    | some j => (b, o) = (j, o') ∧ k
    | none => False
  | .eptr b s i j, .eptr b' s' i' j', k => match π[b']? with
    | some b'' => (b, s, i, j) = (b'', s', i', j') ∧ k
    | none => False
  | .slc b o l c, .slc b' o' l' c', k => match π[b']? with
    | some b'' => (b, o, l, c) = (b'', o', l', c') ∧ k
    | none => False
  | .eslc b s i l c, .eslc b' s' i' l' c', k => match π[b']? with
    | some b'' => (b, s, i, l, c) = (b'', s', i', l', c') ∧ k
    | none => False
  | .oslc b s i l, .oslc b' s' i' l', k => match π[b']? with
    | some b'' => (b, s, i, l) = (b'', s', i', l') ∧ k
    | none => False
  | .zslc b, .zslc b', k => match π[b']? with
    | some j => b = j ∧ k
    | none => False
  | .fn f cs, .fn f' cs', k => f = f' ∧ EqsL m π cs cs' k
  | .agg cs, .agg cs', k => EqsL m π cs cs' k
  | .tup cs, .tup cs', k => EqsL m π cs cs' k
  | .any, .any, k => k
  | _, _, _ => False
def EqsL (m : Nat) (π : List Nat) : List SV → List SV → Prop → Prop
  | [], [], k => k
  | s :: ss, t :: ts, k => EqsV m π s t (EqsL m π ss ts k)
  | _, _, _ => False
end
theorem eqs_to_v {m : Nat} {π : List Nat} {s : SV} {y : Value} {k : Prop} (h : EqsV m π s (.v y) k) : s = .v y ∧ k := by
  cases s with
  | v x => cases x <;> (simp only [EqsV] at h; exact ⟨by rw [h.1], h.2⟩)
  | _ => simp only [EqsV] at h
theorem eqs_of_v {m : Nat} {π : List Nat} {x : Value} {t : SV} {k : Prop} (h : EqsV m π (.v x) t k) : (t = .v x ∧ k) ∨ ∃ b' s' j, t = .oslc b' s' 0 0 ∧ π[b']? = some j ∧ m ≤ j ∧ x = .slice none 0 0 ∧ k := by
  cases t with
  | v y => have := eqs_to_v h; exact .inl ⟨by rw [this.1], this.2⟩
  | oslc b' s' i' l' =>
    cases x <;> simp only [EqsV] at h
    split at h
    · rename_i j hj
      split at h
      · rename_i hm
        obtain ⟨h1, h2, h3, h4⟩ := h
        simp only [Prod.mk.injEq] at h2 h3
        obtain ⟨rfl, rfl⟩ := h2
        obtain ⟨rfl, rfl⟩ := h3
        subst h1
        exact .inr ⟨b', s', j, rfl, hj, by simpa using hm, rfl, h4⟩
      · exact h.elim
    · exact h.elim
  | _ => cases x <;> simp only [EqsV] at h
mutual
theorem EqsV.rel {m : Nat} {π : List Nat} {ρ : Loc} (hd : ∀ i, m ≤ i → ρ i = none) : ∀ (s t : SV) (k : Prop), EqsV m π s t k → k ∧ ∀ y, Rel ρ s y → Rel (renLoc π ρ) t y
  | .v x, t, k, h => by
    rcases eqs_of_v h with ⟨rfl, hk⟩ | ⟨b', s', j, rfl, hj, hm, rfl, hk⟩
    · exact ⟨hk, fun y hy => by simpa only [Rel] using hy⟩
    · refine ⟨hk, fun y hy => ?_⟩
      simp only [Rel] at hy ⊢
      subst hy
      exact ⟨_, renLoc_pad hj (hd j hm), by simp, fun h => absurd h (Nat.lt_irrefl _)⟩
  | .ptr b o, t, k, h => by
    cases t <;> simp only [EqsV] at h
    split at h
    · rename_i j hj
      obtain ⟨h1, h2⟩ := h
      simp only [Prod.mk.injEq] at h1
      obtain ⟨rfl, rfl⟩ := h1
      refine ⟨h2, fun y hy => ?_⟩
      simp only [Rel] at hy ⊢
      obtain ⟨r, hr, e⟩ := hy
      exact ⟨r, renLoc_at hj hr, e⟩
    · exact h.elim
  | .eptr b s i j, t, k, h => by
    cases t <;> simp only [EqsV] at h
    split at h
    · rename_i j hj
      obtain ⟨h1, h2⟩ := h
      simp only [Prod.mk.injEq] at h1
      obtain ⟨rfl, rfl, rfl, rfl⟩ := h1
      refine ⟨h2, fun y hy => ?_⟩
      simp only [Rel] at hy ⊢
      obtain ⟨r, hr, e⟩ := hy
      exact ⟨r, renLoc_at hj hr, e⟩
    · exact h.elim
  | .slc b o l c, t, k, h => by
    cases t <;> simp only [EqsV] at h
    split at h
    · rename_i j hj
      obtain ⟨h1, h2⟩ := h
      simp only [Prod.mk.injEq] at h1
      obtain ⟨rfl, rfl, rfl, rfl⟩ := h1
      refine ⟨h2, fun y hy => ?_⟩
      simp only [Rel] at hy ⊢
      obtain ⟨r, hr, e⟩ := hy
      exact ⟨r, renLoc_at hj hr, e⟩
    · exact h.elim
  | .eslc b s i l c, t, k, h => by
    cases t <;> simp only [EqsV] at h
    split at h
    · rename_i j hj
      obtain ⟨h1, h2⟩ := h
      simp only [Prod.mk.injEq] at h1
      obtain ⟨rfl, rfl, rfl, rfl, rfl⟩ := h1
      refine ⟨h2, fun y hy => ?_⟩
      simp only [Rel] at hy ⊢
      obtain ⟨r, hr, e⟩ := hy
      exact ⟨r, renLoc_at hj hr, e⟩
    · exact h.elim
  | .oslc b s i l, t, k, h => by
    cases t <;> simp only [EqsV] at h
    split at h
    · rename_i j hj
      obtain ⟨h1, h2⟩ := h
      simp only [Prod.mk.injEq] at h1
      obtain ⟨rfl, rfl, rfl, rfl⟩ := h1
      refine ⟨h2, fun y hy => ?_⟩
      simp only [Rel] at hy ⊢
      obtain ⟨r, hr, e⟩ := hy
      exact ⟨r, renLoc_at hj hr, e⟩
    · exact h.elim
  | .zslc b, t, k, h => by
    cases t <;> simp only [EqsV] at h
    split at h
    · rename_i j hj
      obtain ⟨rfl, h2⟩ := h
      refine ⟨h2, fun y hy => ?_⟩
      simp only [Rel] at hy ⊢
      obtain ⟨r, hr, e⟩ := hy
      exact ⟨r, renLoc_at hj hr, e⟩
    · exact h.elim
  | .fn f cs, t, k, h => by
    cases t <;> simp only [EqsV] at h
    obtain ⟨rfl, h⟩ := h
    obtain ⟨h1, h2⟩ := EqsL.rel hd cs _ _ h
    refine ⟨h1, fun y hy => ?_⟩
    simp only [Rel] at hy ⊢
    obtain ⟨ys, hy, e⟩ := hy
    exact ⟨ys, h2 ys hy, e⟩
  | .agg cs, t, k, h => by
    cases t <;> simp only [EqsV] at h
    obtain ⟨h1, h2⟩ := EqsL.rel hd cs _ _ h
    refine ⟨h1, fun y hy => ?_⟩
    simp only [Rel] at hy ⊢
    obtain ⟨ys, hy, e⟩ := hy
    exact ⟨ys, h2 ys hy, e⟩
  | .tup cs, t, k, h => by
    cases t <;> simp only [EqsV] at h
    obtain ⟨h1, h2⟩ := EqsL.rel hd cs _ _ h
    refine ⟨h1, fun y hy => ?_⟩
    simp only [Rel] at hy ⊢
    obtain ⟨ys, hy, e⟩ := hy
    exact ⟨ys, h2 ys hy, e⟩
  | .any, t, k, h => by
    cases t <;> simp only [EqsV] at h
    exact ⟨h, fun y hy => by simp [Rel]⟩
theorem EqsL.rel {m : Nat} {π : List Nat} {ρ : Loc} (hd : ∀ i, m ≤ i → ρ i = none) : ∀ (s t : List SV) (k : Prop), EqsL m π s t k → k ∧ ∀ ys, RelL ρ s ys → RelL (renLoc π ρ) t ys
  | [], t, k, h => by
    cases t <;> simp only [EqsL] at h
    exact ⟨h, fun ys hy => by simpa only [RelL] using hy⟩
  | s :: ss, t, k, h => by
    cases t with
    | nil => simp only [EqsL] at h
    | cons t ts =>
      simp only [EqsL] at h
      obtain ⟨h1, h2⟩ := EqsV.rel hd s t _ h
      obtain ⟨h3, h4⟩ := EqsL.rel hd ss ts _ h1
      refine ⟨h3, fun ys hy => ?_⟩
      obtain ⟨y, ys', rfl, a, b⟩ := hy.cons_inv
      exact .cons (h2 y a) (h4 ys' b)
end
def OwedT (m : Nat) (π : List Nat) : List SV → List SV → Prop → Prop
  | [], [], k => k
  | _ :: ss, .any :: ts, k => OwedT m π ss ts k
  | s :: ss, t :: ts, k => EqsV m π s t (OwedT m π ss ts k)
  | _, _, _ => False
theorem OwedT.rel {m : Nat} {π : List Nat} {ρ : Loc} (hd : ∀ i, m ≤ i → ρ i = none) : ∀ (ss ts : List SV) {k : Prop}, OwedT m π ss ts k → k ∧ ∀ ys, RelL ρ ss ys → RelL (renLoc π ρ) ts ys
  | [], [], k, h => ⟨h, fun ys hy => by simpa only [RelL] using hy⟩
  | s :: ss, t :: ts, k, h => by
    by_cases ht : t = .any
    · subst ht
      have h : OwedT m π ss ts k := h
      obtain ⟨h1, h2⟩ := OwedT.rel hd ss ts h
      refine ⟨h1, fun ys hy => ?_⟩
      obtain ⟨y, ys', rfl, a, b⟩ := hy.cons_inv
      exact .cons (by simp [Rel]) (h2 ys' b)
    · have h : EqsV m π s t (OwedT m π ss ts k) := by
        unfold OwedT at h
        cases t <;> first | exact absurd rfl ht | exact h
      obtain ⟨h1, h2⟩ := EqsV.rel hd s t _ h
      obtain ⟨h3, h4⟩ := OwedT.rel hd ss ts h1
      refine ⟨h3, fun ys hy => ?_⟩
      obtain ⟨y, ys', rfl, a, b⟩ := hy.cons_inv
      exact .cons (h2 y a) (h4 ys' b)
  | [], _ :: _, k, h => by simp [OwedT] at h
  | _ :: _, [], k, h => by simp [OwedT] at h
abbrev nilRows (ks : List CK) : List (RowT ks) := []
/-- what is owed that a block may be looked at as another one -/
def OwedB (m : Nat) (π : List Nat) (x : Option Blk) (c : Blk) (k : Prop) : Prop :=
  match c.body with
  | .dead => k
  | .lit l' => match x with
    | some ⟨rw, .lit l⟩ => rw = c.rw ∧ EqsL m π l l' k
    | _ => False
  | .row n sz g => match x with
    | some b => b.body = .row n sz g ∧ b.rw = c.rw ∧ k
    | none => False
  | .rows ks l => match x with
    | some b => b.body = .rows ks l ∧ b.rw = c.rw ∧ k
    | none => False
  | .own e ks l => match x with
    | some b => b.body = .own e ks l ∧ b.rw = c.rw ∧ k
    | none => l = nilRows ks ∧ k
def OwedM (m : Nat) (π : List Nat) (mem : List Blk) : List Nat → List Blk → Prop → Prop
  | [], [], k => k
  | j :: js, c :: cs, k => OwedB m π mem[j]? c (OwedM m π mem js cs k)
  | _, _, _ => False
/-- is the naming one of the blocks, the first ones as they were? -/
def piOK (m0 : Nat) (π : List Nat) : Bool := decide π.Nodup && (List.range m0).all fun i => π[i]? == some i
theorem piOK.spec {m0 : Nat} {π : List Nat} (h : piOK m0 π = true) : π.Nodup ∧ ∀ i, i < m0 → π[i]? = some i := by
  simp only [piOK, Bool.and_eq_true, decide_eq_true_eq, List.all_eq_true, List.mem_range, beq_iff_eq] at h
  exact h
/-- what is owed for a weaker state, as one proposition that the kernel lays out -/
def Owed (π : List Nat) (st st' : St) : Prop := OwedT st.mem.length π st.tmps st'.tmps (OwedM st.mem.length π st.mem π st'.mem True)
structure Weak (m0 : Nat) (st st' : St) : Prop where
  ex : ∃ π, piOK m0 π = true ∧ Owed π st st'
theorem OwedB.last {d : Nat} {π : List Nat} {x : Option Blk} {c : Blk} {q : Prop} (h : OwedB d π x c q) : q := by
  unfold OwedB at h
  split at h
  · exact h
  · split at h
    · exact (EqsL.rel (ρ := fun _ => none) (fun _ _ => rfl) _ _ _ h.2).1
    · exact h.elim
  · split at h
    · exact h.2.2
    · exact h.elim
  · split at h
    · exact h.2.2
    · exact h.elim
  · split at h
    · exact h.2.2
    · exact h.2
theorem OwedM.len {m : Nat} {π : List Nat} {mem : List Blk} : ∀ {js : List Nat} {cs : List Blk} {k : Prop}, OwedM m π mem js cs k → js.length = cs.length
  | [], [], _, _ => rfl
  | j :: js, c :: cs, k, h => by
    have hb : OwedB m π mem[j]? c (OwedM m π mem js cs k) := h
    simp only [List.length_cons]
    rw [OwedM.len hb.last]
  | [], _ :: _, _, h => h.elim
  | _ :: _, [], _, h => h.elim
theorem OwedM.get {m : Nat} {π : List Nat} {mem : List Blk} : ∀ {js : List Nat} {cs : List Blk} {k : Prop}, OwedM m π mem js cs k → k ∧ ∀ (i : Nat) c, cs[i]? = some c → ∃ j, js[i]? = some j ∧ ∃ q : Prop, OwedB m π mem[j]? c q
  | [], [], k, h => ⟨h, fun i c hc => by simp at hc⟩
  | j :: js, c :: cs, k, h => by
    have hb : OwedB m π mem[j]? c (OwedM m π mem js cs k) := h
    have hq : OwedM m π mem js cs k := hb.last
    obtain ⟨h1, h2⟩ := OwedM.get hq
    refine ⟨h1, fun i c' hc => ?_⟩
    cases i with
    | zero => simp at hc; subst hc; exact ⟨j, by simp, _, hb⟩
    | succ i => simpa using h2 i c' (by simpa using hc)
  | [], _ :: _, k, h => h.elim
  | _ :: _, [], k, h => h.elim
/-- a frame of temporaries: all forgotten but for some -/
def slots : Nat → Nat → List (Nat × SV) → List SV
  | 0, _, _ => []
  | n + 1, i, l => ((l.find? fun p => p.1 == i).map (·.2)).getD .any :: slots n (i + 1) l
theorem OwedB.ok {m : Nat} {π : List Nat} {ρ : Loc} (hd : ∀ i, m ≤ i → ρ i = none) {mem : List Blk} (hml : mem.length = m) {w : World} (hm : MemOK ρ w0 X mem w) {j : Nat} {c : Blk} {q : Prop} (h : OwedB m π mem[j]? c q) {i : Nat} (hi : π[i]? = some j) :
    ∃ r, renLoc π ρ i = some r ∧ BodyOK (renLoc π ρ) w c.rw r c.body ∧ (c.body.hold r → ∃ b, mem[j]? = some b ∧ ρ j = some r ∧ b.rw = c.rw ∧ b.body.hold r) := by
  obtain ⟨rwc, bc⟩ := c
  have place : ∃ r, renLoc π ρ i = some r := by
    cases hr : ρ j with
    | none => exact ⟨_, renLoc_pad hi hr⟩
    | some r => exact ⟨r, renLoc_at hi hr⟩
  have lo0 : ∀ {rw : Bool} {r : Place} {b : Body}, (match b with | .lit _ => False | _ => True) → BodyOK ρ w rw r b → BodyOK (renLoc π ρ) w rw r b := by
    intro rw r b hb h
    cases b with
    | lit cs => exact hb.elim
    | row n sz g => exact BodyOK.down (n := 0) (fun i hi => absurd hi (Nat.not_lt_zero _)) rfl h
    | rows ks l => exact h
    | own e ks l => exact h
    | dead => trivial
  cases bc with
  | dead =>
    obtain ⟨r, hr⟩ := place
    exact ⟨r, hr, trivial, fun h => h.elim⟩
  | lit l' =>
    unfold OwedB at h
    simp only at h
    split at h
    · rename_i rw l hb
      obtain ⟨rfl, h⟩ := h
      obtain ⟨r, hr, hok, _⟩ := hm.blk j _ hb
      refine ⟨r, renLoc_at hi hr, fun k t hk => ?_, fun _ => ⟨_, hb, hr, rfl, trivial⟩⟩
      have key : ∀ (s t : List SV) {q : Prop}, EqsL m π s t q → s.length = t.length ∧ ∀ (k : Nat) a b, s[k]? = some a → t[k]? = some b → ∀ y, Rel ρ a y → Rel (renLoc π ρ) b y := by
        intro s
        induction s with
        | nil => intro t q h; cases t <;> simp only [EqsL] at h; exact ⟨rfl, fun k a b ha => by simp at ha⟩
        | cons s0 ss ih =>
          intro t q h
          cases t with
          | nil => simp only [EqsL] at h
          | cons t0 ts =>
            simp only [EqsL] at h
            obtain ⟨h1, h2⟩ := EqsV.rel hd s0 t0 _ h
            obtain ⟨h3, h4⟩ := ih ts h1
            refine ⟨by simp [h3], fun k a b ha hb => ?_⟩
            cases k with
            | zero => simp at ha hb; subst ha; subst hb; exact h2
            | succ k => exact h4 k a b (by simpa using ha) (by simpa using hb)
      obtain ⟨hl, hk2⟩ := key l l' h
      have hkl : k < l.length := by rw [hl]; exact (List.getElem?_eq_some_iff.1 hk).1
      obtain ⟨y, h1, h2, h3⟩ := hok k _ (List.getElem?_eq_getElem hkl)
      exact ⟨y, h1, hk2 k _ _ (List.getElem?_eq_getElem hkl) hk y h2, h3⟩
    · exact h.elim
  | row n sz g =>
    unfold OwedB at h
    simp only at h
    split at h
    · rename_i b hb
      obtain ⟨he, hrw, _⟩ := h
      obtain ⟨r, hr, hok, _⟩ := hm.blk j _ hb
      rw [he, hrw] at hok
      exact ⟨r, renLoc_at hi hr, lo0 trivial hok, fun _ => ⟨_, hb, hr, hrw, by rw [he]; trivial⟩⟩
    · exact h.elim
  | rows ks l =>
    unfold OwedB at h
    simp only at h
    split at h
    · rename_i b hb
      obtain ⟨he, hrw, _⟩ := h
      obtain ⟨r, hr, hok, _⟩ := hm.blk j _ hb
      rw [he, hrw] at hok
      exact ⟨r, renLoc_at hi hr, lo0 trivial hok, fun _ => ⟨_, hb, hr, hrw, by rw [he]; trivial⟩⟩
    · exact h.elim
  | own e ks l =>
    unfold OwedB at h
    simp only at h
    split at h
    · rename_i b hb
      obtain ⟨he, hrw, _⟩ := h
      obtain ⟨r, hr, hok, _⟩ := hm.blk j _ hb
      rw [he, hrw] at hok
      exact ⟨r, renLoc_at hi hr, lo0 trivial hok, fun hh => ⟨_, hb, hr, hrw, by rw [he]; exact hh⟩⟩
    · rename_i hb
      obtain ⟨rfl, _⟩ := h
      have hj : m ≤ j := by rw [← hml]; simpa using hb
      refine ⟨_, renLoc_pad hi (hd j hj), ⟨fun k x hk => by simp at hk, by simp, by simp, fun h => absurd h (Nat.lt_irrefl _)⟩, fun h => absurd h (Nat.lt_irrefl _)⟩
theorem Owed.sim {π : List Nat} {ρ : Loc} {st st' : St} {a : Act} {w : World} (hn : π.Nodup) (h : Owed π st st') (S : Sim ρ w0 X st a w) : Sim (renLoc π ρ) w0 X st' a w ∧ π.length = st'.mem.length := by
  have hd : ∀ i, st.mem.length ≤ i → ρ i = none := S.mem.past
  obtain ⟨hM, ht⟩ := OwedT.rel hd _ _ h
  have hlen := OwedM.len hM
  obtain ⟨_, hget⟩ := OwedM.get hM
  refine ⟨⟨S.defers, ht _ S.tmps, ⟨fun i b hi => ?_, fun i hi => ?_, fun i j bi bj ri rj hij hbi hbj hrw hri hrj hli hlj => ?_⟩, S.frame⟩, hlen⟩
  · obtain ⟨j, hj, q, hq⟩ := hget i b hi
    obtain ⟨r, hr, hok, hh⟩ := hq.ok hd rfl S.mem hj
    refine ⟨r, hr, hok, fun hk => ?_⟩
    obtain ⟨b', hb', hrj, hrw, hhold⟩ := hh hk
    obtain ⟨r', hr', _, hx⟩ := S.mem.blk j b' hb'
    rw [hrj] at hr'; cases hr'
    exact ⟨(hx hhold).1, fun e => (hx hhold).2 (hrw.trans e)⟩
  · have : π[i]? = none := by simp; omega
    simp [renLoc, this]
  · obtain ⟨i', hi', q1, hq1⟩ := hget i bi hbi
    obtain ⟨j', hj', q2, hq2⟩ := hget j bj hbj
    obtain ⟨r1, hr1, _, hh1⟩ := hq1.ok hd rfl S.mem hi'
    obtain ⟨r2, hr2, _, hh2⟩ := hq2.ok hd rfl S.mem hj'
    rw [hri] at hr1; cases hr1
    rw [hrj] at hr2; cases hr2
    obtain ⟨b1, hb1, hp1, hw1, hl1⟩ := hh1 hli
    obtain ⟨b2, hb2, hp2, hw2, hl2⟩ := hh2 hlj
    have hne : i' ≠ j' := fun e => hij (by
      subst e
      have hi2 := (List.getElem?_eq_some_iff.1 hi').1
      exact (List.getElem?_inj hi2 hn).1 (hi'.trans hj'.symm))
    exact S.mem.apart i' j' b1 b2 ri rj hne hb1 hb2 (hw1.trans hrw) hp1 hp2 hl1 hl2
theorem renLoc_ext {m0 : Nat} {π : List Nat} {ρ ρ' : Loc} (hd : ∀ b r, ρ b = some r → b < m0) (hlow : ∀ i, i < m0 → π[i]? = some i) (he : Ext ρ ρ') : Ext ρ (renLoc π ρ') := fun b r hb => renLoc_at (hlow b (hd b r hb)) (he b r hb)
/-- how a round ends -/
def RoundPost {Z Y : Type} (I : Z → Prop) (S : Z → St) (μ : Z → Nat) (m0 : Nat) (p : Y → Prop) (out : Y → Ex × St) (m : Nat) (r : Ex × St) : Prop :=
  match r.1 with
  | .normal => ∃ z', I z' ∧ μ z' < m ∧ Weak m0 r.2 (S z')
  | e => ∃ y, p y ∧ (out y).1 = e ∧ Weak m0 r.2 (out y).2
theorem RoundPost.again {Z Y : Type} {I : Z → Prop} {S : Z → St} {μ : Z → Nat} {m0 : Nat} {p : Y → Prop} {out : Y → Ex × St} {m : Nat} {r : Ex × St} (z' : Z) (hr : r.1 = .normal) (hI : I z') (hm : μ z' < m) (π : List Nat) (hπ : piOK m0 π = true) {q : Prop} (ho : Owed π r.2 (S z') = q) (hq : q) : RoundPost I S μ m0 p out m r := by
  unfold RoundPost
  rw [hr]
  exact ⟨z', hI, hm, ⟨π, hπ, ho ▸ hq⟩⟩
theorem RoundPost.out {Z Y : Type} {I : Z → Prop} {S : Z → St} {μ : Z → Nat} {m0 : Nat} {p : Y → Prop} {out : Y → Ex × St} {m : Nat} {r : Ex × St} (y : Y) (hr : (match r.1 with | .normal => false | _ => true) = true) (he : (out y).1 = r.1) (hp : p y) (π : List Nat) (hπ : piOK m0 π = true) {q : Prop} (ho : Owed π r.2 (out y).2 = q) (hq : q) : RoundPost I S μ m0 p out m r := by
  unfold RoundPost
  obtain ⟨e, st⟩ := r
  cases e with
  | normal => simp at hr
  | exit i => exact ⟨y, hp, he, ⟨π, hπ, ho ▸ hq⟩⟩
  | ret => exact ⟨y, hp, he, ⟨π, hπ, ho ▸ hq⟩⟩
theorem Tr.again_ {t : Tr (Ex × St)} (ss : List Step) {cs : List (Bool × Bool)} (hc : ((t.go ss).conds, (t.go ss).xs, (t.go ss).rest.isOk) = (cs, (t.go ss).ys, true)) (h : Conds cs) {Z Y : Type} {I : Z → Prop} {S : Z → St} {μ : Z → Nat} {m0 : Nat} {p : Y → Prop} {out : Y → Ex × St} {m : Nat} (z' : Z)
    (hr : ((t.go ss).rest.get (.ret, ⟨[], []⟩)).1 = .normal) (hI : I z') (hm : μ z' < m) (π : List Nat) (hπ : piOK m0 π = true) {q : Prop} (ho : Owed π ((t.go ss).rest.get (.ret, ⟨[], []⟩)).2 (S z') = q) (hq : q) : t.holds (RoundPost I S μ m0 p out m) :=
  Tr.fin_ ss _ hc h (RoundPost.again z' hr hI hm π hπ ho hq)
def isOut : Ex → Bool
  | .normal => false
  | _ => true
theorem Tr.out_ {t : Tr (Ex × St)} (ss : List Step) {cs : List (Bool × Bool)} (hc : ((t.go ss).conds, (t.go ss).xs, (t.go ss).rest.isOk) = (cs, (t.go ss).ys, true)) (h : Conds cs) {Z Y : Type} {I : Z → Prop} {S : Z → St} {μ : Z → Nat} {m0 : Nat} {p : Y → Prop} {out : Y → Ex × St} {m : Nat} (y : Y)
    (hr : isOut ((t.go ss).rest.get (.ret, ⟨[], []⟩)).1 = true) (he : (out y).1 = ((t.go ss).rest.get (.ret, ⟨[], []⟩)).1) (hp : p y) (π : List Nat) (hπ : piOK m0 π = true) {q : Prop} (ho : Owed π ((t.go ss).rest.get (.ret, ⟨[], []⟩)).2 (out y).2 = q) (hq : q) : t.holds (RoundPost I S μ m0 p out m) :=
  Tr.fin_ ss _ hc h (RoundPost.out y (by revert hr; generalize ((t.go ss).rest.get (.ret, ⟨[], []⟩)).1 = e; cases e <;> simp [isOut]) he hp π hπ ho hq)
/-- the words on a loop, from any state that is at least so -/
def LoopFrom (P : Program) (b : Code) (m0 : Nat) (st1 : St) (Y : Type) (p : Y → Prop) (out : Y → Ex × St) : Prop :=
  ∀ st0 : St, st0.mem.length = m0 → Weak m0 st0 st1 → LoopSum P b st0 Y p out
theorem Tr.loop_ {α : Type} {Q : α → Prop} {t : Tr α} (ss : List Step) {cs : List (Bool × Bool)} (hc : ((t.go ss).conds, (t.go ss).xs, (t.go ss).rest.lpIs) = (cs, (t.go ss).ys, some P)) (h : Conds cs) {b : Code} (hb : (t.go ss).rest.lpB = b) {m0 : Nat} {st1 : St} (hl : (t.go ss).rest.lpSt.mem.length = m0) (π : List Nat) (hπ : piOK m0 π = true) {q : Prop} (ho : Owed π (t.go ss).rest.lpSt st1 = q) (hq : q)
    {Y : Type} {p : Y → Prop} {out : Y → Ex × St} (hg : LoopFrom P b m0 st1 Y p out) (hk : ∀ y, p y → ((t.go ss).rest.lpK (out y).1 (out y).2).holds Q) : t.holds Q :=
  Tr.lp_ ss hc h (hb ▸ hg _ hl ⟨π, hπ, ho ▸ hq⟩) hk
/-- A loop, by an invariant over ghosts. -/
theorem loopSum (hng : NoNG P) (hmix : P.follows .mixedOrders = true) {Γ : Env} (hΓ : EnvOK P Γ) (n : Nat) (fid : FuncId) {b : Code} {Z : Type} (I : Z → Prop) (S : Z → St) (μ : Z → Nat) (m0 : Nat) (z0 : Z) (h0 : I z0) {st0 : St} (hst : st0.mem.length = m0) (hw0 : Weak m0 st0 (S z0)) {Y : Type} {p : Y → Prop} {out : Y → Ex × St}
    (round : ∀ z, I z → (exec P Γ n fid b (S z) fun e st => .ok (e, st)).holds (RoundPost I S μ m0 p out (μ z))) : LoopSum P b st0 Y p out := by
  intro ρ w0 X a w Q S0 hQ
  refine wp_loop_rounds (μ z0 + 1) ?_
  have hdom : ∀ b r, ρ b = some r → b < m0 := fun b r hb => by
    rcases Nat.lt_or_ge b m0 with h | h
    · exact h
    · rw [S0.mem.past b (by rw [hst]; omega)] at hb; cases hb
  have key : ∀ (k : Nat) (z : Z), I z → μ z < k → ∀ {ρ' : Loc} {a' : Act} {w' : World}, Ext ρ ρ' → Sim ρ' w0 X (S z) a' w' → Code.rounds P b Q k a' w' := by
    intro k
    induction k with
    | zero => intro z _ h; omega
    | succ k ih =>
      intro z hz hk ρ' a' w' he Sz
      rw [rounds_succ]
      refine exec_sound hng hmix hΓ n fid b Sz (round z hz) ?_
      intro e st' ρ'' a'' w'' he' S' hh
      cases e with
      | normal =>
        obtain ⟨z', hz', hlt, ⟨π, hπ, hweak⟩⟩ := hh
        obtain ⟨h1, h2⟩ := piOK.spec hπ
        exact ih z' hz' (by omega) (renLoc_ext hdom h2 (he.trans he')) (hweak.sim h1 S').1
      | exit i =>
        obtain ⟨y, hy, hye, ⟨π, hπ, hweak⟩⟩ := hh
        obtain ⟨h1, h2⟩ := piOK.spec hπ
        have := hQ y hy _ _ _ (renLoc_ext hdom h2 (he.trans he')) (hweak.sim h1 S').1
        rw [hye] at this
        exact this
      | ret =>
        obtain ⟨y, hy, hye, ⟨π, hπ, hweak⟩⟩ := hh
        obtain ⟨h1, h2⟩ := piOK.spec hπ
        have := hQ y hy _ _ _ (renLoc_ext hdom h2 (he.trans he')) (hweak.sim h1 S').1
        rw [hye] at this
        exact this
  obtain ⟨π, hπ, hweak⟩ := hw0
  obtain ⟨h1, h2⟩ := piOK.spec hπ
  exact key _ z0 h0 (by omega) (renLoc_ext hdom h2 (Ext.refl _)) (hweak.sim h1 S0).1
theorem loopFrom (hng : NoNG P) (hmix : P.follows .mixedOrders = true) {Γ : Env} (hΓ : EnvOK P Γ) (n : Nat) (fid : FuncId) {b : Code} {Z : Type} (I : Z → Prop) (S : Z → St) (μ : Z → Nat) (m0 : Nat) (z0 : Z) (h0 : I z0) {Y : Type} {p : Y → Prop} {out : Y → Ex × St}
    (round : ∀ z, I z → (exec P Γ n fid b (S z) fun e st => .ok (e, st)).holds (RoundPost I S μ m0 p out (μ z))) : LoopFrom P b m0 (S z0) Y p out := fun st0 hl hw =>
  loopSum hng hmix hΓ n fid I S μ m0 z0 h0 hl hw round
/-- the body of the loop whose first region has this number -/
def findLoop (r : Nat) : Code → Option Code
  | .seq a c => match findLoop r a with
    | some x => some x
    | none => findLoop r c
  | .cond _ a c => match findLoop r a with
    | some x => some x
    | none => findLoop r c
  | .block _ a | .scope a => findLoop r a
  | .loop a => if firstReg a = r then some a else findLoop r a
  | _ => none
noncomputable def loopOf (P : Program) (f : FuncId) (r : Nat) : Code := (findLoop r (((P.funcs[f]?).bind (·.body)).getD .skip)).getD .skip
end

/-! ## 11. What comes in -/
/-- cells of the given kinds -/
def Typed (ks : List CK) (cs : List Value) : Prop := ∃ r : RowT ks, cs = rowV ks r ∧ RowWF ks r
theorem Typed.nil : Typed [] [] := ⟨(), rfl, trivial⟩
theorem Typed.append : ∀ {ks ks' : List CK} {cs cs' : List Value}, Typed ks cs → Typed ks' cs' → Typed (ks ++ ks') (cs ++ cs')
  | [], ks', cs, cs', ⟨r, h, _⟩, h' => by simp [rowV] at h; subst h; simpa using h'
  | k :: ks, ks', cs, cs', ⟨r, h, hw⟩, h' => by
    obtain ⟨r', e, hw'⟩ := Typed.append (ks := ks) (ks' := ks') ⟨r.2, rfl, hw.2⟩ h'
    exact ⟨(r.1, r'), by rw [h]; simp [rowV, e], hw.1, hw'⟩
theorem Typed.length {ks : List CK} {cs : List Value} (h : Typed ks cs) : cs.length = ks.length := by obtain ⟨r, rfl, _⟩ := h; exact rowV_length ks r
section
variable {H : Type} {enc : TypeId × Value → H} {P : Program} {w : World} {base : Nat} {spare : Nat → Bool} {held : Bool}
theorem typed_fields {fuel : Nat} {fk : TypeId → Option (List CK)} (ih : ∀ {t : TypeId} {ks : List CK} {cs : List Value} {x : DataW H × List MemPlace}, fk t = some ks → DataW.trod enc P w base spare held fuel t cs = some x → Typed ks cs)
    {cs : List Value} : ∀ (fs : List Field) (off : Nat) {ks : List CK}, flatFields P fk fs off = some ks → (∀ f ∈ fs, ∃ x, DataW.trod enc P w base spare held fuel f.type ((cs.drop f.offset).take (P.cellsOf f.type)) = some x) → Typed ks ((cs.drop off).take ks.length)
  | [], off, ks, h, _ => by simp [flatFields] at h; subst h; simpa using Typed.nil
  | f :: fs, off, ks, h, hx => by
    unfold flatFields at h
    split at h
    · rename_i hoff
      split at h
      · rename_i ks1 hk
        split at h
        · rename_i hl
          obtain ⟨ks2, h2, rfl⟩ := Option.map_eq_some_iff.1 h
          obtain ⟨x, hx1⟩ := hx f (by simp)
          have t1 := ih hk hx1
          have t2 := typed_fields ih fs (off + ks1.length) h2 (fun g hg => hx g (by simp [hg]))
          rw [hoff, ← hl] at t1
          have := t1.append t2
          rw [List.length_append, List.take_add, List.drop_drop]
          exact this
        · cases h
      · cases h
    · cases h
theorem typed_rep {fuel : Nat} {e : TypeId} {ks : List CK} (ih : ∀ {cs : List Value} {x : DataW H × List MemPlace}, DataW.trod enc P w base spare held fuel e cs = some x → Typed ks cs) {cs : List Value} :
    ∀ (n i : Nat), (∀ j, i ≤ j → j < i + n → ∃ x, DataW.trod enc P w base spare held fuel e ((cs.drop (j * ks.length)).take ks.length) = some x) → Typed (rep ks n) ((cs.drop (i * ks.length)).take (n * ks.length))
  | 0, i, _ => by simpa [rep] using Typed.nil
  | n + 1, i, h => by
    obtain ⟨x, hx⟩ := h i (Nat.le_refl _) (by omega)
    have t1 := ih hx
    have t2 := typed_rep ih (cs := cs) n (i + 1) (fun j h1 h2 => h j (by omega) (by omega))
    have := t1.append t2
    rw [show (n + 1) * ks.length = ks.length + n * ks.length by rw [Nat.add_mul]; omega, List.take_add, List.drop_drop]
    rw [show i * ks.length + ks.length = (i + 1) * ks.length by rw [Nat.add_mul]; omega]
    exact this
theorem flat_typed : ∀ (d : Nat) {t : TypeId} {ks : List CK} {fuel : Nat} {cs : List Value} {x : DataW H × List MemPlace}, flatK P d t = some ks → DataW.trod enc P w base spare held fuel t cs = some x → Typed ks cs
  | 0, t, ks, fuel, cs, x, h, _ => by simp [flatK] at h
  | d + 1, t, ks, fuel, cs, x, h, hx => by
    unfold flatK at h
    split at h
    · rename_i hu; cases h; obtain ⟨b, rfl, _⟩ := DataW.trod_bool hu hx; exact ⟨(b, ()), rfl, trivial, trivial⟩
    · rename_i k hu; cases h; obtain ⟨n, rfl, _, hw⟩ := DataW.trod_int hu hx; exact ⟨(n, ()), rfl, hw, trivial⟩
    · rename_i hu; cases h; obtain ⟨s, rfl, _, hs⟩ := DataW.trod_string hu hx; exact ⟨(s, ()), rfl, hs, trivial⟩
    · rename_i fs hu
      split at h
      · rename_i ks' hk
        split at h
        · rename_i hl
          cases h
          obtain ⟨xs, n, rfl, _, hlen, hxl, hf⟩ := DataW.trod_struct hu hx
          have := typed_fields (cs := cs) (fun hk hx => flat_typed d hk hx) fs.toList 0 hk (fun f hf' => by
            obtain ⟨i, hi⟩ := List.mem_iff_getElem?.1 hf'
            have hi' : fs[i]? = some f := by simpa using hi
            have := hf i f hi'
            have hlt : i < xs.length := by rw [hxl]; exact (Array.getElem?_eq_some_iff.1 hi').1
            rw [List.getElem?_eq_getElem hlt] at this
            exact ⟨_, this⟩)
          rw [List.drop_zero, hl, ← hlen, List.take_length] at this
          exact this
        · cases h
      · cases h
    · rename_i n e hu
      split at h
      · rename_i ks' hk
        split at h
        · rename_i hl
          cases h
          obtain ⟨xs, m, rfl, _, hlen, hxl, hf⟩ := DataW.trod_array hu hx
          have := typed_rep (cs := cs) (fun hx => flat_typed d hk hx) n 0 (fun j _ hj => by
            have := hf j (by omega)
            have hlt : j < xs.length := by omega
            rw [List.getElem?_eq_getElem hlt, ← hl.1] at this
            exact ⟨_, this⟩)
          rw [Nat.zero_mul, List.drop_zero, hl.2, ← hlen, List.take_length] at this
          exact this
        · cases h
      · cases h
    · cases h
/-- a slice of flat elements -/
theorem open_row {t e : TypeId} {d fuel : Nat} {ks : List CK} {v : Value} {x : DataW H × List MemPlace} (hu : P.underlying t = some (.slice e)) (hk : flatK P d e = some ks) (hc : P.cellsOf e = ks.length) (hpos : 0 < ks.length) (hv : v.cells.toList = [v])
    (h : DataW.trod enc P w base (fun _ => true) held fuel t [v] = some x) :
    (∃ a, v = .slice a 0 0) ∨ ∃ (b o len cap : Nat) (g : Nat → RowT ks), v = .slice (some ⟨b, o, none⟩) len cap ∧ len ≤ cap ∧ cap ≤ maxLen ∧ b < w.heap.size ∧ ∀ i, i < cap → RowWF ks (g i) ∧ ∀ j c, (rowV ks (g i))[j]? = some c → w.cell? ⟨b, o + (i * ks.length + j), none⟩ = some c := by
  rcases Deep.open_slice hu h with ⟨hcs, _⟩ | ⟨a, len, cap, m, n, D, Pl, hcs, _, hl, hm, hmm, _, hi⟩
  · simp only [List.cons.injEq, and_true] at hcs; exact .inl ⟨none, hcs⟩
  · simp only [if_true] at hmm
    subst hmm
    simp only [List.cons.injEq, and_true] at hcs
    by_cases hcap : m = 0
    · subst hcap
      have : len = 0 := by omega
      subst this
      exact .inl ⟨_, hcs⟩
    · right
      have cells : ∀ i, i < m → ∃ r : RowT ks, RowWF ks r ∧ ∀ j c, (rowV ks r)[j]? = some c → w.cell? (a.add (i * ks.length + j)) = some c := by
        intro i him
        obtain ⟨cs', hcs', ht⟩ := hi i him
        obtain ⟨r, hr, hw⟩ := flat_typed d hk ht
        obtain ⟨_, hlen, hat⟩ := World.cells?_some hcs'
        refine ⟨r, hw, fun j c hj => ?_⟩
        rw [← hr] at hj
        have hjl : j < P.cellsOf e := by rw [← hlen]; exact (List.getElem?_eq_some_iff.1 hj).1
        have := hat j hjl
        rw [hj, hc] at this
        rw [← this]
        congr 1
        unfold Addr.add
        split
        · rename_i h0
          have : i * ks.length = 0 := by omega
          have hj0 : j = 0 := by omega
          simp [this, hj0]
        · rename_i h0
          split
          · rename_i h1
            subst h1
            by_cases hi0 : i * ks.length = 0
            · omega
            · simp [hi0]
          · rename_i h1
            by_cases hi0 : i * ks.length = 0
            · simp [hi0]
            · simp [hi0, Nat.add_assoc]
      have h0 := hi 0 (by omega)
      obtain ⟨cs0, hcs0, _⟩ := h0
      obtain ⟨_, hlen0, hat0⟩ := World.cells?_some hcs0
      have hc0 := hat0 0 (by omega)
      have hlt0 : 0 < cs0.length := by omega
      rw [List.getElem?_eq_getElem hlt0] at hc0
      have hspot : a.spot = none := by
        have := World.cell?_spot hc0
        simpa [Addr.add] using this
      obtain ⟨b, o, spot⟩ := a
      simp only at hspot
      subst hspot
      have hb : b < w.heap.size := by
        have := World.block_lt_of_cell? w _ hc0
        simpa [Addr.add] using this
      refine ⟨b, o, len, m, fun i => if h : i < m then Classical.choose (cells i h) else RowT.dflt ks, hcs, hl, hm, hb, fun i him => ?_⟩
      simp only [him, dif_pos]
      obtain ⟨h1, h2⟩ := Classical.choose_spec (cells i him)
      exact ⟨h1, fun j c hj => by have := h2 j c hj; rwa [addr_add] at this⟩
end
/-- the blocks of what came in -/
theorem MemOK.start {W : World} {X : Nat → Prop} {mem : List Blk} {locs : List Place} (hl : locs.length = mem.length) (h : ∀ (i : Nat) b r, mem[i]? = some b → locs[i]? = some r → b.rw = false ∧ r.1 < W.heap.size ∧ BodyOK (fun i => locs[i]?) W false r b.body) : MemOK (fun i => locs[i]?) W X mem W := by
  refine ⟨fun i b hi => ?_, fun i hi => by simp; omega, fun i j bi bj ri rj hij hbi hbj hrw hri hrj _ _ => ?_⟩
  · have hlt : i < mem.length := (List.getElem?_eq_some_iff.1 hi).1
    have hr : locs[i]? = some (locs[i]'(by omega)) := List.getElem?_eq_getElem (by omega)
    obtain ⟨h1, h2, h3⟩ := h i b _ hi hr
    exact ⟨_, hr, by rw [h1]; exact h3, fun _ => ⟨h2, fun h => by rw [h1] at h; cases h⟩⟩
  · obtain ⟨h1, _⟩ := h i bi ri hbi hri
    rw [h1] at hrw; cases hrw
theorem BodyOK.row {W : World} {ρ : Loc} {ks : List CK} {b o len cap : Nat} {g : Nat → RowT ks} (hlc : len ≤ cap) (h : ∀ i, i < cap → RowWF ks (g i) ∧ ∀ j c, (rowV ks (g i))[j]? = some c → W.cell? ⟨b, o + (i * ks.length + j), none⟩ = some c) :
    BodyOK ρ W false ⟨b, o, none, 0⟩ (.row len ks.length fun i => rowSV ks (g i)) := by
  intro k hk
  refine ⟨rowSV_length ks _, fun j s hj => ⟨rowSV_lo ks _ _ j s hj, ?_⟩⟩
  obtain ⟨y, hy, hr⟩ := (row_rel (ρ := ρ) ks (g k)).get hj
  exact ⟨y, (h k (by omega)).2 j y hy, hr, fun h => by cases h⟩
theorem Frm.below {W W' : World} (h : Frm W (fun _ => False) W') : RowKit.Below W.heap.size W W' := ⟨h.os, h.tape, h.output, h.size, fun k hk => h.block k hk id⟩
/-- a call that needs nothing of memory, in whatever memory -/
theorem env_pure {P : Program} (hng : NoNG P) (hmix : P.follows .mixedOrders = true) {Γ : Env} (hΓ : EnvOK P Γ) (n : Nat) (f : FuncId) {fn : Func} {c : Code} (hfn : P.funcs[f]? = some fn) (hb : fn.body = some c) (hno : ∀ args mem, Γ.call f args mem = none) {args : List SV} {res : SV} (hla : loL 0 args = true) (hlr : res.lo 0 = true)
    (h : (callX P Γ n f args [] fun s mem => .ok (s, mem)).holds fun r => r.1 = res) {ρ : Loc} {w0 : World} {X : Nat → Prop} {mem : List Blk} {w : World} {ys : List Value} {R : SV × List Blk → Prop} (hm : MemOK ρ w0 X mem w) (hf : Frm w0 X w) (hargs : RelL ρ args ys) (hR : R (res, mem)) : Calls P f ys.toArray w (CallPost ρ w0 X R) := by
  have d0 : ∀ ρ' ρ'' : Loc, Down 0 ρ' ρ'' := fun _ _ i hi => absurd hi (Nat.not_lt_zero _)
  have hm0 : MemOK (fun _ => none) w (fun _ => False) [] w := ⟨fun i b hi => by simp at hi, fun _ _ => rfl, fun i j bi bj ri rj _ hi => by simp at hi⟩
  have hC := calls_of_exec (w0 := w) (X := fun _ => False) hng hmix hΓ n f hfn hb hno hm0 (Frm.refl w _) (hargs.down (d0 ρ _) args hla) h
  refine hC.mono ?_
  rintro e w' ⟨ρ', s, v, mem', rfl, _, hr, _, hfr, hs⟩
  simp only at hs
  subst hs
  refine ⟨ρ, s, v, mem, rfl, Ext.refl _, hr.down (d0 _ _) s hlr, hm.later (fun k hk => hfr.block k hk id) hfr.size, ⟨hfr.os.trans hf.os, hfr.tape.trans hf.tape, hfr.output.trans hf.output, Nat.le_trans hf.size hfr.size, fun k hk hx => ?_⟩, hR⟩
  rw [hfr.block k (Nat.lt_of_lt_of_le hk hf.size) id]; exact hf.block k hk hx

/-! ## 12. Environments, entry by entry -/
abbrev Entry := FuncId × (List SV → List Blk → Option (Tr (SV × List Blk)))
def lookE : List Entry → FuncId → List SV → List Blk → Option (Tr (SV × List Blk))
  | [], _, _, _ => none
  | e :: es, f, args, mem => if e.1 = f then e.2 args mem else lookE es f args mem
def Env.of (l : List Entry) (cut : FuncId → Nat → Bool) (wr : FuncId → Nat → List Nat) : Env := ⟨lookE l, cut, wr⟩
def EntryOK (P : Program) (e : Entry) : Prop :=
  ∀ args mem tr, e.2 args mem = some tr → ∀ (ρ : Loc) (w0 : World) (X : Nat → Prop) (w : World) (ys : List Value) (R : SV × List Blk → Prop), MemOK ρ w0 X mem w → Frm w0 X w → RelL ρ args ys → tr.holds R →
    Calls P e.1 ys.toArray w (CallPost ρ w0 X R)
theorem EnvOK.of {P : Program} : ∀ {l : List Entry} {cut : FuncId → Nat → Bool} {wr : FuncId → Nat → List Nat}, (∀ e ∈ l, EntryOK P e) → EnvOK P (Env.of l cut wr)
  | [], cut, wr, _ => fun f args mem tr h => by simp [Env.of, lookE] at h
  | e :: es, cut, wr, hl => fun f args mem tr h => by
    simp only [Env.of, lookE] at h
    split at h
    · rename_i he
      subst he
      exact hl e (by simp) args mem tr h
    · exact EnvOK.of (l := es) (cut := cut) (wr := wr) (fun e he => hl e (by simp [he])) f args mem tr h
theorem lookE_none {f : FuncId} : ∀ {l : List Entry}, (∀ e ∈ l, e.1 ≠ f) → ∀ args mem, lookE l f args mem = none
  | [], _, args, mem => rfl
  | e :: es, h, args, mem => by
    simp only [lookE]
    rw [if_neg (h e (by simp))]
    exact lookE_none (fun e he => h e (by simp [he])) args mem
/-- an entry of a function that needs nothing of memory: its value alone -/
def pureE (f : FuncId) (g : List SV → Option SV) : Entry := (f, fun args mem => (g args).map fun s => .ok (s, mem))
theorem pureE_ok {P : Program} (hng : NoNG P) (hmix : P.follows .mixedOrders = true) {l : List Entry} {cut : FuncId → Nat → Bool} {wr : FuncId → Nat → List Nat} (hl : ∀ e ∈ l, EntryOK P e) (n : Nat) (f : FuncId) {fn : Func} {c : Code} (hfn : P.funcs[f]? = some fn) (hb : fn.body = some c) (hno : ∀ e ∈ l, e.1 ≠ f) {g : List SV → Option SV}
    (h : ∀ args s, g args = some s → loL 0 args = true ∧ s.lo 0 = true ∧ (callX P (Env.of l cut wr) n f args [] fun s mem => .ok (s, mem)).holds fun r => r.1 = s) : EntryOK P (pureE f g) := by
  intro args mem tr htr ρ w0 X w ys R hm hf hargs hR
  obtain ⟨s, hs, rfl⟩ := Option.map_eq_some_iff.1 htr
  obtain ⟨h1, h2, h3⟩ := h args s hs
  exact env_pure hng hmix (EnvOK.of hl) n f hfn hb (lookE_none hno) h1 h2 h3 hm hf hargs hR

/-- a call that needs nothing of memory, but something of what comes in -/
def needE (f : FuncId) (g : List SV → Option (Prop × SV)) : Entry := (f, fun args mem => (g args).map fun s => .need s.1 (.ok (s.2, mem)))
theorem needE_ok {P : Program} (hng : NoNG P) (hmix : P.follows .mixedOrders = true) {l : List Entry} {cut : FuncId → Nat → Bool} {wr : FuncId → Nat → List Nat} (hl : ∀ e ∈ l, EntryOK P e) (n : Nat) (f : FuncId) {fn : Func} {c : Code} (hfn : P.funcs[f]? = some fn) (hb : fn.body = some c) (hno : ∀ e ∈ l, e.1 ≠ f) {g : List SV → Option (Prop × SV)}
    (h : ∀ args p s, g args = some (p, s) → loL 0 args = true ∧ s.lo 0 = true ∧ (p → (callX P (Env.of l cut wr) n f args [] fun s mem => .ok (s, mem)).holds fun r => r.1 = s)) : EntryOK P (needE f g) := by
  intro args mem tr htr ρ w0 X w ys R hm hf hargs hR
  obtain ⟨⟨p, s⟩, hs, rfl⟩ := Option.map_eq_some_iff.1 htr
  obtain ⟨h1, h2, h3⟩ := h args p s hs
  exact env_pure hng hmix (EnvOK.of hl) n f hfn hb (lookE_none hno) h1 h2 (h3 hR.1) hm hf hargs (hR.2 hR.1)

/-! ### the same, in a box that nothing opens by itself -/
variable {P : Program}
structure Tr.Holds {α : Type} (t : Tr α) (Q : α → Prop) : Prop where
  out : t.holds Q
theorem Tr.alongH {α : Type} {Q : α → Prop} {t : Tr α} (ss : List Step) {cs : List (Bool × Bool)} (hc : (t.go ss).conds = cs) (hs : (t.go ss).xs = (t.go ss).ys) (h : Conds cs) (hr : (t.go ss).rest.Holds Q) : t.Holds Q :=
  ⟨Tr.along ss hc hs h hr.out⟩
theorem Tr.bothH {α : Type} {Q : α → Prop} {t : Tr α} (h1 : t.both1.Holds Q) (h2 : t.both2.Holds Q) : t.Holds Q := ⟨Tr.both_holds h1.out h2.out⟩
theorem Tr.needH {α : Type} {Q : α → Prop} {t : Tr α} (ss : List Step) {cs : List (Bool × Bool)} {p : Prop} (hc : ((t.go ss).conds, (t.go ss).xs, (t.go ss).rest.needP) = (cs, (t.go ss).ys, some p)) (h : Conds cs) (hp : p) (hk : (t.go ss).rest.needK.Holds Q) : t.Holds Q :=
  ⟨Tr.need_ ss hc h hp hk.out⟩
theorem Tr.endH {α β : Type} {Q : α → Prop} {t : Tr α} (ss : List Step) {cs : List (Bool × Bool)} (f : α → β) {y : β} (hc : ((t.go ss).conds, (t.go ss).xs, (t.go ss).rest.leaf? f) = (cs, (t.go ss).ys, some y)) (h : Conds cs) (hq : ∀ a, f a = y → Q a) : t.Holds Q :=
  ⟨Tr.end_ ss f hc h hq⟩
theorem Tr.neverH {α : Type} {Q : α → Prop} {t : Tr α} (ss : List Step) {cs : List (Bool × Bool)} (hc : ((t.go ss).conds, (t.go ss).xs) = (cs, (t.go ss).ys)) (h : Conds cs → False) (hh : Conds cs) : t.Holds Q := ⟨Tr.never ss hc h hh⟩
theorem Tr.againH {t : Tr (Ex × St)} (ss : List Step) {cs : List (Bool × Bool)} (hc : ((t.go ss).conds, (t.go ss).xs, (t.go ss).rest.isOk) = (cs, (t.go ss).ys, true)) (h : Conds cs) {Z Y : Type} {I : Z → Prop} {S : Z → St} {μ : Z → Nat} {m0 : Nat} {p : Y → Prop} {out : Y → Ex × St} {m : Nat} (z' : Z)
    (hr : ((t.go ss).rest.get (.ret, ⟨[], []⟩)).1 = .normal) (hI : I z') (hm : μ z' < m) (π : List Nat) (hπ : piOK m0 π = true) {q : Prop} (ho : Owed π ((t.go ss).rest.get (.ret, ⟨[], []⟩)).2 (S z') = q) (hq : q) : t.Holds (RoundPost I S μ m0 p out m) :=
  ⟨Tr.again_ ss hc h z' hr hI hm π hπ ho hq⟩
theorem Tr.outH {t : Tr (Ex × St)} (ss : List Step) {cs : List (Bool × Bool)} (hc : ((t.go ss).conds, (t.go ss).xs, (t.go ss).rest.isOk) = (cs, (t.go ss).ys, true)) (h : Conds cs) {Z Y : Type} {I : Z → Prop} {S : Z → St} {μ : Z → Nat} {m0 : Nat} {p : Y → Prop} {out : Y → Ex × St} {m : Nat} (y : Y)
    (hr : isOut ((t.go ss).rest.get (.ret, ⟨[], []⟩)).1 = true) (he : (out y).1 = ((t.go ss).rest.get (.ret, ⟨[], []⟩)).1) (hp : p y) (π : List Nat) (hπ : piOK m0 π = true) {q : Prop} (ho : Owed π ((t.go ss).rest.get (.ret, ⟨[], []⟩)).2 (out y).2 = q) (hq : q) : t.Holds (RoundPost I S μ m0 p out m) :=
  ⟨Tr.out_ ss hc h y hr he hp π hπ ho hq⟩
theorem Tr.loopH {α : Type} {Q : α → Prop} {t : Tr α} (ss : List Step) {cs : List (Bool × Bool)} (hc : ((t.go ss).conds, (t.go ss).xs, (t.go ss).rest.lpIs) = (cs, (t.go ss).ys, some P)) (h : Conds cs) {b : Code} (hb : (t.go ss).rest.lpB = b) {m0 : Nat} {st1 : St} (hl : (t.go ss).rest.lpSt.mem.length = m0) (π : List Nat) (hπ : piOK m0 π = true) {q : Prop} (ho : Owed π (t.go ss).rest.lpSt st1 = q) (hq : q)
    {Y : Type} {p : Y → Prop} {out : Y → Ex × St} (hg : LoopFrom P b m0 st1 Y p out) (hk : ∀ y, p y → ((t.go ss).rest.lpK (out y).1 (out y).2).Holds Q) : t.Holds Q :=
  ⟨Tr.loop_ ss hc h hb hl π hπ ho hq hg fun y hy => (hk y hy).out⟩
/-- the loop, whose rounds stand in boxes -/
theorem loopFromH (hng : NoNG P) (hmix : P.follows .mixedOrders = true) {Γ : Env} (hΓ : EnvOK P Γ) (n : Nat) (fid : FuncId) {b : Code} {Z : Type} (I : Z → Prop) (S : Z → St) (μ : Z → Nat) (m0 : Nat) (z0 : Z) (h0 : I z0) {Y : Type} {p : Y → Prop} {out : Y → Ex × St}
    (round : ∀ z, I z → (exec P Γ n fid b (S z) fun e st => .ok (e, st)).Holds (RoundPost I S μ m0 p out (μ z))) : LoopFrom P b m0 (S z0) Y p out :=
  loopFrom hng hmix hΓ n fid I S μ m0 z0 h0 fun z hz => (round z hz).out

/-! ### a law's row -/
theorem law_calls (hng : NoNG P) (hmix : P.follows .mixedOrders = true) {Γ : Env} (hΓ : EnvOK P Γ) (n : Nat) (f : FuncId) {fn : Func} (hfn : P.funcs[f]? = some fn) (hb : fn.body.isSome = true) (hno : ∀ args mem, Γ.call f args mem = none) {args : List SV} {mem : List Blk} {ρ : Loc} {W : World} {ys : List Value} (hm : MemOK ρ W (fun _ => False) mem W) (hargs : RelL ρ args ys)
    (h : (callX P Γ n f args mem fun s mem => .ok (s, mem)).Holds fun r => r.1 = .v (.bool true)) : Calls P f ys.toArray W fun e w' => e = .returned (.bool true) ∧ RowKit.Below W.heap.size W w' := by
  obtain ⟨c, hb⟩ := Option.isSome_iff_exists.1 hb
  refine (calls_of_exec hng hmix hΓ n f hfn hb hno hm (Frm.refl _ _) hargs h.out).mono ?_
  rintro e w' ⟨ρ', s, v, mem', rfl, _, hv, _, hf, hr⟩
  simp only at hr
  subst hr
  simp only [Rel] at hv
  subst hv
  exact ⟨rfl, hf.below⟩
theorem MemOK.none {ρ : Loc} (hρ : ρ = fun _ => Option.none) {W : World} {X : Nat → Prop} : MemOK ρ W X [] W := by
  subst hρ
  exact MemOK.start (locs := []) rfl (fun i b r hb => by simp at hb)
theorem open_flat {H : Type} {enc : TypeId × Value → H} {w W : World} {base b0 : Nat} {spare : Nat → Bool} {held : Bool} {rr : Reach} {t : TypeId} {d : Nat} {ks : List CK} {fs : Array Field} {v : Value} {dd : DataW H} {ps : List MemPlace} (hk : flatK P d t = some ks) (hu : P.underlying t = some (.struct fs)) (hval : Value.okWide P W rr b0 t v) (h : DataW.Trod enc P w base spare held t v dd ps) :
    ∃ r : RowT ks, v = .agg (rowV ks r).toArray ∧ RowWF ks r := by
  obtain ⟨cs, rfl, _⟩ := WideShapes.okWide_struct hu hval
  obtain ⟨fuel, hf⟩ := h
  obtain ⟨r, hr, hw⟩ := flat_typed d hk hf
  refine ⟨r, ?_, hw⟩
  simp only [Value.cells] at hr
  rw [← hr]
/-- what a slice of flat values is, as it came in -/
def RowsIn (ks : List CK) (W : World) (a : Option Addr) (len cap : Nat) : Prop :=
  (len = 0 ∧ cap = 0) ∨ ∃ (b o : Nat) (g : Nat → RowT ks), a = some ⟨b, o, Option.none⟩ ∧ len ≤ cap ∧ cap ≤ maxLen ∧ b < W.heap.size ∧ ∀ i, i < cap → RowWF ks (g i) ∧ ∀ j c, (rowV ks (g i))[j]? = some c → W.cell? ⟨b, o + (i * ks.length + j), Option.none⟩ = some c
theorem open_rows {H : Type} {enc : TypeId × Value → H} {W : World} {base : Nat} {held : Bool} {t e : TypeId} {d : Nat} {ks : List CK} {a : Option Addr} {len cap : Nat} {dd : DataW H} {ps : List MemPlace} (hk : flatK P d e = some ks) (hc : P.cellsOf e = ks.length) (hpos : 0 < ks.length) (hu : P.underlying t = some (.slice e))
    (h : DataW.Trod enc P W base (fun _ => true) held t (.slice a len cap) dd ps) : RowsIn ks W a len cap := by
  obtain ⟨fuel, hf⟩ := h
  rcases open_row hu hk hc hpos (v := .slice a len cap) rfl hf with ⟨a', h⟩ | ⟨b, o, len', cap', g, h, h1, h2, h3, h4⟩
  · cases h; exact .inl ⟨rfl, rfl⟩
  · cases h; exact .inr ⟨b, o, g, rfl, h1, h2, h3, h4⟩
/-- the rows, as a list -/
theorem RowsIn.list {ks : List CK} {W : World} {a : Option Addr} {len cap : Nat} (h : RowsIn ks W a len cap) :
    (len = 0 ∧ cap = 0) ∨ ∃ (b o : Nat) (l : List (RowT ks)), a = some ⟨b, o, Option.none⟩ ∧ len = l.length ∧ l.length ≤ cap ∧ cap ≤ maxLen ∧ b < W.heap.size ∧ (∀ r ∈ l, RowWF ks r) ∧ RowsOK W false ⟨b, o, Option.none, 0⟩ ks l := by
  rcases h with h | ⟨b, o, g, rfl, h1, h2, h3, h4⟩
  · exact .inl h
  · refine .inr ⟨b, o, (List.range len).map g, rfl, by simp, by simpa using h1, h2, h3, fun r hr => ?_, fun k x hk j c hj => ⟨?_, fun e => by cases e⟩⟩
    · obtain ⟨i, hi, rfl⟩ := List.mem_map.1 hr
      have hi : i < len := by simpa using hi
      exact (h4 i (by omega)).1
    · have hkl : k < len := by have := (List.getElem?_eq_some_iff.1 hk).1; simpa using this
      simp only [List.getElem?_map, List.getElem?_range hkl, Option.map_some, Option.some.injEq] at hk
      subst hk
      exact (h4 k (by omega)).2 j c hj
def oneLoc (b o : Nat) : Loc := fun i => ([⟨b, o, Option.none, 0⟩] : List Place)[i]?
theorem oneLoc_slc (b o sz len cap : Nat) : Rel (oneLoc b o) (.eslc 0 sz 0 len cap) (.slice (some ⟨b, o, Option.none⟩) len cap) := by
  simp only [Rel]
  exact ⟨⟨b, o, Option.none, 0⟩, rfl, by simp⟩
theorem MemOK.one {W : World} {X : Nat → Prop} {b o : Nat} {body : Body} (h3 : b < W.heap.size) (h5 : BodyOK (oneLoc b o) W false ⟨b, o, Option.none, 0⟩ body) : MemOK (oneLoc b o) W X [⟨false, body⟩] W :=
  MemOK.start (locs := [⟨b, o, Option.none, 0⟩]) rfl (by
    intro i bb rr hb hr
    cases i with
    | zero => simp at hb hr; subst hb; subst hr; exact ⟨rfl, h3, h5⟩
    | succ i => simp at hb)
end Go.Proofs.Ytnmmicnlpjmciaa.Sx
