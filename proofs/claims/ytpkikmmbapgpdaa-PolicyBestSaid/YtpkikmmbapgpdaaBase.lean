/-
  Contracts of the functions that the laws of layer 30 use, each by the run of its own code.
-/
import Derived.Test.YtpkikmmbapgpdaaSx
import Derived.Test.YtpkikmmbapgpdaaRows
set_option linter.unusedVariables false
set_option linter.unusedSimpArgs false
namespace Go.Proofs.Ytpkikmmbapgpdaa
open Sx
def i (n : Int) : SV := .v (.int .i64 n)
def b (n : Bool) : SV := .v (.bool n)
def fin (s : SV) (mem : List Blk) : Tr (SV × List Blk) := .ok (s, mem)
def noCut : FuncId → Nat → Bool := fun _ _ => false
def noWr : FuncId → Nat → List Nat := fun _ _ => []
theorem hng : NoNG Try.prog := by
  have h : (Try.prog.funcs.all fun fn => !(fn.name == "runtime.NumGoroutine")) = true := by kernel_rfl
  intro f fn hf
  have := Array.all_eq_true'.1 h fn (Array.mem_of_getElem? hf)
  simpa using this
theorem hmix : Try.prog.follows .mixedOrders = true := by kernel_rfl
structure Slot where
  full : Bool
  prio : Int
  tries : Int
  ok : Bool
  ver : Int
  roll : Int
def Slot.cells (s : Slot) : List SV := [b s.full, i s.prio, i s.tries, b s.ok, i s.ver, i s.roll]
structure Meta where
  s0 : Slot
  s1 : Slot
  roll : Int
def Meta.sv (m : Meta) : SV := .agg (m.s0.cells ++ m.s1.cells ++ [i m.roll])
def Slot.boot (s : Slot) (r : Int) : Bool := s.full && decide (0 < s.prio) && (s.ok || decide (0 < s.tries)) && decide (r ≤ s.roll)
def Meta.may (m : Meta) (k : Int) : Bool := (k == 0 && m.s0.boot m.roll) || (k == 1 && m.s1.boot m.roll)
def Meta.choose (m : Meta) : Int := if (m.may 0 && m.may 1 && decide (m.s1.prio > m.s0.prio)) = true then 1 else if m.may 0 = true then 0 else if m.may 1 = true then 1 else -1
def Meta.target (m : Meta) (k : Int) : Int := if k = 0 then 1 else if k = 1 then 0 else if m.s0.full = false then 0 else if m.s1.full = false then 1 else if m.s0.prio < m.s1.prio then 0 else 1
theorem wrap0 : IntKind.i64.wrap 1 = 1 := by decide
theorem wrap1 : IntKind.i64.wrap 0 = 0 := by decide
/-- what a list of cells is, as slots -/
def metaOf : SV → Option Meta
  | .agg [.v (.bool f0), .v (.int .i64 p0), .v (.int .i64 t0), .v (.bool o0), .v (.int .i64 v0), .v (.int .i64 r0), .v (.bool f1), .v (.int .i64 p1), .v (.int .i64 t1), .v (.bool o1), .v (.int .i64 v1), .v (.int .i64 r1), .v (.int .i64 r)] => some ⟨⟨f0, p0, t0, o0, v0, r0⟩, ⟨f1, p1, t1, o1, v1, r1⟩, r⟩
  | _ => none
theorem metaOf_some {s : SV} {m : Meta} (h : metaOf s = some m) : s = m.sv := by
  unfold metaOf at h
  split at h
  · cases h; rfl
  · cases h
def intOf' : SV → Option Int
  | .v (.int .i64 n) => some n
  | _ => none
theorem intOf'_some {s : SV} {n : Int} (h : intOf' s = some n) : s = i n := by
  unfold intOf' at h
  split at h
  · cases h; rfl
  · cases h
def slotOf : SV → Option Slot
  | .agg [.v (.bool f), .v (.int .i64 p), .v (.int .i64 t), .v (.bool o), .v (.int .i64 v), .v (.int .i64 r)] => some ⟨f, p, t, o, v, r⟩
  | _ => none
theorem slotOf_some {s : SV} {m : Slot} (h : slotOf s = some m) : s = .agg m.cells := by
  unfold slotOf at h
  split at h
  · cases h; rfl
  · cases h
theorem pure1 {α : Type} {p : SV → Option α} {sv : α → SV} (hp : ∀ {s a}, p s = some a → s = sv a) {f : α → SV} {P : List SV → SV → Prop} (h : ∀ a, P [sv a] (f a)) : ∀ args s, (match args with | [x] => (p x).map f | _ => none) = some s → P args s := by
  intro args s hs
  split at hs
  · obtain ⟨a, ha, rfl⟩ := Option.map_eq_some_iff.1 hs
    rw [hp ha]; exact h a
  · cases hs
theorem pure2 {α β : Type} {p : SV → Option α} {q : SV → Option β} {sv : α → SV} {sw : β → SV} (hp : ∀ {s a}, p s = some a → s = sv a) (hq : ∀ {s a}, q s = some a → s = sw a) {f : α → β → SV} {P : List SV → SV → Prop} (h : ∀ a c, P [sv a, sw c] (f a c)) :
    ∀ args s, (match args with | [x, y] => (p x).bind fun a => (q y).map (f a) | _ => none) = some s → P args s := by
  intro args s hs
  split at hs
  · obtain ⟨a, ha, hs⟩ := Option.bind_eq_some_iff.1 hs
    obtain ⟨c, hc, rfl⟩ := Option.map_eq_some_iff.1 hs
    rw [hp ha, hq hc]; exact h a c
  · cases hs
def MayF : List SV → Option SV := fun args => match args with | [x, y] => (metaOf x).bind fun m => (intOf' y).map fun k => b (m.may k) | _ => none
def chooseF : List SV → Option SV := fun args => match args with | [x] => (metaOf x).map fun m => i m.choose | _ => none
def targetF : List SV → Option SV := fun args => match args with | [x, y] => (metaOf x).bind fun m => (intOf' y).map fun k => i (m.target k) | _ => none
def awakeF : List SV → Option SV := fun args => match args with | [] => some (b true) | _ => none
def eMay : Entry := pureE 6 MayF
def eRMay : Entry := pureE 7 MayF
def eChoose : Entry := pureE 11 chooseF
def eRChoose : Entry := pureE 12 chooseF
def eTarget : Entry := pureE 13 targetF
def eRTarget : Entry := pureE 14 targetF
def eAwake : Entry := pureE 15 awakeF
set_option maxRecDepth 100000
set_option maxHeartbeats 4000000
theorem wrapId {n : Int} (h0 : -9223372036854775808 ≤ n) (h1 : n ≤ 9223372036854775807) : IntKind.i64.wrap n = n := by
  simp [IntKind.wrap, IntKind.signed, IntKind.bits]; split <;> omega
theorem may_tree (m : Meta) (k : Int) : (callX Try.prog (Env.of [] noCut noWr) 400 6 [m.sv, i k] [] fin).Holds fun r => r.1 = b (m.may k) := by
  rcases Bool.eq_false_or_eq_true (decide (k < (0 : Int))) with g0 | g0
  · skip
    exact Tr.endH [.yes, .run 3] (cs := [(_, true)]) (Prod.fst) (y := SV.v (Value.bool false)) (by kernel_rfl) ⟨g0, trivial⟩ (fun a ha => ha.trans (by (try simp only [ge_iff_le, gt_iff_lt, decide_eq_true_eq, decide_eq_false_iff_not, bne_iff_ne, ne_eq, bne_eq_false_iff_eq, beq_iff_eq, beq_eq_false_iff_ne, Bool.not_eq_true', Bool.not_eq_false'] at *); first | (simp [Meta.may, Slot.boot, b, *]; done) | (simp [Meta.may, Slot.boot, b, *]; omega) | (simp_all [Meta.may, Slot.boot, b]; done) | (simp_all [Meta.may, Slot.boot, b]; omega)))
  · skip
    rcases Bool.eq_false_or_eq_true (decide (k ≥ (2 : Int))) with g1 | g1
    · skip
      exact Tr.endH [.no, .run 2, .yes] (cs := [(_, false), (_, true)]) (Prod.fst) (y := SV.v (Value.bool false)) (by kernel_rfl) ⟨g0, g1, trivial⟩ (fun a ha => ha.trans (by (try simp only [ge_iff_le, gt_iff_lt, decide_eq_true_eq, decide_eq_false_iff_not, bne_iff_ne, ne_eq, bne_eq_false_iff_eq, beq_iff_eq, beq_eq_false_iff_ne, Bool.not_eq_true', Bool.not_eq_false'] at *); first | (simp [Meta.may, Slot.boot, b, *]; done) | (simp [Meta.may, Slot.boot, b, *]; omega) | (simp_all [Meta.may, Slot.boot, b]; done) | (simp_all [Meta.may, Slot.boot, b]; omega)))
    · skip
      rcases Bool.eq_false_or_eq_true (decide (k = (0 : Int))) with g2 | g2
      · skip
        rcases Bool.eq_false_or_eq_true (m.s0.full) with g3 | g3
        · skip
          rcases Bool.eq_false_or_eq_true (decide (m.s0.prio > (0 : Int))) with g4 | g4
          · skip
            rcases Bool.eq_false_or_eq_true (m.s0.ok) with g5 | g5
            · skip
              exact Tr.endH [.no, .run 2, .no, .yes, .yes, .run 3, .yes, .run 2, .yes, .run 11] (cs := [(_, false), (_, false), (_, true), (_, true), (_, true), (_, true)]) (Prod.fst) (y := SV.v (Value.bool (decide (m.s0.roll ≥ m.roll)))) (by kernel_rfl) ⟨g0, g1, g2, g3, g4, g5, trivial⟩ (fun a ha => ha.trans (by (try simp only [ge_iff_le, gt_iff_lt, decide_eq_true_eq, decide_eq_false_iff_not, bne_iff_ne, ne_eq, bne_eq_false_iff_eq, beq_iff_eq, beq_eq_false_iff_ne, Bool.not_eq_true', Bool.not_eq_false'] at *); first | (simp [Meta.may, Slot.boot, b, *]; done) | (simp [Meta.may, Slot.boot, b, *]; omega) | (simp_all [Meta.may, Slot.boot, b]; done) | (simp_all [Meta.may, Slot.boot, b]; omega)))
            · skip
              rcases Bool.eq_false_or_eq_true (decide (m.s0.tries > (0 : Int))) with g6 | g6
              · skip
                exact Tr.endH [.no, .run 2, .no, .yes, .yes, .run 3, .yes, .run 2, .no, .run 5, .yes, .run 5] (cs := [(_, false), (_, false), (_, true), (_, true), (_, true), (_, false), (_, true)]) (Prod.fst) (y := SV.v (Value.bool (decide (m.s0.roll ≥ m.roll)))) (by kernel_rfl) ⟨g0, g1, g2, g3, g4, g5, g6, trivial⟩ (fun a ha => ha.trans (by (try simp only [ge_iff_le, gt_iff_lt, decide_eq_true_eq, decide_eq_false_iff_not, bne_iff_ne, ne_eq, bne_eq_false_iff_eq, beq_iff_eq, beq_eq_false_iff_ne, Bool.not_eq_true', Bool.not_eq_false'] at *); first | (simp [Meta.may, Slot.boot, b, *]; done) | (simp [Meta.may, Slot.boot, b, *]; omega) | (simp_all [Meta.may, Slot.boot, b]; done) | (simp_all [Meta.may, Slot.boot, b]; omega)))
              · skip
                exact Tr.endH [.no, .run 2, .no, .yes, .yes, .run 3, .yes, .run 2, .no, .run 5, .no, .run 5] (cs := [(_, false), (_, false), (_, true), (_, true), (_, true), (_, false), (_, false)]) (Prod.fst) (y := SV.v (Value.bool false)) (by kernel_rfl) ⟨g0, g1, g2, g3, g4, g5, g6, trivial⟩ (fun a ha => ha.trans (by (try simp only [ge_iff_le, gt_iff_lt, decide_eq_true_eq, decide_eq_false_iff_not, bne_iff_ne, ne_eq, bne_eq_false_iff_eq, beq_iff_eq, beq_eq_false_iff_ne, Bool.not_eq_true', Bool.not_eq_false'] at *); first | (simp [Meta.may, Slot.boot, b, *]; done) | (simp [Meta.may, Slot.boot, b, *]; omega) | (simp_all [Meta.may, Slot.boot, b]; done) | (simp_all [Meta.may, Slot.boot, b]; omega)))
          · skip
            exact Tr.endH [.no, .run 2, .no, .yes, .yes, .run 3, .no, .run 10] (cs := [(_, false), (_, false), (_, true), (_, true), (_, false)]) (Prod.fst) (y := SV.v (Value.bool false)) (by kernel_rfl) ⟨g0, g1, g2, g3, g4, trivial⟩ (fun a ha => ha.trans (by (try simp only [ge_iff_le, gt_iff_lt, decide_eq_true_eq, decide_eq_false_iff_not, bne_iff_ne, ne_eq, bne_eq_false_iff_eq, beq_iff_eq, beq_eq_false_iff_ne, Bool.not_eq_true', Bool.not_eq_false'] at *); first | (simp [Meta.may, Slot.boot, b, *]; done) | (simp [Meta.may, Slot.boot, b, *]; omega) | (simp_all [Meta.may, Slot.boot, b]; done) | (simp_all [Meta.may, Slot.boot, b]; omega)))
        · skip
          exact Tr.endH [.no, .run 2, .no, .yes, .no, .run 14] (cs := [(_, false), (_, false), (_, true), (_, false)]) (Prod.fst) (y := SV.v (Value.bool false)) (by kernel_rfl) ⟨g0, g1, g2, g3, trivial⟩ (fun a ha => ha.trans (by (try simp only [ge_iff_le, gt_iff_lt, decide_eq_true_eq, decide_eq_false_iff_not, bne_iff_ne, ne_eq, bne_eq_false_iff_eq, beq_iff_eq, beq_eq_false_iff_ne, Bool.not_eq_true', Bool.not_eq_false'] at *); first | (simp [Meta.may, Slot.boot, b, *]; done) | (simp [Meta.may, Slot.boot, b, *]; omega) | (simp_all [Meta.may, Slot.boot, b]; done) | (simp_all [Meta.may, Slot.boot, b]; omega)))
      · skip
        have g7 : (decide (k = (1 : Int))) = true := by ((try simp only [nb_beq, nb_bne, nb_beqN, nb_not, nb_or, nb_and, nb_iff, nb_niff, nb_eq, decide_eq_true_eq, decide_eq_false_iff_not, beq_iff_eq, beq_eq_false_iff_ne, ne_eq, bne_iff_ne, bne_eq_false_iff_eq, Bool.not_eq_true', Bool.not_eq_false', Bool.not_true, Bool.not_false, ge_iff_le, gt_iff_lt, Nat.zero_add, Bool.true_eq, Bool.false_eq, beq_false, beq_true, Bool.not_eq_true, Bool.not_eq_false, Bool.true_or, Bool.false_or, Bool.or_true, Bool.or_false, Bool.and_true, Bool.true_and, Bool.and_false, Bool.false_and, Bool.or_eq_true, Bool.and_eq_true, Bool.or_eq_false_iff, Bool.and_eq_false_iff, if_true, if_false, Bool.false_eq_true, reduceIte, wrap0, wrap1] at *); (try simp (disch := omega) only [wrapId] at *); first | done | omega | (simp_all; done) | (simp_all; omega))
        rcases Bool.eq_false_or_eq_true (m.s1.full) with g8 | g8
        · skip
          rcases Bool.eq_false_or_eq_true (decide (m.s1.prio > (0 : Int))) with g9 | g9
          · skip
            rcases Bool.eq_false_or_eq_true (m.s1.ok) with g10 | g10
            · skip
              exact Tr.endH [.no, .run 2, .no, .no, .yes, .yes, .run 3, .yes, .run 2, .yes, .run 11] (cs := [(_, false), (_, false), (_, false), (_, true), (_, true), (_, true), (_, true)]) (Prod.fst) (y := SV.v (Value.bool (decide (m.s1.roll ≥ m.roll)))) (by kernel_rfl) ⟨g0, g1, g2, g7, g8, g9, g10, trivial⟩ (fun a ha => ha.trans (by (try simp only [ge_iff_le, gt_iff_lt, decide_eq_true_eq, decide_eq_false_iff_not, bne_iff_ne, ne_eq, bne_eq_false_iff_eq, beq_iff_eq, beq_eq_false_iff_ne, Bool.not_eq_true', Bool.not_eq_false'] at *); first | (simp [Meta.may, Slot.boot, b, *]; done) | (simp [Meta.may, Slot.boot, b, *]; omega) | (simp_all [Meta.may, Slot.boot, b]; done) | (simp_all [Meta.may, Slot.boot, b]; omega)))
            · skip
              rcases Bool.eq_false_or_eq_true (decide (m.s1.tries > (0 : Int))) with g11 | g11
              · skip
                exact Tr.endH [.no, .run 2, .no, .no, .yes, .yes, .run 3, .yes, .run 2, .no, .run 5, .yes, .run 5] (cs := [(_, false), (_, false), (_, false), (_, true), (_, true), (_, true), (_, false), (_, true)]) (Prod.fst) (y := SV.v (Value.bool (decide (m.s1.roll ≥ m.roll)))) (by kernel_rfl) ⟨g0, g1, g2, g7, g8, g9, g10, g11, trivial⟩ (fun a ha => ha.trans (by (try simp only [ge_iff_le, gt_iff_lt, decide_eq_true_eq, decide_eq_false_iff_not, bne_iff_ne, ne_eq, bne_eq_false_iff_eq, beq_iff_eq, beq_eq_false_iff_ne, Bool.not_eq_true', Bool.not_eq_false'] at *); first | (simp [Meta.may, Slot.boot, b, *]; done) | (simp [Meta.may, Slot.boot, b, *]; omega) | (simp_all [Meta.may, Slot.boot, b]; done) | (simp_all [Meta.may, Slot.boot, b]; omega)))
              · skip
                exact Tr.endH [.no, .run 2, .no, .no, .yes, .yes, .run 3, .yes, .run 2, .no, .run 5, .no, .run 5] (cs := [(_, false), (_, false), (_, false), (_, true), (_, true), (_, true), (_, false), (_, false)]) (Prod.fst) (y := SV.v (Value.bool false)) (by kernel_rfl) ⟨g0, g1, g2, g7, g8, g9, g10, g11, trivial⟩ (fun a ha => ha.trans (by (try simp only [ge_iff_le, gt_iff_lt, decide_eq_true_eq, decide_eq_false_iff_not, bne_iff_ne, ne_eq, bne_eq_false_iff_eq, beq_iff_eq, beq_eq_false_iff_ne, Bool.not_eq_true', Bool.not_eq_false'] at *); first | (simp [Meta.may, Slot.boot, b, *]; done) | (simp [Meta.may, Slot.boot, b, *]; omega) | (simp_all [Meta.may, Slot.boot, b]; done) | (simp_all [Meta.may, Slot.boot, b]; omega)))
          · skip
            exact Tr.endH [.no, .run 2, .no, .no, .yes, .yes, .run 3, .no, .run 10] (cs := [(_, false), (_, false), (_, false), (_, true), (_, true), (_, false)]) (Prod.fst) (y := SV.v (Value.bool false)) (by kernel_rfl) ⟨g0, g1, g2, g7, g8, g9, trivial⟩ (fun a ha => ha.trans (by (try simp only [ge_iff_le, gt_iff_lt, decide_eq_true_eq, decide_eq_false_iff_not, bne_iff_ne, ne_eq, bne_eq_false_iff_eq, beq_iff_eq, beq_eq_false_iff_ne, Bool.not_eq_true', Bool.not_eq_false'] at *); first | (simp [Meta.may, Slot.boot, b, *]; done) | (simp [Meta.may, Slot.boot, b, *]; omega) | (simp_all [Meta.may, Slot.boot, b]; done) | (simp_all [Meta.may, Slot.boot, b]; omega)))
        · skip
          exact Tr.endH [.no, .run 2, .no, .no, .yes, .no, .run 14] (cs := [(_, false), (_, false), (_, false), (_, true), (_, false)]) (Prod.fst) (y := SV.v (Value.bool false)) (by kernel_rfl) ⟨g0, g1, g2, g7, g8, trivial⟩ (fun a ha => ha.trans (by (try simp only [ge_iff_le, gt_iff_lt, decide_eq_true_eq, decide_eq_false_iff_not, bne_iff_ne, ne_eq, bne_eq_false_iff_eq, beq_iff_eq, beq_eq_false_iff_ne, Bool.not_eq_true', Bool.not_eq_false'] at *); first | (simp [Meta.may, Slot.boot, b, *]; done) | (simp [Meta.may, Slot.boot, b, *]; omega) | (simp_all [Meta.may, Slot.boot, b]; done) | (simp_all [Meta.may, Slot.boot, b]; omega)))
theorem may_ok : EntryOK Try.prog eMay :=
  pureE_ok hng hmix (l := []) (cut := noCut) (wr := noWr) (by simp) 400 6 Try.func6 rfl (by simp) (pure2 metaOf_some intOf'_some fun m k => ⟨rfl, rfl, (may_tree m k).out⟩)
theorem rMay_tree (m : Meta) (k : Int) : (callX Try.prog (Env.of [] noCut noWr) 400 7 [m.sv, i k] [] fin).Holds fun r => r.1 = b (m.may k) := by
  rcases Bool.eq_false_or_eq_true (k != (0 : Int)) with g0 | g0
  · skip
    rcases Bool.eq_false_or_eq_true (k != (1 : Int)) with g1 | g1
    · skip
      exact Tr.endH [.yes, .run 2, .yes] (cs := [(_, true), (_, true)]) (Prod.fst) (y := SV.v (Value.bool false)) (by kernel_rfl) ⟨g0, g1, trivial⟩ (fun a ha => ha.trans (by (try simp only [ge_iff_le, gt_iff_lt, decide_eq_true_eq, decide_eq_false_iff_not, bne_iff_ne, ne_eq, bne_eq_false_iff_eq, beq_iff_eq, beq_eq_false_iff_ne, Bool.not_eq_true', Bool.not_eq_false'] at *); first | (simp [Meta.may, Slot.boot, b, *]; done) | (simp [Meta.may, Slot.boot, b, *]; omega) | (simp_all [Meta.may, Slot.boot, b]; done) | (simp_all [Meta.may, Slot.boot, b]; omega)))
    · skip
      have g2 : (decide (k = (0 : Int))) = false := by ((try simp only [nb_beq, nb_bne, nb_beqN, nb_not, nb_or, nb_and, nb_iff, nb_niff, nb_eq, decide_eq_true_eq, decide_eq_false_iff_not, beq_iff_eq, beq_eq_false_iff_ne, ne_eq, bne_iff_ne, bne_eq_false_iff_eq, Bool.not_eq_true', Bool.not_eq_false', Bool.not_true, Bool.not_false, ge_iff_le, gt_iff_lt, Nat.zero_add, Bool.true_eq, Bool.false_eq, beq_false, beq_true, Bool.not_eq_true, Bool.not_eq_false, Bool.true_or, Bool.false_or, Bool.or_true, Bool.or_false, Bool.and_true, Bool.true_and, Bool.and_false, Bool.false_and, Bool.or_eq_true, Bool.and_eq_true, Bool.or_eq_false_iff, Bool.and_eq_false_iff, if_true, if_false, Bool.false_eq_true, reduceIte, wrap0, wrap1] at *); (try simp (disch := omega) only [wrapId] at *); first | done | omega | (simp_all; done) | (simp_all; omega))
      have g3 : (decide (k = (1 : Int))) = true := by ((try simp only [nb_beq, nb_bne, nb_beqN, nb_not, nb_or, nb_and, nb_iff, nb_niff, nb_eq, decide_eq_true_eq, decide_eq_false_iff_not, beq_iff_eq, beq_eq_false_iff_ne, ne_eq, bne_iff_ne, bne_eq_false_iff_eq, Bool.not_eq_true', Bool.not_eq_false', Bool.not_true, Bool.not_false, ge_iff_le, gt_iff_lt, Nat.zero_add, Bool.true_eq, Bool.false_eq, beq_false, beq_true, Bool.not_eq_true, Bool.not_eq_false, Bool.true_or, Bool.false_or, Bool.or_true, Bool.or_false, Bool.and_true, Bool.true_and, Bool.and_false, Bool.false_and, Bool.or_eq_true, Bool.and_eq_true, Bool.or_eq_false_iff, Bool.and_eq_false_iff, if_true, if_false, Bool.false_eq_true, reduceIte, wrap0, wrap1] at *); (try simp (disch := omega) only [wrapId] at *); first | done | omega | (simp_all; done) | (simp_all; omega))
      rcases Bool.eq_false_or_eq_true (m.s1.full) with g4 | g4
      · skip
        rcases Bool.eq_false_or_eq_true (decide (m.s1.prio > (0 : Int))) with g5 | g5
        · skip
          rcases Bool.eq_false_or_eq_true (m.s1.ok) with g6 | g6
          · skip
            exact Tr.endH [.yes, .run 2, .no, .no, .yes, .yes, .run 3, .yes, .run 2, .yes, .run 11] (cs := [(_, true), (_, false), (_, false), (_, true), (_, true), (_, true), (_, true)]) (Prod.fst) (y := SV.v (Value.bool (decide (m.s1.roll ≥ m.roll)))) (by kernel_rfl) ⟨g0, g1, g2, g3, g4, g5, g6, trivial⟩ (fun a ha => ha.trans (by (try simp only [ge_iff_le, gt_iff_lt, decide_eq_true_eq, decide_eq_false_iff_not, bne_iff_ne, ne_eq, bne_eq_false_iff_eq, beq_iff_eq, beq_eq_false_iff_ne, Bool.not_eq_true', Bool.not_eq_false'] at *); first | (simp [Meta.may, Slot.boot, b, *]; done) | (simp [Meta.may, Slot.boot, b, *]; omega) | (simp_all [Meta.may, Slot.boot, b]; done) | (simp_all [Meta.may, Slot.boot, b]; omega)))
          · skip
            rcases Bool.eq_false_or_eq_true (decide (m.s1.tries > (0 : Int))) with g7 | g7
            · skip
              exact Tr.endH [.yes, .run 2, .no, .no, .yes, .yes, .run 3, .yes, .run 2, .no, .run 5, .yes, .run 5] (cs := [(_, true), (_, false), (_, false), (_, true), (_, true), (_, true), (_, false), (_, true)]) (Prod.fst) (y := SV.v (Value.bool (decide (m.s1.roll ≥ m.roll)))) (by kernel_rfl) ⟨g0, g1, g2, g3, g4, g5, g6, g7, trivial⟩ (fun a ha => ha.trans (by (try simp only [ge_iff_le, gt_iff_lt, decide_eq_true_eq, decide_eq_false_iff_not, bne_iff_ne, ne_eq, bne_eq_false_iff_eq, beq_iff_eq, beq_eq_false_iff_ne, Bool.not_eq_true', Bool.not_eq_false'] at *); first | (simp [Meta.may, Slot.boot, b, *]; done) | (simp [Meta.may, Slot.boot, b, *]; omega) | (simp_all [Meta.may, Slot.boot, b]; done) | (simp_all [Meta.may, Slot.boot, b]; omega)))
            · skip
              exact Tr.endH [.yes, .run 2, .no, .no, .yes, .yes, .run 3, .yes, .run 2, .no, .run 5, .no, .run 5] (cs := [(_, true), (_, false), (_, false), (_, true), (_, true), (_, true), (_, false), (_, false)]) (Prod.fst) (y := SV.v (Value.bool false)) (by kernel_rfl) ⟨g0, g1, g2, g3, g4, g5, g6, g7, trivial⟩ (fun a ha => ha.trans (by (try simp only [ge_iff_le, gt_iff_lt, decide_eq_true_eq, decide_eq_false_iff_not, bne_iff_ne, ne_eq, bne_eq_false_iff_eq, beq_iff_eq, beq_eq_false_iff_ne, Bool.not_eq_true', Bool.not_eq_false'] at *); first | (simp [Meta.may, Slot.boot, b, *]; done) | (simp [Meta.may, Slot.boot, b, *]; omega) | (simp_all [Meta.may, Slot.boot, b]; done) | (simp_all [Meta.may, Slot.boot, b]; omega)))
        · skip
          exact Tr.endH [.yes, .run 2, .no, .no, .yes, .yes, .run 3, .no, .run 10] (cs := [(_, true), (_, false), (_, false), (_, true), (_, true), (_, false)]) (Prod.fst) (y := SV.v (Value.bool false)) (by kernel_rfl) ⟨g0, g1, g2, g3, g4, g5, trivial⟩ (fun a ha => ha.trans (by (try simp only [ge_iff_le, gt_iff_lt, decide_eq_true_eq, decide_eq_false_iff_not, bne_iff_ne, ne_eq, bne_eq_false_iff_eq, beq_iff_eq, beq_eq_false_iff_ne, Bool.not_eq_true', Bool.not_eq_false'] at *); first | (simp [Meta.may, Slot.boot, b, *]; done) | (simp [Meta.may, Slot.boot, b, *]; omega) | (simp_all [Meta.may, Slot.boot, b]; done) | (simp_all [Meta.may, Slot.boot, b]; omega)))
      · skip
        exact Tr.endH [.yes, .run 2, .no, .no, .yes, .no, .run 14] (cs := [(_, true), (_, false), (_, false), (_, true), (_, false)]) (Prod.fst) (y := SV.v (Value.bool false)) (by kernel_rfl) ⟨g0, g1, g2, g3, g4, trivial⟩ (fun a ha => ha.trans (by (try simp only [ge_iff_le, gt_iff_lt, decide_eq_true_eq, decide_eq_false_iff_not, bne_iff_ne, ne_eq, bne_eq_false_iff_eq, beq_iff_eq, beq_eq_false_iff_ne, Bool.not_eq_true', Bool.not_eq_false'] at *); first | (simp [Meta.may, Slot.boot, b, *]; done) | (simp [Meta.may, Slot.boot, b, *]; omega) | (simp_all [Meta.may, Slot.boot, b]; done) | (simp_all [Meta.may, Slot.boot, b]; omega)))
  · skip
    have g8 : (decide (k = (0 : Int))) = true := by ((try simp only [nb_beq, nb_bne, nb_beqN, nb_not, nb_or, nb_and, nb_iff, nb_niff, nb_eq, decide_eq_true_eq, decide_eq_false_iff_not, beq_iff_eq, beq_eq_false_iff_ne, ne_eq, bne_iff_ne, bne_eq_false_iff_eq, Bool.not_eq_true', Bool.not_eq_false', Bool.not_true, Bool.not_false, ge_iff_le, gt_iff_lt, Nat.zero_add, Bool.true_eq, Bool.false_eq, beq_false, beq_true, Bool.not_eq_true, Bool.not_eq_false, Bool.true_or, Bool.false_or, Bool.or_true, Bool.or_false, Bool.and_true, Bool.true_and, Bool.and_false, Bool.false_and, Bool.or_eq_true, Bool.and_eq_true, Bool.or_eq_false_iff, Bool.and_eq_false_iff, if_true, if_false, Bool.false_eq_true, reduceIte, wrap0, wrap1] at *); (try simp (disch := omega) only [wrapId] at *); first | done | omega | (simp_all; done) | (simp_all; omega))
    rcases Bool.eq_false_or_eq_true (m.s0.full) with g9 | g9
    · skip
      rcases Bool.eq_false_or_eq_true (decide (m.s0.prio > (0 : Int))) with g10 | g10
      · skip
        rcases Bool.eq_false_or_eq_true (m.s0.ok) with g11 | g11
        · skip
          exact Tr.endH [.no, .run 3, .yes, .yes, .run 3, .yes, .run 2, .yes, .run 11] (cs := [(_, false), (_, true), (_, true), (_, true), (_, true)]) (Prod.fst) (y := SV.v (Value.bool (decide (m.s0.roll ≥ m.roll)))) (by kernel_rfl) ⟨g0, g8, g9, g10, g11, trivial⟩ (fun a ha => ha.trans (by (try simp only [ge_iff_le, gt_iff_lt, decide_eq_true_eq, decide_eq_false_iff_not, bne_iff_ne, ne_eq, bne_eq_false_iff_eq, beq_iff_eq, beq_eq_false_iff_ne, Bool.not_eq_true', Bool.not_eq_false'] at *); first | (simp [Meta.may, Slot.boot, b, *]; done) | (simp [Meta.may, Slot.boot, b, *]; omega) | (simp_all [Meta.may, Slot.boot, b]; done) | (simp_all [Meta.may, Slot.boot, b]; omega)))
        · skip
          rcases Bool.eq_false_or_eq_true (decide (m.s0.tries > (0 : Int))) with g12 | g12
          · skip
            exact Tr.endH [.no, .run 3, .yes, .yes, .run 3, .yes, .run 2, .no, .run 5, .yes, .run 5] (cs := [(_, false), (_, true), (_, true), (_, true), (_, false), (_, true)]) (Prod.fst) (y := SV.v (Value.bool (decide (m.s0.roll ≥ m.roll)))) (by kernel_rfl) ⟨g0, g8, g9, g10, g11, g12, trivial⟩ (fun a ha => ha.trans (by (try simp only [ge_iff_le, gt_iff_lt, decide_eq_true_eq, decide_eq_false_iff_not, bne_iff_ne, ne_eq, bne_eq_false_iff_eq, beq_iff_eq, beq_eq_false_iff_ne, Bool.not_eq_true', Bool.not_eq_false'] at *); first | (simp [Meta.may, Slot.boot, b, *]; done) | (simp [Meta.may, Slot.boot, b, *]; omega) | (simp_all [Meta.may, Slot.boot, b]; done) | (simp_all [Meta.may, Slot.boot, b]; omega)))
          · skip
            exact Tr.endH [.no, .run 3, .yes, .yes, .run 3, .yes, .run 2, .no, .run 5, .no, .run 5] (cs := [(_, false), (_, true), (_, true), (_, true), (_, false), (_, false)]) (Prod.fst) (y := SV.v (Value.bool false)) (by kernel_rfl) ⟨g0, g8, g9, g10, g11, g12, trivial⟩ (fun a ha => ha.trans (by (try simp only [ge_iff_le, gt_iff_lt, decide_eq_true_eq, decide_eq_false_iff_not, bne_iff_ne, ne_eq, bne_eq_false_iff_eq, beq_iff_eq, beq_eq_false_iff_ne, Bool.not_eq_true', Bool.not_eq_false'] at *); first | (simp [Meta.may, Slot.boot, b, *]; done) | (simp [Meta.may, Slot.boot, b, *]; omega) | (simp_all [Meta.may, Slot.boot, b]; done) | (simp_all [Meta.may, Slot.boot, b]; omega)))
      · skip
        exact Tr.endH [.no, .run 3, .yes, .yes, .run 3, .no, .run 10] (cs := [(_, false), (_, true), (_, true), (_, false)]) (Prod.fst) (y := SV.v (Value.bool false)) (by kernel_rfl) ⟨g0, g8, g9, g10, trivial⟩ (fun a ha => ha.trans (by (try simp only [ge_iff_le, gt_iff_lt, decide_eq_true_eq, decide_eq_false_iff_not, bne_iff_ne, ne_eq, bne_eq_false_iff_eq, beq_iff_eq, beq_eq_false_iff_ne, Bool.not_eq_true', Bool.not_eq_false'] at *); first | (simp [Meta.may, Slot.boot, b, *]; done) | (simp [Meta.may, Slot.boot, b, *]; omega) | (simp_all [Meta.may, Slot.boot, b]; done) | (simp_all [Meta.may, Slot.boot, b]; omega)))
    · skip
      exact Tr.endH [.no, .run 3, .yes, .no, .run 14] (cs := [(_, false), (_, true), (_, false)]) (Prod.fst) (y := SV.v (Value.bool false)) (by kernel_rfl) ⟨g0, g8, g9, trivial⟩ (fun a ha => ha.trans (by (try simp only [ge_iff_le, gt_iff_lt, decide_eq_true_eq, decide_eq_false_iff_not, bne_iff_ne, ne_eq, bne_eq_false_iff_eq, beq_iff_eq, beq_eq_false_iff_ne, Bool.not_eq_true', Bool.not_eq_false'] at *); first | (simp [Meta.may, Slot.boot, b, *]; done) | (simp [Meta.may, Slot.boot, b, *]; omega) | (simp_all [Meta.may, Slot.boot, b]; done) | (simp_all [Meta.may, Slot.boot, b]; omega)))
theorem rMay_ok : EntryOK Try.prog eRMay :=
  pureE_ok hng hmix (l := []) (cut := noCut) (wr := noWr) (by simp) 400 7 Try.func7 rfl (by simp) (pure2 metaOf_some intOf'_some fun m k => ⟨rfl, rfl, (rMay_tree m k).out⟩)
theorem choose_tree (m : Meta) : (callX Try.prog (Env.of [eMay] noCut noWr) 400 11 [m.sv] [] fin).Holds fun r => r.1 = i m.choose := by
  rcases Bool.eq_false_or_eq_true (Meta.may m (0 : Int)) with g0 | g0
  · skip
    refine Tr.needH [.run 1, .yes] (cs := [(_, true)]) (p := True ∧ True ∧ (1 : Nat) ≤ (9223372036854775807 : Nat) ∧ (8 : Nat) ≤ (140737488355328 : Nat)) (by kernel_rfl) ⟨g0, trivial⟩ (by (repeat' apply And.intro) <;> first | trivial | omega | (simp at *; omega)) ?_
    rcases Bool.eq_false_or_eq_true (Meta.may m (1 : Int)) with g1 | g1
    · skip
      refine Tr.needH [.run 1, .yes] (cs := [(_, true)]) (p := (1 : Nat) ≤ List.length ([] ++ [((0 : Int), ())]) ∧   True ∧ (2 : Nat) ≤ (9223372036854775807 : Nat) ∧ (16 : Nat) ≤ (140737488355328 : Nat)) (by kernel_rfl) ⟨g1, trivial⟩ (by (repeat' apply And.intro) <;> first | trivial | omega | (simp at *; omega)) ?_
      refine Tr.needH [.run 4] (cs := []) (p := (0 : Int) ≤ (1 : Int) ∧ (1 : Int) < (2 : Int)) (by kernel_rfl) trivial (by (repeat' apply And.intro) <;> first | trivial | omega | (simp at *; omega)) ?_
      refine Tr.needH [] (cs := []) (p := Int.toNat (1 : Int) < List.length (List.take (1 : Nat) ([] ++ [((0 : Int), ())]) ++ [((1 : Int), ())])) (by kernel_rfl) trivial (by (repeat' apply And.intro) <;> first | trivial | omega | (simp at *; omega)) ?_
      refine Tr.needH [] (cs := []) (p := (0 : Int) ≤ (0 : Int) ∧ (0 : Int) < (2 : Int)) (by kernel_rfl) trivial (by (repeat' apply And.intro) <;> first | trivial | omega | (simp at *; omega)) ?_
      refine Tr.needH [] (cs := []) (p := Int.toNat (0 : Int) < List.length (List.take (1 : Nat) ([] ++ [((0 : Int), ())]) ++ [((1 : Int), ())])) (by kernel_rfl) trivial (by (repeat' apply And.intro) <;> first | trivial | omega | (simp at *; omega)) ?_
      have g2 : (m.s0.prio != m.s0.prio) = false := by ((try simp only [nb_beq, nb_bne, nb_beqN, nb_not, nb_or, nb_and, nb_iff, nb_niff, nb_eq, decide_eq_true_eq, decide_eq_false_iff_not, beq_iff_eq, beq_eq_false_iff_ne, ne_eq, bne_iff_ne, bne_eq_false_iff_eq, Bool.not_eq_true', Bool.not_eq_false', Bool.not_true, Bool.not_false, ge_iff_le, gt_iff_lt, Nat.zero_add, Bool.true_eq, Bool.false_eq, beq_false, beq_true, Bool.not_eq_true, Bool.not_eq_false, Bool.true_or, Bool.false_or, Bool.or_true, Bool.or_false, Bool.and_true, Bool.true_and, Bool.and_false, Bool.false_and, Bool.or_eq_true, Bool.and_eq_true, Bool.or_eq_false_iff, Bool.and_eq_false_iff, if_true, if_false, Bool.false_eq_true, reduceIte, wrap0, wrap1] at *); (try simp (disch := omega) only [wrapId] at *); first | done | omega | (simp_all; done) | (simp_all; omega))
      have g3 : (m.s1.prio != m.s1.prio) = false := by ((try simp only [nb_beq, nb_bne, nb_beqN, nb_not, nb_or, nb_and, nb_iff, nb_niff, nb_eq, decide_eq_true_eq, decide_eq_false_iff_not, beq_iff_eq, beq_eq_false_iff_ne, ne_eq, bne_iff_ne, bne_eq_false_iff_eq, Bool.not_eq_true', Bool.not_eq_false', Bool.not_true, Bool.not_false, ge_iff_le, gt_iff_lt, Nat.zero_add, Bool.true_eq, Bool.false_eq, beq_false, beq_true, Bool.not_eq_true, Bool.not_eq_false, Bool.true_or, Bool.false_or, Bool.or_true, Bool.or_false, Bool.and_true, Bool.true_and, Bool.and_false, Bool.false_and, Bool.or_eq_true, Bool.and_eq_true, Bool.or_eq_false_iff, Bool.and_eq_false_iff, if_true, if_false, Bool.false_eq_true, reduceIte, wrap0, wrap1] at *); (try simp (disch := omega) only [wrapId] at *); first | done | omega | (simp_all; done) | (simp_all; omega))
      rcases Bool.eq_false_or_eq_true (decide (m.s0.prio < m.s1.prio)) with g4 | g4
      · skip
        refine Tr.needH [.run 3, .no, .no, .yes, .run 4] (cs := [(_, false), (_, false), (_, true)]) (p := (0 : Int) ≤ (0 : Int) ∧ (0 : Int) < (2 : Int)) (by kernel_rfl) ⟨g2, g3, g4, trivial⟩ (by (repeat' apply And.intro) <;> first | trivial | omega | (simp at *; omega)) ?_
        refine Tr.needH [] (cs := []) (p := (0 : Int) ≤ (1 : Int) ∧ (1 : Int) < (2 : Int)) (by kernel_rfl) trivial (by (repeat' apply And.intro) <;> first | trivial | omega | (simp at *; omega)) ?_
        refine Tr.alongH [] (cs := []) (by kernel_rfl) (by kernel_rfl) trivial (Tr.bothH ?_ ?_)
        · skip
          refine Tr.needH [] (cs := []) (p := Int.toNat (0 : Int) < List.length (List.take (1 : Nat) ([] ++ [((0 : Int), ())]) ++ [((1 : Int), ())])) (by kernel_rfl) trivial (by (repeat' apply And.intro) <;> first | trivial | omega | (simp at *; omega)) ?_
          refine Tr.needH [.run 1] (cs := []) (p := Int.toNat (1 : Int) < List.length (List.take (1 : Nat) ([] ++ [((0 : Int), ())]) ++ [((1 : Int), ())])) (by kernel_rfl) trivial (by (repeat' apply And.intro) <;> first | trivial | omega | (simp at *; omega)) ?_
          refine Tr.needH [.run 1] (cs := []) (p := (0 : Int) ≤ (1 : Int) ∧ (1 : Int) < (2 : Int)) (by kernel_rfl) trivial (by (repeat' apply And.intro) <;> first | trivial | omega | (simp at *; omega)) ?_
          refine Tr.needH [] (cs := []) (p := Int.toNat (1 : Int) < List.length (List.take (1 : Nat) ([] ++ [((0 : Int), ())]) ++ [((1 : Int), ())])) (by kernel_rfl) trivial (by (repeat' apply And.intro) <;> first | trivial | omega | (simp at *; omega)) ?_
          refine Tr.needH [.run 1] (cs := []) (p := (0 : Int) ≤ (0 : Int) ∧ (0 : Int) < (2 : Int)) (by kernel_rfl) trivial (by (repeat' apply And.intro) <;> first | trivial | omega | (simp at *; omega)) ?_
          refine Tr.needH [] (cs := []) (p := Int.toNat (0 : Int) <   List.length     (List.set (List.take (1 : Nat) ([] ++ [((0 : Int), ())]) ++ [((1 : Int), ())]) (Int.toNat (1 : Int))       ((0 : Int), ()))) (by kernel_rfl) trivial (by (repeat' apply And.intro) <;> first | trivial | omega | (simp at *; omega)) ?_
          refine Tr.needH [.run 7] (cs := []) (p := (0 : Int) ≤ (0 : Int) ∧ (0 : Int) < (2 : Int)) (by kernel_rfl) trivial (by (repeat' apply And.intro) <;> first | trivial | omega | (simp at *; omega)) ?_
          refine Tr.needH [] (cs := []) (p := Int.toNat (0 : Int) <   List.length     (List.set       (List.set (List.take (1 : Nat) ([] ++ [((0 : Int), ())]) ++ [((1 : Int), ())]) (Int.toNat (1 : Int))         ((0 : Int), ()))       (Int.toNat (0 : Int)) ((1 : Int), ()))) (by kernel_rfl) trivial (by (repeat' apply And.intro) <;> first | trivial | omega | (simp at *; omega)) ?_
          exact Tr.endH [] (cs := []) (Prod.fst) (y := SV.v (Value.int IntKind.i64 (1 : Int))) (by kernel_rfl) trivial (fun a ha => ha.trans (by (try simp only [ge_iff_le, gt_iff_lt, decide_eq_true_eq, decide_eq_false_iff_not, bne_iff_ne, ne_eq, bne_eq_false_iff_eq, beq_iff_eq, beq_eq_false_iff_ne, Bool.not_eq_true', Bool.not_eq_false'] at *); first | (simp [Meta.choose, i, wrap0, wrap1, *]; done) | (simp [Meta.choose, i, wrap0, wrap1, *]; omega) | (simp_all [Meta.choose, i, wrap0, wrap1]; done) | (simp_all [Meta.choose, i, wrap0, wrap1]; omega)))
        · skip
          refine Tr.needH [] (cs := []) (p := Int.toNat (1 : Int) < List.length (List.take (1 : Nat) ([] ++ [((0 : Int), ())]) ++ [((1 : Int), ())])) (by kernel_rfl) trivial (by (repeat' apply And.intro) <;> first | trivial | omega | (simp at *; omega)) ?_
          refine Tr.needH [.run 1] (cs := []) (p := Int.toNat (0 : Int) < List.length (List.take (1 : Nat) ([] ++ [((0 : Int), ())]) ++ [((1 : Int), ())])) (by kernel_rfl) trivial (by (repeat' apply And.intro) <;> first | trivial | omega | (simp at *; omega)) ?_
          refine Tr.needH [.run 1] (cs := []) (p := (0 : Int) ≤ (1 : Int) ∧ (1 : Int) < (2 : Int)) (by kernel_rfl) trivial (by (repeat' apply And.intro) <;> first | trivial | omega | (simp at *; omega)) ?_
          refine Tr.needH [] (cs := []) (p := Int.toNat (1 : Int) < List.length (List.take (1 : Nat) ([] ++ [((0 : Int), ())]) ++ [((1 : Int), ())])) (by kernel_rfl) trivial (by (repeat' apply And.intro) <;> first | trivial | omega | (simp at *; omega)) ?_
          refine Tr.needH [.run 1] (cs := []) (p := (0 : Int) ≤ (0 : Int) ∧ (0 : Int) < (2 : Int)) (by kernel_rfl) trivial (by (repeat' apply And.intro) <;> first | trivial | omega | (simp at *; omega)) ?_
          refine Tr.needH [] (cs := []) (p := Int.toNat (0 : Int) <   List.length     (List.set (List.take (1 : Nat) ([] ++ [((0 : Int), ())]) ++ [((1 : Int), ())]) (Int.toNat (1 : Int))       ((0 : Int), ()))) (by kernel_rfl) trivial (by (repeat' apply And.intro) <;> first | trivial | omega | (simp at *; omega)) ?_
          refine Tr.needH [.run 7] (cs := []) (p := (0 : Int) ≤ (0 : Int) ∧ (0 : Int) < (2 : Int)) (by kernel_rfl) trivial (by (repeat' apply And.intro) <;> first | trivial | omega | (simp at *; omega)) ?_
          refine Tr.needH [] (cs := []) (p := Int.toNat (0 : Int) <   List.length     (List.set       (List.set (List.take (1 : Nat) ([] ++ [((0 : Int), ())]) ++ [((1 : Int), ())]) (Int.toNat (1 : Int))         ((0 : Int), ()))       (Int.toNat (0 : Int)) ((1 : Int), ()))) (by kernel_rfl) trivial (by (repeat' apply And.intro) <;> first | trivial | omega | (simp at *; omega)) ?_
          exact Tr.endH [] (cs := []) (Prod.fst) (y := SV.v (Value.int IntKind.i64 (1 : Int))) (by kernel_rfl) trivial (fun a ha => ha.trans (by (try simp only [ge_iff_le, gt_iff_lt, decide_eq_true_eq, decide_eq_false_iff_not, bne_iff_ne, ne_eq, bne_eq_false_iff_eq, beq_iff_eq, beq_eq_false_iff_ne, Bool.not_eq_true', Bool.not_eq_false'] at *); first | (simp [Meta.choose, i, wrap0, wrap1, *]; done) | (simp [Meta.choose, i, wrap0, wrap1, *]; omega) | (simp_all [Meta.choose, i, wrap0, wrap1]; done) | (simp_all [Meta.choose, i, wrap0, wrap1]; omega)))
      · skip
        rcases Bool.eq_false_or_eq_true (decide (m.s0.prio > m.s1.prio)) with g5 | g5
        · skip
          refine Tr.needH [.run 3, .no, .no, .no, .yes, .run 7] (cs := [(_, false), (_, false), (_, false), (_, true)]) (p := (0 : Int) ≤ (0 : Int) ∧ (0 : Int) < (2 : Int)) (by kernel_rfl) ⟨g2, g3, g4, g5, trivial⟩ (by (repeat' apply And.intro) <;> first | trivial | omega | (simp at *; omega)) ?_
          refine Tr.needH [] (cs := []) (p := Int.toNat (0 : Int) < List.length (List.take (1 : Nat) ([] ++ [((0 : Int), ())]) ++ [((1 : Int), ())])) (by kernel_rfl) trivial (by (repeat' apply And.intro) <;> first | trivial | omega | (simp at *; omega)) ?_
          exact Tr.endH [] (cs := []) (Prod.fst) (y := SV.v (Value.int IntKind.i64 (0 : Int))) (by kernel_rfl) trivial (fun a ha => ha.trans (by (try simp only [ge_iff_le, gt_iff_lt, decide_eq_true_eq, decide_eq_false_iff_not, bne_iff_ne, ne_eq, bne_eq_false_iff_eq, beq_iff_eq, beq_eq_false_iff_ne, Bool.not_eq_true', Bool.not_eq_false'] at *); first | (simp [Meta.choose, i, wrap0, wrap1, *]; done) | (simp [Meta.choose, i, wrap0, wrap1, *]; omega) | (simp_all [Meta.choose, i, wrap0, wrap1]; done) | (simp_all [Meta.choose, i, wrap0, wrap1]; omega)))
        · skip
          refine Tr.needH [.run 3, .no, .no, .no, .no, .run 7] (cs := [(_, false), (_, false), (_, false), (_, false)]) (p := (0 : Int) ≤ (0 : Int) ∧ (0 : Int) < (2 : Int)) (by kernel_rfl) ⟨g2, g3, g4, g5, trivial⟩ (by (repeat' apply And.intro) <;> first | trivial | omega | (simp at *; omega)) ?_
          refine Tr.needH [] (cs := []) (p := Int.toNat (0 : Int) < List.length (List.take (1 : Nat) ([] ++ [((0 : Int), ())]) ++ [((1 : Int), ())])) (by kernel_rfl) trivial (by (repeat' apply And.intro) <;> first | trivial | omega | (simp at *; omega)) ?_
          exact Tr.endH [] (cs := []) (Prod.fst) (y := SV.v (Value.int IntKind.i64 (0 : Int))) (by kernel_rfl) trivial (fun a ha => ha.trans (by (try simp only [ge_iff_le, gt_iff_lt, decide_eq_true_eq, decide_eq_false_iff_not, bne_iff_ne, ne_eq, bne_eq_false_iff_eq, beq_iff_eq, beq_eq_false_iff_ne, Bool.not_eq_true', Bool.not_eq_false'] at *); first | (simp [Meta.choose, i, wrap0, wrap1, *]; done) | (simp [Meta.choose, i, wrap0, wrap1, *]; omega) | (simp_all [Meta.choose, i, wrap0, wrap1]; done) | (simp_all [Meta.choose, i, wrap0, wrap1]; omega)))
    · skip
      refine Tr.needH [.run 1, .no, .run 5] (cs := [(_, false)]) (p := (0 : Int) ≤ (0 : Int) ∧ (0 : Int) < (1 : Int)) (by kernel_rfl) ⟨g1, trivial⟩ (by (repeat' apply And.intro) <;> first | trivial | omega | (simp at *; omega)) ?_
      refine Tr.needH [] (cs := []) (p := Int.toNat (0 : Int) < List.length ([] ++ [((0 : Int), ())])) (by kernel_rfl) trivial (by (repeat' apply And.intro) <;> first | trivial | omega | (simp at *; omega)) ?_
      exact Tr.endH [] (cs := []) (Prod.fst) (y := SV.v (Value.int IntKind.i64 (0 : Int))) (by kernel_rfl) trivial (fun a ha => ha.trans (by (try simp only [ge_iff_le, gt_iff_lt, decide_eq_true_eq, decide_eq_false_iff_not, bne_iff_ne, ne_eq, bne_eq_false_iff_eq, beq_iff_eq, beq_eq_false_iff_ne, Bool.not_eq_true', Bool.not_eq_false'] at *); first | (simp [Meta.choose, i, wrap0, wrap1, *]; done) | (simp [Meta.choose, i, wrap0, wrap1, *]; omega) | (simp_all [Meta.choose, i, wrap0, wrap1]; done) | (simp_all [Meta.choose, i, wrap0, wrap1]; omega)))
  · skip
    rcases Bool.eq_false_or_eq_true (Meta.may m (1 : Int)) with g6 | g6
    · skip
      refine Tr.needH [.run 1, .no, .run 1, .yes] (cs := [(_, false), (_, true)]) (p := True ∧ True ∧ (1 : Nat) ≤ (9223372036854775807 : Nat) ∧ (8 : Nat) ≤ (140737488355328 : Nat)) (by kernel_rfl) ⟨g0, g6, trivial⟩ (by (repeat' apply And.intro) <;> first | trivial | omega | (simp at *; omega)) ?_
      refine Tr.needH [.run 5] (cs := []) (p := (0 : Int) ≤ (0 : Int) ∧ (0 : Int) < (1 : Int)) (by kernel_rfl) trivial (by (repeat' apply And.intro) <;> first | trivial | omega | (simp at *; omega)) ?_
      refine Tr.needH [] (cs := []) (p := Int.toNat (0 : Int) < List.length ([] ++ [((1 : Int), ())])) (by kernel_rfl) trivial (by (repeat' apply And.intro) <;> first | trivial | omega | (simp at *; omega)) ?_
      exact Tr.endH [] (cs := []) (Prod.fst) (y := SV.v (Value.int IntKind.i64 (1 : Int))) (by kernel_rfl) trivial (fun a ha => ha.trans (by (try simp only [ge_iff_le, gt_iff_lt, decide_eq_true_eq, decide_eq_false_iff_not, bne_iff_ne, ne_eq, bne_eq_false_iff_eq, beq_iff_eq, beq_eq_false_iff_ne, Bool.not_eq_true', Bool.not_eq_false'] at *); first | (simp [Meta.choose, i, wrap0, wrap1, *]; done) | (simp [Meta.choose, i, wrap0, wrap1, *]; omega) | (simp_all [Meta.choose, i, wrap0, wrap1]; done) | (simp_all [Meta.choose, i, wrap0, wrap1]; omega)))
    · skip
      exact Tr.endH [.run 1, .no, .run 1, .no, .run 5] (cs := [(_, false), (_, false)]) (Prod.fst) (y := SV.v (Value.int IntKind.i64 (-1 : Int))) (by kernel_rfl) ⟨g0, g6, trivial⟩ (fun a ha => ha.trans (by (try simp only [ge_iff_le, gt_iff_lt, decide_eq_true_eq, decide_eq_false_iff_not, bne_iff_ne, ne_eq, bne_eq_false_iff_eq, beq_iff_eq, beq_eq_false_iff_ne, Bool.not_eq_true', Bool.not_eq_false'] at *); first | (simp [Meta.choose, i, wrap0, wrap1, *]; done) | (simp [Meta.choose, i, wrap0, wrap1, *]; omega) | (simp_all [Meta.choose, i, wrap0, wrap1]; done) | (simp_all [Meta.choose, i, wrap0, wrap1]; omega)))
theorem choose_ok : EntryOK Try.prog eChoose :=
  pureE_ok hng hmix (l := [eMay]) (cut := noCut) (wr := noWr) (by simp [may_ok]) 400 11 Try.func11 rfl (by simp [eMay, pureE]) (pure1 metaOf_some fun m => ⟨rfl, rfl, (choose_tree m).out⟩)
theorem rChoose_tree (m : Meta) : (callX Try.prog (Env.of [eRMay] noCut noWr) 400 12 [m.sv] [] fin).Holds fun r => r.1 = i m.choose := by
  rcases Bool.eq_false_or_eq_true (Meta.may m (0 : Int)) with g0 | g0
  · skip
    rcases Bool.eq_false_or_eq_true (Meta.may m (1 : Int)) with g1 | g1
    · skip
      rcases Bool.eq_false_or_eq_true (decide (m.s1.prio > m.s0.prio)) with g2 | g2
      · skip
        exact Tr.endH [.run 2, .yes, .run 1, .yes, .run 12, .yes, .run 2] (cs := [(_, true), (_, true), (_, true)]) (Prod.fst) (y := SV.v (Value.int IntKind.i64 (1 : Int))) (by kernel_rfl) ⟨g0, g1, g2, trivial⟩ (fun a ha => ha.trans (by (try simp only [ge_iff_le, gt_iff_lt, decide_eq_true_eq, decide_eq_false_iff_not, bne_iff_ne, ne_eq, bne_eq_false_iff_eq, beq_iff_eq, beq_eq_false_iff_ne, Bool.not_eq_true', Bool.not_eq_false'] at *); first | (simp [Meta.choose, i, wrap0, wrap1, *]; done) | (simp [Meta.choose, i, wrap0, wrap1, *]; omega) | (simp_all [Meta.choose, i, wrap0, wrap1]; done) | (simp_all [Meta.choose, i, wrap0, wrap1]; omega)))
      · skip
        exact Tr.endH [.run 2, .yes, .run 1, .yes, .run 12, .no, .yes, .run 1, .yes, .run 2] (cs := [(_, true), (_, true), (_, false), (_, true), (_, true)]) (Prod.fst) (y := SV.v (Value.int IntKind.i64 (0 : Int))) (by kernel_rfl) ⟨g0, g1, g2, g0, g1, trivial⟩ (fun a ha => ha.trans (by (try simp only [ge_iff_le, gt_iff_lt, decide_eq_true_eq, decide_eq_false_iff_not, bne_iff_ne, ne_eq, bne_eq_false_iff_eq, beq_iff_eq, beq_eq_false_iff_ne, Bool.not_eq_true', Bool.not_eq_false'] at *); first | (simp [Meta.choose, i, wrap0, wrap1, *]; done) | (simp [Meta.choose, i, wrap0, wrap1, *]; omega) | (simp_all [Meta.choose, i, wrap0, wrap1]; done) | (simp_all [Meta.choose, i, wrap0, wrap1]; omega)))
    · skip
      exact Tr.endH [.run 2, .yes, .run 1, .no, .run 10, .yes, .run 1, .no, .yes, .run 2] (cs := [(_, true), (_, false), (_, true), (_, false), (_, true)]) (Prod.fst) (y := SV.v (Value.int IntKind.i64 (0 : Int))) (by kernel_rfl) ⟨g0, g1, g0, g1, g0, trivial⟩ (fun a ha => ha.trans (by (try simp only [ge_iff_le, gt_iff_lt, decide_eq_true_eq, decide_eq_false_iff_not, bne_iff_ne, ne_eq, bne_eq_false_iff_eq, beq_iff_eq, beq_eq_false_iff_ne, Bool.not_eq_true', Bool.not_eq_false'] at *); first | (simp [Meta.choose, i, wrap0, wrap1, *]; done) | (simp [Meta.choose, i, wrap0, wrap1, *]; omega) | (simp_all [Meta.choose, i, wrap0, wrap1]; done) | (simp_all [Meta.choose, i, wrap0, wrap1]; omega)))
  · skip
    rcases Bool.eq_false_or_eq_true (Meta.may m (1 : Int)) with g3 | g3
    · skip
      exact Tr.endH [.run 2, .no, .run 12, .no, .run 2, .no, .yes, .run 2] (cs := [(_, false), (_, false), (_, false), (_, true)]) (Prod.fst) (y := SV.v (Value.int IntKind.i64 (1 : Int))) (by kernel_rfl) ⟨g0, g0, g0, g3, trivial⟩ (fun a ha => ha.trans (by (try simp only [ge_iff_le, gt_iff_lt, decide_eq_true_eq, decide_eq_false_iff_not, bne_iff_ne, ne_eq, bne_eq_false_iff_eq, beq_iff_eq, beq_eq_false_iff_ne, Bool.not_eq_true', Bool.not_eq_false'] at *); first | (simp [Meta.choose, i, wrap0, wrap1, *]; done) | (simp [Meta.choose, i, wrap0, wrap1, *]; omega) | (simp_all [Meta.choose, i, wrap0, wrap1]; done) | (simp_all [Meta.choose, i, wrap0, wrap1]; omega)))
    · skip
      exact Tr.endH [.run 2, .no, .run 12, .no, .run 2, .no, .no, .run 1] (cs := [(_, false), (_, false), (_, false), (_, false)]) (Prod.fst) (y := SV.v (Value.int IntKind.i64 (-1 : Int))) (by kernel_rfl) ⟨g0, g0, g0, g3, trivial⟩ (fun a ha => ha.trans (by (try simp only [ge_iff_le, gt_iff_lt, decide_eq_true_eq, decide_eq_false_iff_not, bne_iff_ne, ne_eq, bne_eq_false_iff_eq, beq_iff_eq, beq_eq_false_iff_ne, Bool.not_eq_true', Bool.not_eq_false'] at *); first | (simp [Meta.choose, i, wrap0, wrap1, *]; done) | (simp [Meta.choose, i, wrap0, wrap1, *]; omega) | (simp_all [Meta.choose, i, wrap0, wrap1]; done) | (simp_all [Meta.choose, i, wrap0, wrap1]; omega)))
theorem rChoose_ok : EntryOK Try.prog eRChoose :=
  pureE_ok hng hmix (l := [eRMay]) (cut := noCut) (wr := noWr) (by simp [rMay_ok]) 400 12 Try.func12 rfl (by simp [eRMay, pureE]) (pure1 metaOf_some fun m => ⟨rfl, rfl, (rChoose_tree m).out⟩)
theorem target_tree (m : Meta) (k : Int) : (callX Try.prog (Env.of [] noCut noWr) 400 13 [m.sv, i k] [] fin).Holds fun r => r.1 = i (m.target k) := by
  rcases Bool.eq_false_or_eq_true (k == (0 : Int)) with g0 | g0
  · skip
    exact Tr.endH [.yes, .run 3] (cs := [(_, true)]) (Prod.fst) (y := SV.v (Value.int IntKind.i64 (IntKind.wrap IntKind.i64 ((1 : Int) - k)))) (by kernel_rfl) ⟨g0, trivial⟩ (fun a ha => ha.trans (by (try simp only [ge_iff_le, gt_iff_lt, decide_eq_true_eq, decide_eq_false_iff_not, bne_iff_ne, ne_eq, bne_eq_false_iff_eq, beq_iff_eq, beq_eq_false_iff_ne, Bool.not_eq_true', Bool.not_eq_false'] at *); first | (simp [Meta.target, i, wrap0, wrap1, *]; done) | (simp [Meta.target, i, wrap0, wrap1, *]; omega) | (simp_all [Meta.target, i, wrap0, wrap1]; done) | (simp_all [Meta.target, i, wrap0, wrap1]; omega)))
  · skip
    rcases Bool.eq_false_or_eq_true (k == (1 : Int)) with g1 | g1
    · skip
      exact Tr.endH [.no, .run 2, .yes] (cs := [(_, false), (_, true)]) (Prod.fst) (y := SV.v (Value.int IntKind.i64 (IntKind.wrap IntKind.i64 ((1 : Int) - k)))) (by kernel_rfl) ⟨g0, g1, trivial⟩ (fun a ha => ha.trans (by (try simp only [ge_iff_le, gt_iff_lt, decide_eq_true_eq, decide_eq_false_iff_not, bne_iff_ne, ne_eq, bne_eq_false_iff_eq, beq_iff_eq, beq_eq_false_iff_ne, Bool.not_eq_true', Bool.not_eq_false'] at *); first | (simp [Meta.target, i, wrap0, wrap1, *]; done) | (simp [Meta.target, i, wrap0, wrap1, *]; omega) | (simp_all [Meta.target, i, wrap0, wrap1]; done) | (simp_all [Meta.target, i, wrap0, wrap1]; omega)))
    · skip
      rcases Bool.eq_false_or_eq_true (!m.s0.full) with g2 | g2
      · skip
        exact Tr.endH [.no, .run 2, .no, .run 2, .yes] (cs := [(_, false), (_, false), (_, true)]) (Prod.fst) (y := SV.v (Value.int IntKind.i64 (0 : Int))) (by kernel_rfl) ⟨g0, g1, g2, trivial⟩ (fun a ha => ha.trans (by (try simp only [ge_iff_le, gt_iff_lt, decide_eq_true_eq, decide_eq_false_iff_not, bne_iff_ne, ne_eq, bne_eq_false_iff_eq, beq_iff_eq, beq_eq_false_iff_ne, Bool.not_eq_true', Bool.not_eq_false'] at *); first | (simp [Meta.target, i, wrap0, wrap1, *]; done) | (simp [Meta.target, i, wrap0, wrap1, *]; omega) | (simp_all [Meta.target, i, wrap0, wrap1]; done) | (simp_all [Meta.target, i, wrap0, wrap1]; omega)))
      · skip
        rcases Bool.eq_false_or_eq_true (!m.s1.full) with g3 | g3
        · skip
          exact Tr.endH [.no, .run 2, .no, .run 2, .no, .run 3, .yes] (cs := [(_, false), (_, false), (_, false), (_, true)]) (Prod.fst) (y := SV.v (Value.int IntKind.i64 (1 : Int))) (by kernel_rfl) ⟨g0, g1, g2, g3, trivial⟩ (fun a ha => ha.trans (by (try simp only [ge_iff_le, gt_iff_lt, decide_eq_true_eq, decide_eq_false_iff_not, bne_iff_ne, ne_eq, bne_eq_false_iff_eq, beq_iff_eq, beq_eq_false_iff_ne, Bool.not_eq_true', Bool.not_eq_false'] at *); first | (simp [Meta.target, i, wrap0, wrap1, *]; done) | (simp [Meta.target, i, wrap0, wrap1, *]; omega) | (simp_all [Meta.target, i, wrap0, wrap1]; done) | (simp_all [Meta.target, i, wrap0, wrap1]; omega)))
        · skip
          rcases Bool.eq_false_or_eq_true (decide (m.s0.prio < m.s1.prio)) with g4 | g4
          · skip
            exact Tr.endH [.no, .run 2, .no, .run 2, .no, .run 3, .no, .run 4, .yes] (cs := [(_, false), (_, false), (_, false), (_, false), (_, true)]) (Prod.fst) (y := SV.v (Value.int IntKind.i64 (0 : Int))) (by kernel_rfl) ⟨g0, g1, g2, g3, g4, trivial⟩ (fun a ha => ha.trans (by (try simp only [ge_iff_le, gt_iff_lt, decide_eq_true_eq, decide_eq_false_iff_not, bne_iff_ne, ne_eq, bne_eq_false_iff_eq, beq_iff_eq, beq_eq_false_iff_ne, Bool.not_eq_true', Bool.not_eq_false'] at *); first | (simp [Meta.target, i, wrap0, wrap1, *]; done) | (simp [Meta.target, i, wrap0, wrap1, *]; omega) | (simp_all [Meta.target, i, wrap0, wrap1]; done) | (simp_all [Meta.target, i, wrap0, wrap1]; omega)))
          · skip
            exact Tr.endH [.no, .run 2, .no, .run 2, .no, .run 3, .no, .run 4, .no] (cs := [(_, false), (_, false), (_, false), (_, false), (_, false)]) (Prod.fst) (y := SV.v (Value.int IntKind.i64 (1 : Int))) (by kernel_rfl) ⟨g0, g1, g2, g3, g4, trivial⟩ (fun a ha => ha.trans (by (try simp only [ge_iff_le, gt_iff_lt, decide_eq_true_eq, decide_eq_false_iff_not, bne_iff_ne, ne_eq, bne_eq_false_iff_eq, beq_iff_eq, beq_eq_false_iff_ne, Bool.not_eq_true', Bool.not_eq_false'] at *); first | (simp [Meta.target, i, wrap0, wrap1, *]; done) | (simp [Meta.target, i, wrap0, wrap1, *]; omega) | (simp_all [Meta.target, i, wrap0, wrap1]; done) | (simp_all [Meta.target, i, wrap0, wrap1]; omega)))
theorem target_ok : EntryOK Try.prog eTarget :=
  pureE_ok hng hmix (l := []) (cut := noCut) (wr := noWr) (by simp) 400 13 Try.func13 rfl (by simp) (pure2 metaOf_some intOf'_some fun m k => ⟨rfl, rfl, (target_tree m k).out⟩)
theorem rTarget_tree (m : Meta) (k : Int) : (callX Try.prog (Env.of [] noCut noWr) 400 14 [m.sv, i k] [] fin).Holds fun r => r.1 = i (m.target k) := by
  rcases Bool.eq_false_or_eq_true (k == (0 : Int)) with g0 | g0
  · skip
    exact Tr.endH [.yes] (cs := [(_, true)]) (Prod.fst) (y := SV.v (Value.int IntKind.i64 (1 : Int))) (by kernel_rfl) ⟨g0, trivial⟩ (fun a ha => ha.trans (by (try simp only [ge_iff_le, gt_iff_lt, decide_eq_true_eq, decide_eq_false_iff_not, bne_iff_ne, ne_eq, bne_eq_false_iff_eq, beq_iff_eq, beq_eq_false_iff_ne, Bool.not_eq_true', Bool.not_eq_false'] at *); first | (simp [Meta.target, i, *]; done) | (simp [Meta.target, i, *]; omega) | (simp_all [Meta.target, i]; done) | (simp_all [Meta.target, i]; omega)))
  · skip
    rcases Bool.eq_false_or_eq_true (k == (1 : Int)) with g1 | g1
    · skip
      exact Tr.endH [.no, .yes] (cs := [(_, false), (_, true)]) (Prod.fst) (y := SV.v (Value.int IntKind.i64 (0 : Int))) (by kernel_rfl) ⟨g0, g1, trivial⟩ (fun a ha => ha.trans (by (try simp only [ge_iff_le, gt_iff_lt, decide_eq_true_eq, decide_eq_false_iff_not, bne_iff_ne, ne_eq, bne_eq_false_iff_eq, beq_iff_eq, beq_eq_false_iff_ne, Bool.not_eq_true', Bool.not_eq_false'] at *); first | (simp [Meta.target, i, *]; done) | (simp [Meta.target, i, *]; omega) | (simp_all [Meta.target, i]; done) | (simp_all [Meta.target, i]; omega)))
    · skip
      rcases Bool.eq_false_or_eq_true (!m.s0.full) with g2 | g2
      · skip
        exact Tr.endH [.no, .no, .run 1, .yes] (cs := [(_, false), (_, false), (_, true)]) (Prod.fst) (y := SV.v (Value.int IntKind.i64 (0 : Int))) (by kernel_rfl) ⟨g0, g1, g2, trivial⟩ (fun a ha => ha.trans (by (try simp only [ge_iff_le, gt_iff_lt, decide_eq_true_eq, decide_eq_false_iff_not, bne_iff_ne, ne_eq, bne_eq_false_iff_eq, beq_iff_eq, beq_eq_false_iff_ne, Bool.not_eq_true', Bool.not_eq_false'] at *); first | (simp [Meta.target, i, *]; done) | (simp [Meta.target, i, *]; omega) | (simp_all [Meta.target, i]; done) | (simp_all [Meta.target, i]; omega)))
      · skip
        rcases Bool.eq_false_or_eq_true (!m.s1.full) with g3 | g3
        · skip
          exact Tr.endH [.no, .no, .run 1, .no, .run 2, .yes] (cs := [(_, false), (_, false), (_, false), (_, true)]) (Prod.fst) (y := SV.v (Value.int IntKind.i64 (1 : Int))) (by kernel_rfl) ⟨g0, g1, g2, g3, trivial⟩ (fun a ha => ha.trans (by (try simp only [ge_iff_le, gt_iff_lt, decide_eq_true_eq, decide_eq_false_iff_not, bne_iff_ne, ne_eq, bne_eq_false_iff_eq, beq_iff_eq, beq_eq_false_iff_ne, Bool.not_eq_true', Bool.not_eq_false'] at *); first | (simp [Meta.target, i, *]; done) | (simp [Meta.target, i, *]; omega) | (simp_all [Meta.target, i]; done) | (simp_all [Meta.target, i]; omega)))
        · skip
          rcases Bool.eq_false_or_eq_true (decide (m.s0.prio < m.s1.prio)) with g4 | g4
          · skip
            exact Tr.endH [.no, .no, .run 1, .no, .run 2, .no, .run 3, .yes] (cs := [(_, false), (_, false), (_, false), (_, false), (_, true)]) (Prod.fst) (y := SV.v (Value.int IntKind.i64 (0 : Int))) (by kernel_rfl) ⟨g0, g1, g2, g3, g4, trivial⟩ (fun a ha => ha.trans (by (try simp only [ge_iff_le, gt_iff_lt, decide_eq_true_eq, decide_eq_false_iff_not, bne_iff_ne, ne_eq, bne_eq_false_iff_eq, beq_iff_eq, beq_eq_false_iff_ne, Bool.not_eq_true', Bool.not_eq_false'] at *); first | (simp [Meta.target, i, *]; done) | (simp [Meta.target, i, *]; omega) | (simp_all [Meta.target, i]; done) | (simp_all [Meta.target, i]; omega)))
          · skip
            exact Tr.endH [.no, .no, .run 1, .no, .run 2, .no, .run 3, .no] (cs := [(_, false), (_, false), (_, false), (_, false), (_, false)]) (Prod.fst) (y := SV.v (Value.int IntKind.i64 (1 : Int))) (by kernel_rfl) ⟨g0, g1, g2, g3, g4, trivial⟩ (fun a ha => ha.trans (by (try simp only [ge_iff_le, gt_iff_lt, decide_eq_true_eq, decide_eq_false_iff_not, bne_iff_ne, ne_eq, bne_eq_false_iff_eq, beq_iff_eq, beq_eq_false_iff_ne, Bool.not_eq_true', Bool.not_eq_false'] at *); first | (simp [Meta.target, i, *]; done) | (simp [Meta.target, i, *]; omega) | (simp_all [Meta.target, i]; done) | (simp_all [Meta.target, i]; omega)))
theorem rTarget_ok : EntryOK Try.prog eRTarget :=
  pureE_ok hng hmix (l := []) (cut := noCut) (wr := noWr) (by simp) 400 14 Try.func14 rfl (by simp) (pure2 metaOf_some intOf'_some fun m k => ⟨rfl, rfl, (rTarget_tree m k).out⟩)
theorem awake_tree : (callX Try.prog (Env.of [] noCut noWr) 400 15 [] [] fin).Holds fun r => r.1 = b true := by
  refine Tr.needH [.run 26] (cs := []) (p := True ∧ True ∧ (1 : Nat) ≤ (9223372036854775807 : Nat) ∧ (8 : Nat) ≤ (140737488355328 : Nat)) (by kernel_rfl) trivial (by (repeat' apply And.intro) <;> first | trivial | omega | (simp at *; omega)) ?_
  refine Tr.needH [.run 27] (cs := []) (p := (1 : Nat) ≤ List.length ([] ++ [((0 : Int), ())]) ∧   True ∧ (2 : Nat) ≤ (9223372036854775807 : Nat) ∧ (16 : Nat) ≤ (140737488355328 : Nat)) (by kernel_rfl) trivial (by (repeat' apply And.intro) <;> first | trivial | omega | (simp at *; omega)) ?_
  refine Tr.needH [.run 4] (cs := []) (p := (0 : Int) ≤ (1 : Int) ∧ (1 : Int) < (2 : Int)) (by kernel_rfl) trivial (by (repeat' apply And.intro) <;> first | trivial | omega | (simp at *; omega)) ?_
  refine Tr.needH [] (cs := []) (p := Int.toNat (1 : Int) < List.length (List.take (1 : Nat) ([] ++ [((0 : Int), ())]) ++ [((1 : Int), ())])) (by kernel_rfl) trivial (by (repeat' apply And.intro) <;> first | trivial | omega | (simp at *; omega)) ?_
  refine Tr.needH [] (cs := []) (p := (0 : Int) ≤ (0 : Int) ∧ (0 : Int) < (2 : Int)) (by kernel_rfl) trivial (by (repeat' apply And.intro) <;> first | trivial | omega | (simp at *; omega)) ?_
  refine Tr.needH [] (cs := []) (p := Int.toNat (0 : Int) < List.length (List.take (1 : Nat) ([] ++ [((0 : Int), ())]) ++ [((1 : Int), ())])) (by kernel_rfl) trivial (by (repeat' apply And.intro) <;> first | trivial | omega | (simp at *; omega)) ?_
  refine Tr.needH [.run 10] (cs := []) (p := (0 : Int) ≤ (0 : Int) ∧ (0 : Int) < (2 : Int)) (by kernel_rfl) trivial (by (repeat' apply And.intro) <;> first | trivial | omega | (simp at *; omega)) ?_
  refine Tr.needH [] (cs := []) (p := (0 : Int) ≤ (1 : Int) ∧ (1 : Int) < (2 : Int)) (by kernel_rfl) trivial (by (repeat' apply And.intro) <;> first | trivial | omega | (simp at *; omega)) ?_
  refine Tr.alongH [] (cs := []) (by kernel_rfl) (by kernel_rfl) trivial (Tr.bothH ?_ ?_)
  · skip
    refine Tr.needH [] (cs := []) (p := Int.toNat (0 : Int) < List.length (List.take (1 : Nat) ([] ++ [((0 : Int), ())]) ++ [((1 : Int), ())])) (by kernel_rfl) trivial (by (repeat' apply And.intro) <;> first | trivial | omega | (simp at *; omega)) ?_
    refine Tr.needH [.run 1] (cs := []) (p := Int.toNat (1 : Int) < List.length (List.take (1 : Nat) ([] ++ [((0 : Int), ())]) ++ [((1 : Int), ())])) (by kernel_rfl) trivial (by (repeat' apply And.intro) <;> first | trivial | omega | (simp at *; omega)) ?_
    refine Tr.needH [.run 1] (cs := []) (p := (0 : Int) ≤ (1 : Int) ∧ (1 : Int) < (2 : Int)) (by kernel_rfl) trivial (by (repeat' apply And.intro) <;> first | trivial | omega | (simp at *; omega)) ?_
    refine Tr.needH [] (cs := []) (p := Int.toNat (1 : Int) < List.length (List.take (1 : Nat) ([] ++ [((0 : Int), ())]) ++ [((1 : Int), ())])) (by kernel_rfl) trivial (by (repeat' apply And.intro) <;> first | trivial | omega | (simp at *; omega)) ?_
    refine Tr.needH [.run 1] (cs := []) (p := (0 : Int) ≤ (0 : Int) ∧ (0 : Int) < (2 : Int)) (by kernel_rfl) trivial (by (repeat' apply And.intro) <;> first | trivial | omega | (simp at *; omega)) ?_
    refine Tr.needH [] (cs := []) (p := Int.toNat (0 : Int) <   List.length     (List.set (List.take (1 : Nat) ([] ++ [((0 : Int), ())]) ++ [((1 : Int), ())]) (Int.toNat (1 : Int))       ((0 : Int), ()))) (by kernel_rfl) trivial (by (repeat' apply And.intro) <;> first | trivial | omega | (simp at *; omega)) ?_
    refine Tr.needH [.run 7] (cs := []) (p := (0 : Int) ≤ (0 : Int) ∧ (0 : Int) < (2 : Int)) (by kernel_rfl) trivial (by (repeat' apply And.intro) <;> first | trivial | omega | (simp at *; omega)) ?_
    refine Tr.needH [] (cs := []) (p := Int.toNat (0 : Int) <   List.length     (List.set       (List.set (List.take (1 : Nat) ([] ++ [((0 : Int), ())]) ++ [((1 : Int), ())]) (Int.toNat (1 : Int))         ((0 : Int), ()))       (Int.toNat (0 : Int)) ((1 : Int), ()))) (by kernel_rfl) trivial (by (repeat' apply And.intro) <;> first | trivial | omega | (simp at *; omega)) ?_
    refine Tr.needH [.run 145] (cs := []) (p := True ∧ True ∧ (1 : Nat) ≤ (9223372036854775807 : Nat) ∧ (8 : Nat) ≤ (140737488355328 : Nat)) (by kernel_rfl) trivial (by (repeat' apply And.intro) <;> first | trivial | omega | (simp at *; omega)) ?_
    refine Tr.needH [.run 27] (cs := []) (p := (1 : Nat) ≤ List.length ([] ++ [((0 : Int), ())]) ∧   True ∧ (2 : Nat) ≤ (9223372036854775807 : Nat) ∧ (16 : Nat) ≤ (140737488355328 : Nat)) (by kernel_rfl) trivial (by (repeat' apply And.intro) <;> first | trivial | omega | (simp at *; omega)) ?_
    refine Tr.needH [.run 4] (cs := []) (p := (0 : Int) ≤ (1 : Int) ∧ (1 : Int) < (2 : Int)) (by kernel_rfl) trivial (by (repeat' apply And.intro) <;> first | trivial | omega | (simp at *; omega)) ?_
    refine Tr.needH [] (cs := []) (p := Int.toNat (1 : Int) < List.length (List.take (1 : Nat) ([] ++ [((0 : Int), ())]) ++ [((1 : Int), ())])) (by kernel_rfl) trivial (by (repeat' apply And.intro) <;> first | trivial | omega | (simp at *; omega)) ?_
    refine Tr.needH [] (cs := []) (p := (0 : Int) ≤ (0 : Int) ∧ (0 : Int) < (2 : Int)) (by kernel_rfl) trivial (by (repeat' apply And.intro) <;> first | trivial | omega | (simp at *; omega)) ?_
    refine Tr.needH [] (cs := []) (p := Int.toNat (0 : Int) < List.length (List.take (1 : Nat) ([] ++ [((0 : Int), ())]) ++ [((1 : Int), ())])) (by kernel_rfl) trivial (by (repeat' apply And.intro) <;> first | trivial | omega | (simp at *; omega)) ?_
    refine Tr.needH [.run 10] (cs := []) (p := (0 : Int) ≤ (0 : Int) ∧ (0 : Int) < (2 : Int)) (by kernel_rfl) trivial (by (repeat' apply And.intro) <;> first | trivial | omega | (simp at *; omega)) ?_
    refine Tr.needH [] (cs := []) (p := (0 : Int) ≤ (1 : Int) ∧ (1 : Int) < (2 : Int)) (by kernel_rfl) trivial (by (repeat' apply And.intro) <;> first | trivial | omega | (simp at *; omega)) ?_
    refine Tr.alongH [] (cs := []) (by kernel_rfl) (by kernel_rfl) trivial (Tr.bothH ?_ ?_)
    · skip
      refine Tr.needH [] (cs := []) (p := Int.toNat (0 : Int) < List.length (List.take (1 : Nat) ([] ++ [((0 : Int), ())]) ++ [((1 : Int), ())])) (by kernel_rfl) trivial (by (repeat' apply And.intro) <;> first | trivial | omega | (simp at *; omega)) ?_
      refine Tr.needH [.run 1] (cs := []) (p := Int.toNat (1 : Int) < List.length (List.take (1 : Nat) ([] ++ [((0 : Int), ())]) ++ [((1 : Int), ())])) (by kernel_rfl) trivial (by (repeat' apply And.intro) <;> first | trivial | omega | (simp at *; omega)) ?_
      refine Tr.needH [.run 1] (cs := []) (p := (0 : Int) ≤ (1 : Int) ∧ (1 : Int) < (2 : Int)) (by kernel_rfl) trivial (by (repeat' apply And.intro) <;> first | trivial | omega | (simp at *; omega)) ?_
      refine Tr.needH [] (cs := []) (p := Int.toNat (1 : Int) < List.length (List.take (1 : Nat) ([] ++ [((0 : Int), ())]) ++ [((1 : Int), ())])) (by kernel_rfl) trivial (by (repeat' apply And.intro) <;> first | trivial | omega | (simp at *; omega)) ?_
      refine Tr.needH [.run 1] (cs := []) (p := (0 : Int) ≤ (0 : Int) ∧ (0 : Int) < (2 : Int)) (by kernel_rfl) trivial (by (repeat' apply And.intro) <;> first | trivial | omega | (simp at *; omega)) ?_
      refine Tr.needH [] (cs := []) (p := Int.toNat (0 : Int) <   List.length     (List.set (List.take (1 : Nat) ([] ++ [((0 : Int), ())]) ++ [((1 : Int), ())]) (Int.toNat (1 : Int))       ((0 : Int), ()))) (by kernel_rfl) trivial (by (repeat' apply And.intro) <;> first | trivial | omega | (simp at *; omega)) ?_
      refine Tr.needH [.run 15] (cs := []) (p := (0 : Int) ≤ (0 : Int) ∧ (0 : Int) < (2 : Int)) (by kernel_rfl) trivial (by (repeat' apply And.intro) <;> first | trivial | omega | (simp at *; omega)) ?_
      refine Tr.needH [] (cs := []) (p := Int.toNat (0 : Int) <   List.length     (List.set       (List.set (List.take (1 : Nat) ([] ++ [((0 : Int), ())]) ++ [((1 : Int), ())]) (Int.toNat (1 : Int))         ((0 : Int), ()))       (Int.toNat (0 : Int)) ((1 : Int), ()))) (by kernel_rfl) trivial (by (repeat' apply And.intro) <;> first | trivial | omega | (simp at *; omega)) ?_
      refine Tr.needH [.run 8] (cs := []) (p := (0 : Int) ≤ (1 : Int) ∧ (1 : Int) < (2 : Int)) (by kernel_rfl) trivial (by (repeat' apply And.intro) <;> first | trivial | omega | (simp at *; omega)) ?_
      refine Tr.needH [] (cs := []) (p := Int.toNat (1 : Int) <   List.length     (List.set       (List.set (List.take (1 : Nat) ([] ++ [((0 : Int), ())]) ++ [((1 : Int), ())]) (Int.toNat (1 : Int))         ((0 : Int), ()))       (Int.toNat (0 : Int)) ((1 : Int), ()))) (by kernel_rfl) trivial (by (repeat' apply And.intro) <;> first | trivial | omega | (simp at *; omega)) ?_
      exact Tr.endH [.run 10] (cs := []) (Prod.fst) (y := SV.v (Value.bool true)) (by kernel_rfl) trivial (fun a ha => ha.trans rfl)
    · skip
      refine Tr.needH [] (cs := []) (p := Int.toNat (1 : Int) < List.length (List.take (1 : Nat) ([] ++ [((0 : Int), ())]) ++ [((1 : Int), ())])) (by kernel_rfl) trivial (by (repeat' apply And.intro) <;> first | trivial | omega | (simp at *; omega)) ?_
      refine Tr.needH [.run 1] (cs := []) (p := Int.toNat (0 : Int) < List.length (List.take (1 : Nat) ([] ++ [((0 : Int), ())]) ++ [((1 : Int), ())])) (by kernel_rfl) trivial (by (repeat' apply And.intro) <;> first | trivial | omega | (simp at *; omega)) ?_
      refine Tr.needH [.run 1] (cs := []) (p := (0 : Int) ≤ (1 : Int) ∧ (1 : Int) < (2 : Int)) (by kernel_rfl) trivial (by (repeat' apply And.intro) <;> first | trivial | omega | (simp at *; omega)) ?_
      refine Tr.needH [] (cs := []) (p := Int.toNat (1 : Int) < List.length (List.take (1 : Nat) ([] ++ [((0 : Int), ())]) ++ [((1 : Int), ())])) (by kernel_rfl) trivial (by (repeat' apply And.intro) <;> first | trivial | omega | (simp at *; omega)) ?_
      refine Tr.needH [.run 1] (cs := []) (p := (0 : Int) ≤ (0 : Int) ∧ (0 : Int) < (2 : Int)) (by kernel_rfl) trivial (by (repeat' apply And.intro) <;> first | trivial | omega | (simp at *; omega)) ?_
      refine Tr.needH [] (cs := []) (p := Int.toNat (0 : Int) <   List.length     (List.set (List.take (1 : Nat) ([] ++ [((0 : Int), ())]) ++ [((1 : Int), ())]) (Int.toNat (1 : Int))       ((0 : Int), ()))) (by kernel_rfl) trivial (by (repeat' apply And.intro) <;> first | trivial | omega | (simp at *; omega)) ?_
      refine Tr.needH [.run 15] (cs := []) (p := (0 : Int) ≤ (0 : Int) ∧ (0 : Int) < (2 : Int)) (by kernel_rfl) trivial (by (repeat' apply And.intro) <;> first | trivial | omega | (simp at *; omega)) ?_
      refine Tr.needH [] (cs := []) (p := Int.toNat (0 : Int) <   List.length     (List.set       (List.set (List.take (1 : Nat) ([] ++ [((0 : Int), ())]) ++ [((1 : Int), ())]) (Int.toNat (1 : Int))         ((0 : Int), ()))       (Int.toNat (0 : Int)) ((1 : Int), ()))) (by kernel_rfl) trivial (by (repeat' apply And.intro) <;> first | trivial | omega | (simp at *; omega)) ?_
      refine Tr.needH [.run 8] (cs := []) (p := (0 : Int) ≤ (1 : Int) ∧ (1 : Int) < (2 : Int)) (by kernel_rfl) trivial (by (repeat' apply And.intro) <;> first | trivial | omega | (simp at *; omega)) ?_
      refine Tr.needH [] (cs := []) (p := Int.toNat (1 : Int) <   List.length     (List.set       (List.set (List.take (1 : Nat) ([] ++ [((0 : Int), ())]) ++ [((1 : Int), ())]) (Int.toNat (1 : Int))         ((0 : Int), ()))       (Int.toNat (0 : Int)) ((1 : Int), ()))) (by kernel_rfl) trivial (by (repeat' apply And.intro) <;> first | trivial | omega | (simp at *; omega)) ?_
      exact Tr.endH [.run 10] (cs := []) (Prod.fst) (y := SV.v (Value.bool true)) (by kernel_rfl) trivial (fun a ha => ha.trans rfl)
  · skip
    refine Tr.needH [] (cs := []) (p := Int.toNat (1 : Int) < List.length (List.take (1 : Nat) ([] ++ [((0 : Int), ())]) ++ [((1 : Int), ())])) (by kernel_rfl) trivial (by (repeat' apply And.intro) <;> first | trivial | omega | (simp at *; omega)) ?_
    refine Tr.needH [.run 1] (cs := []) (p := Int.toNat (0 : Int) < List.length (List.take (1 : Nat) ([] ++ [((0 : Int), ())]) ++ [((1 : Int), ())])) (by kernel_rfl) trivial (by (repeat' apply And.intro) <;> first | trivial | omega | (simp at *; omega)) ?_
    refine Tr.needH [.run 1] (cs := []) (p := (0 : Int) ≤ (1 : Int) ∧ (1 : Int) < (2 : Int)) (by kernel_rfl) trivial (by (repeat' apply And.intro) <;> first | trivial | omega | (simp at *; omega)) ?_
    refine Tr.needH [] (cs := []) (p := Int.toNat (1 : Int) < List.length (List.take (1 : Nat) ([] ++ [((0 : Int), ())]) ++ [((1 : Int), ())])) (by kernel_rfl) trivial (by (repeat' apply And.intro) <;> first | trivial | omega | (simp at *; omega)) ?_
    refine Tr.needH [.run 1] (cs := []) (p := (0 : Int) ≤ (0 : Int) ∧ (0 : Int) < (2 : Int)) (by kernel_rfl) trivial (by (repeat' apply And.intro) <;> first | trivial | omega | (simp at *; omega)) ?_
    refine Tr.needH [] (cs := []) (p := Int.toNat (0 : Int) <   List.length     (List.set (List.take (1 : Nat) ([] ++ [((0 : Int), ())]) ++ [((1 : Int), ())]) (Int.toNat (1 : Int))       ((0 : Int), ()))) (by kernel_rfl) trivial (by (repeat' apply And.intro) <;> first | trivial | omega | (simp at *; omega)) ?_
    refine Tr.needH [.run 7] (cs := []) (p := (0 : Int) ≤ (0 : Int) ∧ (0 : Int) < (2 : Int)) (by kernel_rfl) trivial (by (repeat' apply And.intro) <;> first | trivial | omega | (simp at *; omega)) ?_
    refine Tr.needH [] (cs := []) (p := Int.toNat (0 : Int) <   List.length     (List.set       (List.set (List.take (1 : Nat) ([] ++ [((0 : Int), ())]) ++ [((1 : Int), ())]) (Int.toNat (1 : Int))         ((0 : Int), ()))       (Int.toNat (0 : Int)) ((1 : Int), ()))) (by kernel_rfl) trivial (by (repeat' apply And.intro) <;> first | trivial | omega | (simp at *; omega)) ?_
    refine Tr.needH [.run 145] (cs := []) (p := True ∧ True ∧ (1 : Nat) ≤ (9223372036854775807 : Nat) ∧ (8 : Nat) ≤ (140737488355328 : Nat)) (by kernel_rfl) trivial (by (repeat' apply And.intro) <;> first | trivial | omega | (simp at *; omega)) ?_
    refine Tr.needH [.run 27] (cs := []) (p := (1 : Nat) ≤ List.length ([] ++ [((0 : Int), ())]) ∧   True ∧ (2 : Nat) ≤ (9223372036854775807 : Nat) ∧ (16 : Nat) ≤ (140737488355328 : Nat)) (by kernel_rfl) trivial (by (repeat' apply And.intro) <;> first | trivial | omega | (simp at *; omega)) ?_
    refine Tr.needH [.run 4] (cs := []) (p := (0 : Int) ≤ (1 : Int) ∧ (1 : Int) < (2 : Int)) (by kernel_rfl) trivial (by (repeat' apply And.intro) <;> first | trivial | omega | (simp at *; omega)) ?_
    refine Tr.needH [] (cs := []) (p := Int.toNat (1 : Int) < List.length (List.take (1 : Nat) ([] ++ [((0 : Int), ())]) ++ [((1 : Int), ())])) (by kernel_rfl) trivial (by (repeat' apply And.intro) <;> first | trivial | omega | (simp at *; omega)) ?_
    refine Tr.needH [] (cs := []) (p := (0 : Int) ≤ (0 : Int) ∧ (0 : Int) < (2 : Int)) (by kernel_rfl) trivial (by (repeat' apply And.intro) <;> first | trivial | omega | (simp at *; omega)) ?_
    refine Tr.needH [] (cs := []) (p := Int.toNat (0 : Int) < List.length (List.take (1 : Nat) ([] ++ [((0 : Int), ())]) ++ [((1 : Int), ())])) (by kernel_rfl) trivial (by (repeat' apply And.intro) <;> first | trivial | omega | (simp at *; omega)) ?_
    refine Tr.needH [.run 10] (cs := []) (p := (0 : Int) ≤ (0 : Int) ∧ (0 : Int) < (2 : Int)) (by kernel_rfl) trivial (by (repeat' apply And.intro) <;> first | trivial | omega | (simp at *; omega)) ?_
    refine Tr.needH [] (cs := []) (p := (0 : Int) ≤ (1 : Int) ∧ (1 : Int) < (2 : Int)) (by kernel_rfl) trivial (by (repeat' apply And.intro) <;> first | trivial | omega | (simp at *; omega)) ?_
    refine Tr.alongH [] (cs := []) (by kernel_rfl) (by kernel_rfl) trivial (Tr.bothH ?_ ?_)
    · skip
      refine Tr.needH [] (cs := []) (p := Int.toNat (0 : Int) < List.length (List.take (1 : Nat) ([] ++ [((0 : Int), ())]) ++ [((1 : Int), ())])) (by kernel_rfl) trivial (by (repeat' apply And.intro) <;> first | trivial | omega | (simp at *; omega)) ?_
      refine Tr.needH [.run 1] (cs := []) (p := Int.toNat (1 : Int) < List.length (List.take (1 : Nat) ([] ++ [((0 : Int), ())]) ++ [((1 : Int), ())])) (by kernel_rfl) trivial (by (repeat' apply And.intro) <;> first | trivial | omega | (simp at *; omega)) ?_
      refine Tr.needH [.run 1] (cs := []) (p := (0 : Int) ≤ (1 : Int) ∧ (1 : Int) < (2 : Int)) (by kernel_rfl) trivial (by (repeat' apply And.intro) <;> first | trivial | omega | (simp at *; omega)) ?_
      refine Tr.needH [] (cs := []) (p := Int.toNat (1 : Int) < List.length (List.take (1 : Nat) ([] ++ [((0 : Int), ())]) ++ [((1 : Int), ())])) (by kernel_rfl) trivial (by (repeat' apply And.intro) <;> first | trivial | omega | (simp at *; omega)) ?_
      refine Tr.needH [.run 1] (cs := []) (p := (0 : Int) ≤ (0 : Int) ∧ (0 : Int) < (2 : Int)) (by kernel_rfl) trivial (by (repeat' apply And.intro) <;> first | trivial | omega | (simp at *; omega)) ?_
      refine Tr.needH [] (cs := []) (p := Int.toNat (0 : Int) <   List.length     (List.set (List.take (1 : Nat) ([] ++ [((0 : Int), ())]) ++ [((1 : Int), ())]) (Int.toNat (1 : Int))       ((0 : Int), ()))) (by kernel_rfl) trivial (by (repeat' apply And.intro) <;> first | trivial | omega | (simp at *; omega)) ?_
      refine Tr.needH [.run 15] (cs := []) (p := (0 : Int) ≤ (0 : Int) ∧ (0 : Int) < (2 : Int)) (by kernel_rfl) trivial (by (repeat' apply And.intro) <;> first | trivial | omega | (simp at *; omega)) ?_
      refine Tr.needH [] (cs := []) (p := Int.toNat (0 : Int) <   List.length     (List.set       (List.set (List.take (1 : Nat) ([] ++ [((0 : Int), ())]) ++ [((1 : Int), ())]) (Int.toNat (1 : Int))         ((0 : Int), ()))       (Int.toNat (0 : Int)) ((1 : Int), ()))) (by kernel_rfl) trivial (by (repeat' apply And.intro) <;> first | trivial | omega | (simp at *; omega)) ?_
      refine Tr.needH [.run 8] (cs := []) (p := (0 : Int) ≤ (1 : Int) ∧ (1 : Int) < (2 : Int)) (by kernel_rfl) trivial (by (repeat' apply And.intro) <;> first | trivial | omega | (simp at *; omega)) ?_
      refine Tr.needH [] (cs := []) (p := Int.toNat (1 : Int) <   List.length     (List.set       (List.set (List.take (1 : Nat) ([] ++ [((0 : Int), ())]) ++ [((1 : Int), ())]) (Int.toNat (1 : Int))         ((0 : Int), ()))       (Int.toNat (0 : Int)) ((1 : Int), ()))) (by kernel_rfl) trivial (by (repeat' apply And.intro) <;> first | trivial | omega | (simp at *; omega)) ?_
      exact Tr.endH [.run 10] (cs := []) (Prod.fst) (y := SV.v (Value.bool true)) (by kernel_rfl) trivial (fun a ha => ha.trans rfl)
    · skip
      refine Tr.needH [] (cs := []) (p := Int.toNat (1 : Int) < List.length (List.take (1 : Nat) ([] ++ [((0 : Int), ())]) ++ [((1 : Int), ())])) (by kernel_rfl) trivial (by (repeat' apply And.intro) <;> first | trivial | omega | (simp at *; omega)) ?_
      refine Tr.needH [.run 1] (cs := []) (p := Int.toNat (0 : Int) < List.length (List.take (1 : Nat) ([] ++ [((0 : Int), ())]) ++ [((1 : Int), ())])) (by kernel_rfl) trivial (by (repeat' apply And.intro) <;> first | trivial | omega | (simp at *; omega)) ?_
      refine Tr.needH [.run 1] (cs := []) (p := (0 : Int) ≤ (1 : Int) ∧ (1 : Int) < (2 : Int)) (by kernel_rfl) trivial (by (repeat' apply And.intro) <;> first | trivial | omega | (simp at *; omega)) ?_
      refine Tr.needH [] (cs := []) (p := Int.toNat (1 : Int) < List.length (List.take (1 : Nat) ([] ++ [((0 : Int), ())]) ++ [((1 : Int), ())])) (by kernel_rfl) trivial (by (repeat' apply And.intro) <;> first | trivial | omega | (simp at *; omega)) ?_
      refine Tr.needH [.run 1] (cs := []) (p := (0 : Int) ≤ (0 : Int) ∧ (0 : Int) < (2 : Int)) (by kernel_rfl) trivial (by (repeat' apply And.intro) <;> first | trivial | omega | (simp at *; omega)) ?_
      refine Tr.needH [] (cs := []) (p := Int.toNat (0 : Int) <   List.length     (List.set (List.take (1 : Nat) ([] ++ [((0 : Int), ())]) ++ [((1 : Int), ())]) (Int.toNat (1 : Int))       ((0 : Int), ()))) (by kernel_rfl) trivial (by (repeat' apply And.intro) <;> first | trivial | omega | (simp at *; omega)) ?_
      refine Tr.needH [.run 15] (cs := []) (p := (0 : Int) ≤ (0 : Int) ∧ (0 : Int) < (2 : Int)) (by kernel_rfl) trivial (by (repeat' apply And.intro) <;> first | trivial | omega | (simp at *; omega)) ?_
      refine Tr.needH [] (cs := []) (p := Int.toNat (0 : Int) <   List.length     (List.set       (List.set (List.take (1 : Nat) ([] ++ [((0 : Int), ())]) ++ [((1 : Int), ())]) (Int.toNat (1 : Int))         ((0 : Int), ()))       (Int.toNat (0 : Int)) ((1 : Int), ()))) (by kernel_rfl) trivial (by (repeat' apply And.intro) <;> first | trivial | omega | (simp at *; omega)) ?_
      refine Tr.needH [.run 8] (cs := []) (p := (0 : Int) ≤ (1 : Int) ∧ (1 : Int) < (2 : Int)) (by kernel_rfl) trivial (by (repeat' apply And.intro) <;> first | trivial | omega | (simp at *; omega)) ?_
      refine Tr.needH [] (cs := []) (p := Int.toNat (1 : Int) <   List.length     (List.set       (List.set (List.take (1 : Nat) ([] ++ [((0 : Int), ())]) ++ [((1 : Int), ())]) (Int.toNat (1 : Int))         ((0 : Int), ()))       (Int.toNat (0 : Int)) ((1 : Int), ()))) (by kernel_rfl) trivial (by (repeat' apply And.intro) <;> first | trivial | omega | (simp at *; omega)) ?_
      exact Tr.endH [.run 10] (cs := []) (Prod.fst) (y := SV.v (Value.bool true)) (by kernel_rfl) trivial (fun a ha => ha.trans rfl)
theorem awake_ok : EntryOK Try.prog eAwake :=
  pureE_ok hng hmix (l := []) (cut := noCut) (wr := noWr) (by simp) 400 15 Try.func15 rfl (by simp) (by
    intro args s h
    unfold awakeF at h
    split at h
    · cases h; exact ⟨rfl, rfl, awake_tree.out⟩
    · cases h)
def metaK : List CK := [.bool, .int .i64, .int .i64, .bool, .int .i64, .int .i64, .bool, .int .i64, .int .i64, .bool, .int .i64, .int .i64, .int .i64]
/-- what came in, as slots -/
def metaIn (r : RowT metaK) : Meta := ⟨⟨r.1, r.2.1, r.2.2.1, r.2.2.2.1, r.2.2.2.2.1, r.2.2.2.2.2.1⟩, ⟨r.2.2.2.2.2.2.1, r.2.2.2.2.2.2.2.1, r.2.2.2.2.2.2.2.2.1, r.2.2.2.2.2.2.2.2.2.1, r.2.2.2.2.2.2.2.2.2.2.1, r.2.2.2.2.2.2.2.2.2.2.2.1⟩, r.2.2.2.2.2.2.2.2.2.2.2.2.1⟩
theorem metaIn_rel {ρ : Sx.Loc} (r : RowT metaK) : Rel ρ (metaIn r).sv (.agg (rowV metaK r).toArray) := by
  have h : (metaIn r).sv = .agg (rowSV metaK r) := by kernel_rfl
  rw [h]
  simp only [Rel]
  exact ⟨_, row_rel metaK r, rfl⟩
end Go.Proofs.Ytpkikmmbapgpdaa
