/-
  Contracts of the functions on slots that the laws of layer 31 use, each by the run of its own code.
-/
import Derived.Test.YtakfkhbckdacnaaSx
import Derived.Test.YtakfkhbckdacnaaRows
set_option linter.unusedVariables false
set_option linter.unusedSimpArgs false
namespace Go.Proofs.Ytakfkhbckdacnaa
open Sx
def i (n : Int) : SV := .v (.int .i64 n)
def b (n : Bool) : SV := .v (.bool n)
def fin (s : SV) (mem : List Blk) : Tr (SV × List Blk) := .ok (s, mem)
def noCut : FuncId → Nat → Bool := fun _ _ => false
def noWr : FuncId → Nat → List Nat := fun _ _ => []
theorem hng : NoNG Try.prog := by
  have h : (Try.prog.funcs.all fun fn => !(fn.name == "runtime.NumGoroutine")) = true := by kernel_rfl
  intro f fn hf
  have := Array.all_eq_true'.1 h fn (Array.mem_of_getElem? hf)
  simpa using this
theorem hmix : Try.prog.follows .mixedOrders = true := by kernel_rfl
structure Slot where
  full : Bool
  prio : Int
  tries : Int
  ok : Bool
  ver : Int
  roll : Int
def Slot.cells (s : Slot) : List SV := [b s.full, i s.prio, i s.tries, b s.ok, i s.ver, i s.roll]
structure Meta where
  s0 : Slot
  s1 : Slot
  roll : Int
def Meta.sv (m : Meta) : SV := .agg (m.s0.cells ++ m.s1.cells ++ [i m.roll])
def wordB (n : Int) : Bool := decide (0 ≤ n) && decide (n ≤ 4294967295)
def Slot.may (s : Slot) : Bool := decide (0 ≤ s.prio) && decide (s.prio ≤ 15) && decide (0 ≤ s.tries) && decide (s.tries ≤ 7) && wordB s.ver && wordB s.roll && (s.full || (s.prio == 0 && !s.ok))
def Meta.good (m : Meta) : Bool := m.s0.may && m.s1.may && wordB m.roll
def Slot.boot (s : Slot) (r : Int) : Bool := s.full && decide (0 < s.prio) && (s.ok || decide (0 < s.tries)) && decide (r ≤ s.roll)
def Meta.may (m : Meta) (k : Int) : Bool := (k == 0 && m.s0.boot m.roll) || (k == 1 && m.s1.boot m.roll)
def Slot.try (s : Slot) : Slot := if (!s.ok && decide (0 < s.tries)) = true then { s with tries := IntKind.i64.wrap (s.tries - 1) } else s
def Meta.try (m : Meta) (k : Int) : Meta := if k = 0 then { m with s0 := m.s0.try } else if k = 1 then { m with s1 := m.s1.try } else m
/-- what a list of cells is, as slots -/
def metaOf : SV → Option Meta
  | .agg [.v (.bool f0), .v (.int .i64 p0), .v (.int .i64 t0), .v (.bool o0), .v (.int .i64 v0), .v (.int .i64 r0), .v (.bool f1), .v (.int .i64 p1), .v (.int .i64 t1), .v (.bool o1), .v (.int .i64 v1), .v (.int .i64 r1), .v (.int .i64 r)] => some ⟨⟨f0, p0, t0, o0, v0, r0⟩, ⟨f1, p1, t1, o1, v1, r1⟩, r⟩
  | _ => none
theorem metaOf_some {s : SV} {m : Meta} (h : metaOf s = some m) : s = m.sv := by
  unfold metaOf at h
  split at h
  · cases h; rfl
  · cases h
def intOf' : SV → Option Int
  | .v (.int .i64 n) => some n
  | _ => none
theorem intOf'_some {s : SV} {n : Int} (h : intOf' s = some n) : s = i n := by
  unfold intOf' at h
  split at h
  · cases h; rfl
  · cases h
def slotOf : SV → Option Slot
  | .agg [.v (.bool f), .v (.int .i64 p), .v (.int .i64 t), .v (.bool o), .v (.int .i64 v), .v (.int .i64 r)] => some ⟨f, p, t, o, v, r⟩
  | _ => none
theorem slotOf_some {s : SV} {m : Slot} (h : slotOf s = some m) : s = .agg m.cells := by
  unfold slotOf at h
  split at h
  · cases h; rfl
  · cases h
theorem pure1 {α : Type} {p : SV → Option α} {sv : α → SV} (hp : ∀ {s a}, p s = some a → s = sv a) {f : α → SV} {P : List SV → SV → Prop} (h : ∀ a, P [sv a] (f a)) : ∀ args s, (match args with | [x] => (p x).map f | _ => none) = some s → P args s := by
  intro args s hs
  split at hs
  · obtain ⟨a, ha, rfl⟩ := Option.map_eq_some_iff.1 hs
    rw [hp ha]; exact h a
  · cases hs
theorem pure2 {α β : Type} {p : SV → Option α} {q : SV → Option β} {sv : α → SV} {sw : β → SV} (hp : ∀ {s a}, p s = some a → s = sv a) (hq : ∀ {s a}, q s = some a → s = sw a) {f : α → β → SV} {P : List SV → SV → Prop} (h : ∀ a c, P [sv a, sw c] (f a c)) :
    ∀ args s, (match args with | [x, y] => (p x).bind fun a => (q y).map (f a) | _ => none) = some s → P args s := by
  intro args s hs
  split at hs
  · obtain ⟨a, ha, hs⟩ := Option.bind_eq_some_iff.1 hs
    obtain ⟨c, hc, rfl⟩ := Option.map_eq_some_iff.1 hs
    rw [hp ha, hq hc]; exact h a c
  · cases hs
def wordF : List SV → Option SV := fun args => match args with | [x] => (intOf' x).map fun n => b (wordB n) | _ => none
def mayF : List SV → Option SV := fun args => match args with | [x] => (slotOf x).map fun s => b s.may | _ => none
def checkF : List SV → Option SV := fun args => match args with | [x] => (metaOf x).map fun m => i (if m.good = true then 0 else 1) | _ => none
def MayF : List SV → Option SV := fun args => match args with | [x, y] => (metaOf x).bind fun m => (intOf' y).map fun k => b (m.may k) | _ => none
def tryF : List SV → Option SV := fun args => match args with | [x, y] => (metaOf x).bind fun m => (intOf' y).map fun k => (m.try k).sv | _ => none
def awakeF : List SV → Option SV := fun args => match args with | [] => some (b true) | _ => none
def eWord : Entry := pureE 23 wordF
def eMay : Entry := pureE 22 mayF
def eCheck : Entry := pureE 9 checkF
def eMAY : Entry := pureE 10 MayF
def eTry : Entry := pureE 12 tryF
def eAwake : Entry := pureE 6 awakeF
set_option maxRecDepth 100000
set_option maxHeartbeats 4000000
theorem word_tree (n : Int) : (callX Try.prog (Env.of [] noCut noWr) 400 23 [i n] [] fin).Holds fun r => r.1 = b (wordB n) := by
  rcases Bool.eq_false_or_eq_true (decide (n ≥ (0 : Int))) with g0 | g0
  · skip
    exact Tr.endH [.yes, .run 2] (cs := [(_, true)]) (Prod.fst) (y := SV.v (Value.bool (decide (n ≤ (4294967295 : Int))))) (by kernel_rfl) ⟨g0, trivial⟩ (fun a ha => ha.trans (by (try simp only [ge_iff_le, gt_iff_lt, decide_eq_true_eq, decide_eq_false_iff_not, bne_iff_ne, ne_eq, bne_eq_false_iff_eq, Bool.not_eq_true', Bool.not_eq_false'] at *); simp [wordB, b, *]))
  · skip
    exact Tr.endH [.no, .run 2] (cs := [(_, false)]) (Prod.fst) (y := SV.v (Value.bool false)) (by kernel_rfl) ⟨g0, trivial⟩ (fun a ha => ha.trans (by (try simp only [ge_iff_le, gt_iff_lt, decide_eq_true_eq, decide_eq_false_iff_not, bne_iff_ne, ne_eq, bne_eq_false_iff_eq, Bool.not_eq_true', Bool.not_eq_false'] at *); simp [wordB, b, *]))
theorem word_ok : EntryOK Try.prog eWord :=
  pureE_ok hng hmix (l := []) (cut := noCut) (wr := noWr) (by simp) 400 23 Try.func23 rfl (by simp) (pure1 intOf'_some fun n => ⟨rfl, rfl, (word_tree n).out⟩)
theorem may_tree (s : Slot) : (callX Try.prog (Env.of [eWord] noCut noWr) 400 22 [.agg s.cells] [] fin).Holds fun r => r.1 = b s.may := by
  rcases Bool.eq_false_or_eq_true (decide (s.prio ≥ (0 : Int))) with g0 | g0
  · skip
    rcases Bool.eq_false_or_eq_true (decide (s.prio ≤ (15 : Int))) with g1 | g1
    · skip
      rcases Bool.eq_false_or_eq_true (decide (s.tries ≥ (0 : Int))) with g2 | g2
      · skip
        rcases Bool.eq_false_or_eq_true (decide (s.tries ≤ (7 : Int))) with g3 | g3
        · skip
          rcases Bool.eq_false_or_eq_true (wordB s.ver) with g4 | g4
          · skip
            rcases Bool.eq_false_or_eq_true (wordB s.roll) with g5 | g5
            · skip
              rcases Bool.eq_false_or_eq_true (s.full) with g6 | g6
              · skip
                exact Tr.endH [.yes, .run 3, .yes, .run 3, .yes, .run 3, .yes, .run 3, .yes, .run 3, .yes, .run 2, .yes, .run 7] (cs := [(_, true), (_, true), (_, true), (_, true), (_, true), (_, true), (_, true)]) (Prod.fst) (y := SV.v (Value.bool true)) (by kernel_rfl) ⟨g0, g1, g2, g3, g4, g5, g6, trivial⟩ (fun a ha => ha.trans (by (try simp only [ge_iff_le, gt_iff_lt, decide_eq_true_eq, decide_eq_false_iff_not, bne_iff_ne, ne_eq, bne_eq_false_iff_eq, Bool.not_eq_true', Bool.not_eq_false'] at *); simp [Slot.may, b, *]))
              · skip
                rcases Bool.eq_false_or_eq_true (s.prio == (0 : Int)) with g7 | g7
                · skip
                  exact Tr.endH [.yes, .run 3, .yes, .run 3, .yes, .run 3, .yes, .run 3, .yes, .run 3, .yes, .run 2, .no, .run 3, .yes, .run 7] (cs := [(_, true), (_, true), (_, true), (_, true), (_, true), (_, true), (_, false), (_, true)]) (Prod.fst) (y := SV.v (Value.bool !s.ok)) (by kernel_rfl) ⟨g0, g1, g2, g3, g4, g5, g6, g7, trivial⟩ (fun a ha => ha.trans (by (try simp only [ge_iff_le, gt_iff_lt, decide_eq_true_eq, decide_eq_false_iff_not, bne_iff_ne, ne_eq, bne_eq_false_iff_eq, Bool.not_eq_true', Bool.not_eq_false'] at *); simp [Slot.may, b, *]))
                · skip
                  exact Tr.endH [.yes, .run 3, .yes, .run 3, .yes, .run 3, .yes, .run 3, .yes, .run 3, .yes, .run 2, .no, .run 3, .no, .run 7] (cs := [(_, true), (_, true), (_, true), (_, true), (_, true), (_, true), (_, false), (_, false)]) (Prod.fst) (y := SV.v (Value.bool false)) (by kernel_rfl) ⟨g0, g1, g2, g3, g4, g5, g6, g7, trivial⟩ (fun a ha => ha.trans (by (try simp only [ge_iff_le, gt_iff_lt, decide_eq_true_eq, decide_eq_false_iff_not, bne_iff_ne, ne_eq, bne_eq_false_iff_eq, Bool.not_eq_true', Bool.not_eq_false'] at *); simp [Slot.may, b, *]))
            · skip
              exact Tr.endH [.yes, .run 3, .yes, .run 3, .yes, .run 3, .yes, .run 3, .yes, .run 3, .no, .run 4] (cs := [(_, true), (_, true), (_, true), (_, true), (_, true), (_, false)]) (Prod.fst) (y := SV.v (Value.bool false)) (by kernel_rfl) ⟨g0, g1, g2, g3, g4, g5, trivial⟩ (fun a ha => ha.trans (by (try simp only [ge_iff_le, gt_iff_lt, decide_eq_true_eq, decide_eq_false_iff_not, bne_iff_ne, ne_eq, bne_eq_false_iff_eq, Bool.not_eq_true', Bool.not_eq_false'] at *); simp [Slot.may, b, *]))
          · skip
            exact Tr.endH [.yes, .run 3, .yes, .run 3, .yes, .run 3, .yes, .run 3, .no, .run 8] (cs := [(_, true), (_, true), (_, true), (_, true), (_, false)]) (Prod.fst) (y := SV.v (Value.bool false)) (by kernel_rfl) ⟨g0, g1, g2, g3, g4, trivial⟩ (fun a ha => ha.trans (by (try simp only [ge_iff_le, gt_iff_lt, decide_eq_true_eq, decide_eq_false_iff_not, bne_iff_ne, ne_eq, bne_eq_false_iff_eq, Bool.not_eq_true', Bool.not_eq_false'] at *); simp [Slot.may, b, *]))
        · skip
          exact Tr.endH [.yes, .run 3, .yes, .run 3, .yes, .run 3, .no, .run 12] (cs := [(_, true), (_, true), (_, true), (_, false)]) (Prod.fst) (y := SV.v (Value.bool false)) (by kernel_rfl) ⟨g0, g1, g2, g3, trivial⟩ (fun a ha => ha.trans (by (try simp only [ge_iff_le, gt_iff_lt, decide_eq_true_eq, decide_eq_false_iff_not, bne_iff_ne, ne_eq, bne_eq_false_iff_eq, Bool.not_eq_true', Bool.not_eq_false'] at *); simp [Slot.may, b, *]))
      · skip
        exact Tr.endH [.yes, .run 3, .yes, .run 3, .no, .run 16] (cs := [(_, true), (_, true), (_, false)]) (Prod.fst) (y := SV.v (Value.bool false)) (by kernel_rfl) ⟨g0, g1, g2, trivial⟩ (fun a ha => ha.trans (by (try simp only [ge_iff_le, gt_iff_lt, decide_eq_true_eq, decide_eq_false_iff_not, bne_iff_ne, ne_eq, bne_eq_false_iff_eq, Bool.not_eq_true', Bool.not_eq_false'] at *); simp [Slot.may, b, *]))
    · skip
      exact Tr.endH [.yes, .run 3, .no, .run 20] (cs := [(_, true), (_, false)]) (Prod.fst) (y := SV.v (Value.bool false)) (by kernel_rfl) ⟨g0, g1, trivial⟩ (fun a ha => ha.trans (by (try simp only [ge_iff_le, gt_iff_lt, decide_eq_true_eq, decide_eq_false_iff_not, bne_iff_ne, ne_eq, bne_eq_false_iff_eq, Bool.not_eq_true', Bool.not_eq_false'] at *); simp [Slot.may, b, *]))
  · skip
    exact Tr.endH [.no, .run 24] (cs := [(_, false)]) (Prod.fst) (y := SV.v (Value.bool false)) (by kernel_rfl) ⟨g0, trivial⟩ (fun a ha => ha.trans (by (try simp only [ge_iff_le, gt_iff_lt, decide_eq_true_eq, decide_eq_false_iff_not, bne_iff_ne, ne_eq, bne_eq_false_iff_eq, Bool.not_eq_true', Bool.not_eq_false'] at *); simp [Slot.may, b, *]))
theorem may_ok : EntryOK Try.prog eMay :=
  pureE_ok hng hmix (l := [eWord]) (cut := noCut) (wr := noWr) (by simp [word_ok]) 400 22 Try.func22 rfl (by simp [eWord, pureE]) (pure1 slotOf_some fun s => ⟨rfl, rfl, (may_tree s).out⟩)
theorem check_tree (m : Meta) : (callX Try.prog (Env.of [eMay, eWord] noCut noWr) 400 9 [m.sv] [] fin).Holds fun r => r.1 = i (if m.good = true then 0 else 1) := by
  rcases Bool.eq_false_or_eq_true (!Slot.may m.s0) with g0 | g0
  · skip
    exact Tr.endH [.run 1, .yes, .run 11] (cs := [(_, true)]) (Prod.fst) (y := SV.v (Value.int IntKind.i64 (1 : Int))) (by kernel_rfl) ⟨g0, trivial⟩ (fun a ha => ha.trans (by (try simp only [ge_iff_le, gt_iff_lt, decide_eq_true_eq, decide_eq_false_iff_not, bne_iff_ne, ne_eq, bne_eq_false_iff_eq, Bool.not_eq_true', Bool.not_eq_false'] at *); simp [Meta.good, i, *]))
  · skip
    rcases Bool.eq_false_or_eq_true (!Slot.may m.s1) with g1 | g1
    · skip
      exact Tr.endH [.run 1, .no, .run 7, .yes, .run 5] (cs := [(_, false), (_, true)]) (Prod.fst) (y := SV.v (Value.int IntKind.i64 (1 : Int))) (by kernel_rfl) ⟨g0, g1, trivial⟩ (fun a ha => ha.trans (by (try simp only [ge_iff_le, gt_iff_lt, decide_eq_true_eq, decide_eq_false_iff_not, bne_iff_ne, ne_eq, bne_eq_false_iff_eq, Bool.not_eq_true', Bool.not_eq_false'] at *); simp [Meta.good, i, *]))
    · skip
      rcases Bool.eq_false_or_eq_true (!wordB m.roll) with g2 | g2
      · skip
        exact Tr.endH [.run 1, .no, .run 7, .no, .run 4, .yes] (cs := [(_, false), (_, false), (_, true)]) (Prod.fst) (y := SV.v (Value.int IntKind.i64 (1 : Int))) (by kernel_rfl) ⟨g0, g1, g2, trivial⟩ (fun a ha => ha.trans (by (try simp only [ge_iff_le, gt_iff_lt, decide_eq_true_eq, decide_eq_false_iff_not, bne_iff_ne, ne_eq, bne_eq_false_iff_eq, Bool.not_eq_true', Bool.not_eq_false'] at *); simp [Meta.good, i, *]))
      · skip
        exact Tr.endH [.run 1, .no, .run 7, .no, .run 4, .no] (cs := [(_, false), (_, false), (_, false)]) (Prod.fst) (y := SV.v (Value.int IntKind.i64 (0 : Int))) (by kernel_rfl) ⟨g0, g1, g2, trivial⟩ (fun a ha => ha.trans (by (try simp only [ge_iff_le, gt_iff_lt, decide_eq_true_eq, decide_eq_false_iff_not, bne_iff_ne, ne_eq, bne_eq_false_iff_eq, Bool.not_eq_true', Bool.not_eq_false'] at *); simp [Meta.good, i, *]))
theorem check_ok : EntryOK Try.prog eCheck :=
  pureE_ok hng hmix (l := [eMay, eWord]) (cut := noCut) (wr := noWr) (by simp [word_ok, may_ok]) 400 9 Try.func9 rfl (by simp [eWord, eMay, pureE]) (pure1 metaOf_some fun m => ⟨rfl, rfl, (check_tree m).out⟩)
theorem MAY_tree (m : Meta) (k : Int) : (callX Try.prog (Env.of [] noCut noWr) 400 10 [m.sv, i k] [] fin).Holds fun r => r.1 = b (m.may k) := by
  rcases Bool.eq_false_or_eq_true (k != (0 : Int)) with g0 | g0
  · skip
    rcases Bool.eq_false_or_eq_true (k != (1 : Int)) with g1 | g1
    · skip
      exact Tr.endH [.yes, .run 2, .yes] (cs := [(_, true), (_, true)]) (Prod.fst) (y := SV.v (Value.bool false)) (by kernel_rfl) ⟨g0, g1, trivial⟩ (fun a ha => ha.trans (by (try simp only [ge_iff_le, gt_iff_lt, decide_eq_true_eq, decide_eq_false_iff_not, bne_iff_ne, ne_eq, bne_eq_false_iff_eq, Bool.not_eq_true', Bool.not_eq_false'] at *); simp [Meta.may, Slot.boot, b, *]))
    · skip
      have g2 : (decide (k = (0 : Int))) = false := by (first | (simp_all; done) | (simp only [decide_eq_true_eq, decide_eq_false_iff_not, beq_iff_eq, beq_eq_false_iff_ne, ne_eq, bne_iff_ne, Bool.not_eq_true', Bool.not_eq_false', ge_iff_le, gt_iff_lt] at *; omega))
      have g3 : (decide (k = (1 : Int))) = true := by (first | (simp_all; done) | (simp only [decide_eq_true_eq, decide_eq_false_iff_not, beq_iff_eq, beq_eq_false_iff_ne, ne_eq, bne_iff_ne, Bool.not_eq_true', Bool.not_eq_false', ge_iff_le, gt_iff_lt] at *; omega))
      rcases Bool.eq_false_or_eq_true (m.s1.full) with g4 | g4
      · skip
        rcases Bool.eq_false_or_eq_true (decide (m.s1.prio > (0 : Int))) with g5 | g5
        · skip
          rcases Bool.eq_false_or_eq_true (m.s1.ok) with g6 | g6
          · skip
            exact Tr.endH [.yes, .run 2, .no, .no, .yes, .yes, .run 3, .yes, .run 2, .yes, .run 11] (cs := [(_, true), (_, false), (_, false), (_, true), (_, true), (_, true), (_, true)]) (Prod.fst) (y := SV.v (Value.bool (decide (m.s1.roll ≥ m.roll)))) (by kernel_rfl) ⟨g0, g1, g2, g3, g4, g5, g6, trivial⟩ (fun a ha => ha.trans (by (try simp only [ge_iff_le, gt_iff_lt, decide_eq_true_eq, decide_eq_false_iff_not, bne_iff_ne, ne_eq, bne_eq_false_iff_eq, Bool.not_eq_true', Bool.not_eq_false'] at *); simp [Meta.may, Slot.boot, b, *]))
          · skip
            rcases Bool.eq_false_or_eq_true (decide (m.s1.tries > (0 : Int))) with g7 | g7
            · skip
              exact Tr.endH [.yes, .run 2, .no, .no, .yes, .yes, .run 3, .yes, .run 2, .no, .run 5, .yes, .run 5] (cs := [(_, true), (_, false), (_, false), (_, true), (_, true), (_, true), (_, false), (_, true)]) (Prod.fst) (y := SV.v (Value.bool (decide (m.s1.roll ≥ m.roll)))) (by kernel_rfl) ⟨g0, g1, g2, g3, g4, g5, g6, g7, trivial⟩ (fun a ha => ha.trans (by (try simp only [ge_iff_le, gt_iff_lt, decide_eq_true_eq, decide_eq_false_iff_not, bne_iff_ne, ne_eq, bne_eq_false_iff_eq, Bool.not_eq_true', Bool.not_eq_false'] at *); simp [Meta.may, Slot.boot, b, *]))
            · skip
              exact Tr.endH [.yes, .run 2, .no, .no, .yes, .yes, .run 3, .yes, .run 2, .no, .run 5, .no, .run 5] (cs := [(_, true), (_, false), (_, false), (_, true), (_, true), (_, true), (_, false), (_, false)]) (Prod.fst) (y := SV.v (Value.bool false)) (by kernel_rfl) ⟨g0, g1, g2, g3, g4, g5, g6, g7, trivial⟩ (fun a ha => ha.trans (by (try simp only [ge_iff_le, gt_iff_lt, decide_eq_true_eq, decide_eq_false_iff_not, bne_iff_ne, ne_eq, bne_eq_false_iff_eq, Bool.not_eq_true', Bool.not_eq_false'] at *); simp [Meta.may, Slot.boot, b, *]))
        · skip
          exact Tr.endH [.yes, .run 2, .no, .no, .yes, .yes, .run 3, .no, .run 10] (cs := [(_, true), (_, false), (_, false), (_, true), (_, true), (_, false)]) (Prod.fst) (y := SV.v (Value.bool false)) (by kernel_rfl) ⟨g0, g1, g2, g3, g4, g5, trivial⟩ (fun a ha => ha.trans (by (try simp only [ge_iff_le, gt_iff_lt, decide_eq_true_eq, decide_eq_false_iff_not, bne_iff_ne, ne_eq, bne_eq_false_iff_eq, Bool.not_eq_true', Bool.not_eq_false'] at *); simp [Meta.may, Slot.boot, b, *]))
      · skip
        exact Tr.endH [.yes, .run 2, .no, .no, .yes, .no, .run 14] (cs := [(_, true), (_, false), (_, false), (_, true), (_, false)]) (Prod.fst) (y := SV.v (Value.bool false)) (by kernel_rfl) ⟨g0, g1, g2, g3, g4, trivial⟩ (fun a ha => ha.trans (by (try simp only [ge_iff_le, gt_iff_lt, decide_eq_true_eq, decide_eq_false_iff_not, bne_iff_ne, ne_eq, bne_eq_false_iff_eq, Bool.not_eq_true', Bool.not_eq_false'] at *); simp [Meta.may, Slot.boot, b, *]))
  · skip
    have g8 : (decide (k = (0 : Int))) = true := by (first | (simp_all; done) | (simp only [decide_eq_true_eq, decide_eq_false_iff_not, beq_iff_eq, beq_eq_false_iff_ne, ne_eq, bne_iff_ne, Bool.not_eq_true', Bool.not_eq_false', ge_iff_le, gt_iff_lt] at *; omega))
    rcases Bool.eq_false_or_eq_true (m.s0.full) with g9 | g9
    · skip
      rcases Bool.eq_false_or_eq_true (decide (m.s0.prio > (0 : Int))) with g10 | g10
      · skip
        rcases Bool.eq_false_or_eq_true (m.s0.ok) with g11 | g11
        · skip
          exact Tr.endH [.no, .run 3, .yes, .yes, .run 3, .yes, .run 2, .yes, .run 11] (cs := [(_, false), (_, true), (_, true), (_, true), (_, true)]) (Prod.fst) (y := SV.v (Value.bool (decide (m.s0.roll ≥ m.roll)))) (by kernel_rfl) ⟨g0, g8, g9, g10, g11, trivial⟩ (fun a ha => ha.trans (by (try simp only [ge_iff_le, gt_iff_lt, decide_eq_true_eq, decide_eq_false_iff_not, bne_iff_ne, ne_eq, bne_eq_false_iff_eq, Bool.not_eq_true', Bool.not_eq_false'] at *); simp [Meta.may, Slot.boot, b, *]))
        · skip
          rcases Bool.eq_false_or_eq_true (decide (m.s0.tries > (0 : Int))) with g12 | g12
          · skip
            exact Tr.endH [.no, .run 3, .yes, .yes, .run 3, .yes, .run 2, .no, .run 5, .yes, .run 5] (cs := [(_, false), (_, true), (_, true), (_, true), (_, false), (_, true)]) (Prod.fst) (y := SV.v (Value.bool (decide (m.s0.roll ≥ m.roll)))) (by kernel_rfl) ⟨g0, g8, g9, g10, g11, g12, trivial⟩ (fun a ha => ha.trans (by (try simp only [ge_iff_le, gt_iff_lt, decide_eq_true_eq, decide_eq_false_iff_not, bne_iff_ne, ne_eq, bne_eq_false_iff_eq, Bool.not_eq_true', Bool.not_eq_false'] at *); simp [Meta.may, Slot.boot, b, *]))
          · skip
            exact Tr.endH [.no, .run 3, .yes, .yes, .run 3, .yes, .run 2, .no, .run 5, .no, .run 5] (cs := [(_, false), (_, true), (_, true), (_, true), (_, false), (_, false)]) (Prod.fst) (y := SV.v (Value.bool false)) (by kernel_rfl) ⟨g0, g8, g9, g10, g11, g12, trivial⟩ (fun a ha => ha.trans (by (try simp only [ge_iff_le, gt_iff_lt, decide_eq_true_eq, decide_eq_false_iff_not, bne_iff_ne, ne_eq, bne_eq_false_iff_eq, Bool.not_eq_true', Bool.not_eq_false'] at *); simp [Meta.may, Slot.boot, b, *]))
      · skip
        exact Tr.endH [.no, .run 3, .yes, .yes, .run 3, .no, .run 10] (cs := [(_, false), (_, true), (_, true), (_, false)]) (Prod.fst) (y := SV.v (Value.bool false)) (by kernel_rfl) ⟨g0, g8, g9, g10, trivial⟩ (fun a ha => ha.trans (by (try simp only [ge_iff_le, gt_iff_lt, decide_eq_true_eq, decide_eq_false_iff_not, bne_iff_ne, ne_eq, bne_eq_false_iff_eq, Bool.not_eq_true', Bool.not_eq_false'] at *); simp [Meta.may, Slot.boot, b, *]))
    · skip
      exact Tr.endH [.no, .run 3, .yes, .no, .run 14] (cs := [(_, false), (_, true), (_, false)]) (Prod.fst) (y := SV.v (Value.bool false)) (by kernel_rfl) ⟨g0, g8, g9, trivial⟩ (fun a ha => ha.trans (by (try simp only [ge_iff_le, gt_iff_lt, decide_eq_true_eq, decide_eq_false_iff_not, bne_iff_ne, ne_eq, bne_eq_false_iff_eq, Bool.not_eq_true', Bool.not_eq_false'] at *); simp [Meta.may, Slot.boot, b, *]))
theorem MAY_ok : EntryOK Try.prog eMAY :=
  pureE_ok hng hmix (l := []) (cut := noCut) (wr := noWr) (by simp) 400 10 Try.func10 rfl (by simp) (pure2 metaOf_some intOf'_some fun m k => ⟨rfl, rfl, (MAY_tree m k).out⟩)
theorem try_tree (m : Meta) (k : Int) : (callX Try.prog (Env.of [] noCut noWr) 400 12 [m.sv, i k] [] fin).Holds fun r => r.1 = (m.try k).sv := by
  rcases Bool.eq_false_or_eq_true (decide (k ≥ (0 : Int))) with g0 | g0
  · skip
    rcases Bool.eq_false_or_eq_true (decide (k < (2 : Int))) with g1 | g1
    · skip
      rcases Bool.eq_false_or_eq_true (decide (k = (0 : Int))) with g2 | g2
      · skip
        rcases Bool.eq_false_or_eq_true (!m.s0.ok) with g3 | g3
        · skip
          rcases Bool.eq_false_or_eq_true (decide (m.s0.tries > (0 : Int))) with g4 | g4
          · skip
            exact Tr.endH [.yes, .run 2, .yes, .yes, .yes, .run 5, .yes] (cs := [(_, true), (_, true), (_, true), (_, true), (_, true)]) (Prod.fst) (y := SV.agg   [SV.v (Value.bool m.s0.full), SV.v (Value.int IntKind.i64 m.s0.prio),     SV.v (Value.int IntKind.i64 (IntKind.wrap IntKind.i64 (m.s0.tries - (1 : Int)))), SV.v (Value.bool m.s0.ok),     SV.v (Value.int IntKind.i64 m.s0.ver), SV.v (Value.int IntKind.i64 m.s0.roll), SV.v (Value.bool m.s1.full),     SV.v (Value.int IntKind.i64 m.s1.prio), SV.v (Value.int IntKind.i64 m.s1.tries), SV.v (Value.bool m.s1.ok),     SV.v (Value.int IntKind.i64 m.s1.ver), SV.v (Value.int IntKind.i64 m.s1.roll), SV.v (Value.int IntKind.i64 m.roll)]) (by kernel_rfl) ⟨g0, g1, g2, g3, g4, trivial⟩ (fun a ha => ha.trans (by (try simp only [ge_iff_le, gt_iff_lt, decide_eq_true_eq, decide_eq_false_iff_not, bne_iff_ne, ne_eq, bne_eq_false_iff_eq, Bool.not_eq_true', Bool.not_eq_false'] at *); first | (simp [Meta.try, Slot.try, Meta.sv, Slot.cells, b, i, *]; done) | (rw [show m.try k = m from by unfold Meta.try; rw [if_neg (by omega), if_neg (by omega)]]; rfl)))
          · skip
            exact Tr.endH [.yes, .run 2, .yes, .yes, .yes, .run 5, .no] (cs := [(_, true), (_, true), (_, true), (_, true), (_, false)]) (Prod.fst) (y := SV.agg   [SV.v (Value.bool m.s0.full), SV.v (Value.int IntKind.i64 m.s0.prio), SV.v (Value.int IntKind.i64 m.s0.tries),     SV.v (Value.bool m.s0.ok), SV.v (Value.int IntKind.i64 m.s0.ver), SV.v (Value.int IntKind.i64 m.s0.roll),     SV.v (Value.bool m.s1.full), SV.v (Value.int IntKind.i64 m.s1.prio), SV.v (Value.int IntKind.i64 m.s1.tries),     SV.v (Value.bool m.s1.ok), SV.v (Value.int IntKind.i64 m.s1.ver), SV.v (Value.int IntKind.i64 m.s1.roll),     SV.v (Value.int IntKind.i64 m.roll)]) (by kernel_rfl) ⟨g0, g1, g2, g3, g4, trivial⟩ (fun a ha => ha.trans (by (try simp only [ge_iff_le, gt_iff_lt, decide_eq_true_eq, decide_eq_false_iff_not, bne_iff_ne, ne_eq, bne_eq_false_iff_eq, Bool.not_eq_true', Bool.not_eq_false'] at *); first | (simp [Meta.try, Slot.try, Meta.sv, Slot.cells, b, i, *]; done) | (rw [show m.try k = m from by unfold Meta.try; rw [if_neg (by omega), if_neg (by omega)]]; rfl)))
        · skip
          exact Tr.endH [.yes, .run 2, .yes, .yes, .no, .run 6] (cs := [(_, true), (_, true), (_, true), (_, false)]) (Prod.fst) (y := SV.agg   [SV.v (Value.bool m.s0.full), SV.v (Value.int IntKind.i64 m.s0.prio), SV.v (Value.int IntKind.i64 m.s0.tries),     SV.v (Value.bool m.s0.ok), SV.v (Value.int IntKind.i64 m.s0.ver), SV.v (Value.int IntKind.i64 m.s0.roll),     SV.v (Value.bool m.s1.full), SV.v (Value.int IntKind.i64 m.s1.prio), SV.v (Value.int IntKind.i64 m.s1.tries),     SV.v (Value.bool m.s1.ok), SV.v (Value.int IntKind.i64 m.s1.ver), SV.v (Value.int IntKind.i64 m.s1.roll),     SV.v (Value.int IntKind.i64 m.roll)]) (by kernel_rfl) ⟨g0, g1, g2, g3, trivial⟩ (fun a ha => ha.trans (by (try simp only [ge_iff_le, gt_iff_lt, decide_eq_true_eq, decide_eq_false_iff_not, bne_iff_ne, ne_eq, bne_eq_false_iff_eq, Bool.not_eq_true', Bool.not_eq_false'] at *); first | (simp [Meta.try, Slot.try, Meta.sv, Slot.cells, b, i, *]; done) | (rw [show m.try k = m from by unfold Meta.try; rw [if_neg (by omega), if_neg (by omega)]]; rfl)))
      · skip
        have g5 : (decide (k = (1 : Int))) = true := by (first | (simp_all; done) | (simp only [decide_eq_true_eq, decide_eq_false_iff_not, beq_iff_eq, beq_eq_false_iff_ne, ne_eq, bne_iff_ne, Bool.not_eq_true', Bool.not_eq_false', ge_iff_le, gt_iff_lt] at *; omega))
        rcases Bool.eq_false_or_eq_true (!m.s1.ok) with g6 | g6
        · skip
          rcases Bool.eq_false_or_eq_true (decide (m.s1.tries > (0 : Int))) with g7 | g7
          · skip
            exact Tr.endH [.yes, .run 2, .yes, .no, .yes, .yes, .run 5, .yes] (cs := [(_, true), (_, true), (_, false), (_, true), (_, true), (_, true)]) (Prod.fst) (y := SV.agg   [SV.v (Value.bool m.s0.full), SV.v (Value.int IntKind.i64 m.s0.prio), SV.v (Value.int IntKind.i64 m.s0.tries),     SV.v (Value.bool m.s0.ok), SV.v (Value.int IntKind.i64 m.s0.ver), SV.v (Value.int IntKind.i64 m.s0.roll),     SV.v (Value.bool m.s1.full), SV.v (Value.int IntKind.i64 m.s1.prio),     SV.v (Value.int IntKind.i64 (IntKind.wrap IntKind.i64 (m.s1.tries - (1 : Int)))), SV.v (Value.bool m.s1.ok),     SV.v (Value.int IntKind.i64 m.s1.ver), SV.v (Value.int IntKind.i64 m.s1.roll), SV.v (Value.int IntKind.i64 m.roll)]) (by kernel_rfl) ⟨g0, g1, g2, g5, g6, g7, trivial⟩ (fun a ha => ha.trans (by (try simp only [ge_iff_le, gt_iff_lt, decide_eq_true_eq, decide_eq_false_iff_not, bne_iff_ne, ne_eq, bne_eq_false_iff_eq, Bool.not_eq_true', Bool.not_eq_false'] at *); first | (simp [Meta.try, Slot.try, Meta.sv, Slot.cells, b, i, *]; done) | (rw [show m.try k = m from by unfold Meta.try; rw [if_neg (by omega), if_neg (by omega)]]; rfl)))
          · skip
            exact Tr.endH [.yes, .run 2, .yes, .no, .yes, .yes, .run 5, .no] (cs := [(_, true), (_, true), (_, false), (_, true), (_, true), (_, false)]) (Prod.fst) (y := SV.agg   [SV.v (Value.bool m.s0.full), SV.v (Value.int IntKind.i64 m.s0.prio), SV.v (Value.int IntKind.i64 m.s0.tries),     SV.v (Value.bool m.s0.ok), SV.v (Value.int IntKind.i64 m.s0.ver), SV.v (Value.int IntKind.i64 m.s0.roll),     SV.v (Value.bool m.s1.full), SV.v (Value.int IntKind.i64 m.s1.prio), SV.v (Value.int IntKind.i64 m.s1.tries),     SV.v (Value.bool m.s1.ok), SV.v (Value.int IntKind.i64 m.s1.ver), SV.v (Value.int IntKind.i64 m.s1.roll),     SV.v (Value.int IntKind.i64 m.roll)]) (by kernel_rfl) ⟨g0, g1, g2, g5, g6, g7, trivial⟩ (fun a ha => ha.trans (by (try simp only [ge_iff_le, gt_iff_lt, decide_eq_true_eq, decide_eq_false_iff_not, bne_iff_ne, ne_eq, bne_eq_false_iff_eq, Bool.not_eq_true', Bool.not_eq_false'] at *); first | (simp [Meta.try, Slot.try, Meta.sv, Slot.cells, b, i, *]; done) | (rw [show m.try k = m from by unfold Meta.try; rw [if_neg (by omega), if_neg (by omega)]]; rfl)))
        · skip
          exact Tr.endH [.yes, .run 2, .yes, .no, .yes, .no, .run 6] (cs := [(_, true), (_, true), (_, false), (_, true), (_, false)]) (Prod.fst) (y := SV.agg   [SV.v (Value.bool m.s0.full), SV.v (Value.int IntKind.i64 m.s0.prio), SV.v (Value.int IntKind.i64 m.s0.tries),     SV.v (Value.bool m.s0.ok), SV.v (Value.int IntKind.i64 m.s0.ver), SV.v (Value.int IntKind.i64 m.s0.roll),     SV.v (Value.bool m.s1.full), SV.v (Value.int IntKind.i64 m.s1.prio), SV.v (Value.int IntKind.i64 m.s1.tries),     SV.v (Value.bool m.s1.ok), SV.v (Value.int IntKind.i64 m.s1.ver), SV.v (Value.int IntKind.i64 m.s1.roll),     SV.v (Value.int IntKind.i64 m.roll)]) (by kernel_rfl) ⟨g0, g1, g2, g5, g6, trivial⟩ (fun a ha => ha.trans (by (try simp only [ge_iff_le, gt_iff_lt, decide_eq_true_eq, decide_eq_false_iff_not, bne_iff_ne, ne_eq, bne_eq_false_iff_eq, Bool.not_eq_true', Bool.not_eq_false'] at *); first | (simp [Meta.try, Slot.try, Meta.sv, Slot.cells, b, i, *]; done) | (rw [show m.try k = m from by unfold Meta.try; rw [if_neg (by omega), if_neg (by omega)]]; rfl)))
    · skip
      exact Tr.endH [.yes, .run 2, .no] (cs := [(_, true), (_, false)]) (Prod.fst) (y := SV.agg   [SV.v (Value.bool m.s0.full), SV.v (Value.int IntKind.i64 m.s0.prio), SV.v (Value.int IntKind.i64 m.s0.tries),     SV.v (Value.bool m.s0.ok), SV.v (Value.int IntKind.i64 m.s0.ver), SV.v (Value.int IntKind.i64 m.s0.roll),     SV.v (Value.bool m.s1.full), SV.v (Value.int IntKind.i64 m.s1.prio), SV.v (Value.int IntKind.i64 m.s1.tries),     SV.v (Value.bool m.s1.ok), SV.v (Value.int IntKind.i64 m.s1.ver), SV.v (Value.int IntKind.i64 m.s1.roll),     SV.v (Value.int IntKind.i64 m.roll)]) (by kernel_rfl) ⟨g0, g1, trivial⟩ (fun a ha => ha.trans (by (try simp only [ge_iff_le, gt_iff_lt, decide_eq_true_eq, decide_eq_false_iff_not, bne_iff_ne, ne_eq, bne_eq_false_iff_eq, Bool.not_eq_true', Bool.not_eq_false'] at *); first | (simp [Meta.try, Slot.try, Meta.sv, Slot.cells, b, i, *]; done) | (rw [show m.try k = m from by unfold Meta.try; rw [if_neg (by omega), if_neg (by omega)]]; rfl)))
  · skip
    exact Tr.endH [.no, .run 3] (cs := [(_, false)]) (Prod.fst) (y := SV.agg   [SV.v (Value.bool m.s0.full), SV.v (Value.int IntKind.i64 m.s0.prio), SV.v (Value.int IntKind.i64 m.s0.tries),     SV.v (Value.bool m.s0.ok), SV.v (Value.int IntKind.i64 m.s0.ver), SV.v (Value.int IntKind.i64 m.s0.roll),     SV.v (Value.bool m.s1.full), SV.v (Value.int IntKind.i64 m.s1.prio), SV.v (Value.int IntKind.i64 m.s1.tries),     SV.v (Value.bool m.s1.ok), SV.v (Value.int IntKind.i64 m.s1.ver), SV.v (Value.int IntKind.i64 m.s1.roll),     SV.v (Value.int IntKind.i64 m.roll)]) (by kernel_rfl) ⟨g0, trivial⟩ (fun a ha => ha.trans (by (try simp only [ge_iff_le, gt_iff_lt, decide_eq_true_eq, decide_eq_false_iff_not, bne_iff_ne, ne_eq, bne_eq_false_iff_eq, Bool.not_eq_true', Bool.not_eq_false'] at *); first | (simp [Meta.try, Slot.try, Meta.sv, Slot.cells, b, i, *]; done) | (rw [show m.try k = m from by unfold Meta.try; rw [if_neg (by omega), if_neg (by omega)]]; rfl)))
theorem try_ok : EntryOK Try.prog eTry :=
  pureE_ok hng hmix (l := []) (cut := noCut) (wr := noWr) (by simp) 400 12 Try.func12 rfl (by simp) (pure2 metaOf_some intOf'_some fun m k => ⟨rfl, rfl, (try_tree m k).out⟩)
theorem awake_tree : (callX Try.prog (Env.of [] noCut noWr) 400 6 [] [] fin).Holds fun r => r.1 = b true := by
  exact Tr.endH [.run 85] (cs := []) (Prod.fst) (y := SV.v (Value.bool ((0 : Int) == (0 : Int)))) (by kernel_rfl) trivial (fun a ha => ha.trans rfl)
theorem awake_ok : EntryOK Try.prog eAwake :=
  pureE_ok hng hmix (l := []) (cut := noCut) (wr := noWr) (by simp) 400 6 Try.func6 rfl (by simp) (by
    intro args s h
    unfold awakeF at h
    split at h
    · cases h; exact ⟨rfl, rfl, (awake_tree).out⟩
    · cases h)
def metaK : List CK := [.bool, .int .i64, .int .i64, .bool, .int .i64, .int .i64, .bool, .int .i64, .int .i64, .bool, .int .i64, .int .i64, .int .i64]
/-- what came in, as slots -/
def metaIn (r : RowT metaK) : Meta := ⟨⟨r.1, r.2.1, r.2.2.1, r.2.2.2.1, r.2.2.2.2.1, r.2.2.2.2.2.1⟩, ⟨r.2.2.2.2.2.2.1, r.2.2.2.2.2.2.2.1, r.2.2.2.2.2.2.2.2.1, r.2.2.2.2.2.2.2.2.2.1, r.2.2.2.2.2.2.2.2.2.2.1, r.2.2.2.2.2.2.2.2.2.2.2.1⟩, r.2.2.2.2.2.2.2.2.2.2.2.2.1⟩
theorem metaIn_rel {ρ : Sx.Loc} (r : RowT metaK) : Rel ρ (metaIn r).sv (.agg (rowV metaK r).toArray) := by
  have h : (metaIn r).sv = .agg (rowSV metaK r) := by kernel_rfl
  rw [h]
  simp only [Rel]
  exact ⟨_, row_rel metaK r, rfl⟩
end Go.Proofs.Ytakfkhbckdacnaa
