/-
  Contracts of the functions that the laws of layer 32 use, each by the run of its own code.
-/
import Derived.Test.YtkidiijpbfgnnaaSx
import Derived.Test.YtkidiijpbfgnnaaRows
set_option linter.unusedVariables false
set_option linter.unusedSimpArgs false
namespace Go.Proofs.Ytkidiijpbfgnnaa
open Sx
def i (n : Int) : SV := .v (.int .i64 n)
def b (n : Bool) : SV := .v (.bool n)
def fin (s : SV) (mem : List Blk) : Tr (SV × List Blk) := .ok (s, mem)
def noCut : FuncId → Nat → Bool := fun _ _ => false
def noWr : FuncId → Nat → List Nat := fun _ _ => []
theorem hng : NoNG Try.prog := by
  have h : (Try.prog.funcs.all fun fn => !(fn.name == "runtime.NumGoroutine")) = true := by kernel_rfl
  intro f fn hf
  have := Array.all_eq_true'.1 h fn (Array.mem_of_getElem? hf)
  simpa using this
theorem hmix : Try.prog.follows .mixedOrders = true := by kernel_rfl
structure Slot where
  full : Bool
  prio : Int
  tries : Int
  ok : Bool
  ver : Int
  roll : Int
def Slot.cells (s : Slot) : List SV := [b s.full, i s.prio, i s.tries, b s.ok, i s.ver, i s.roll]
structure Meta where
  s0 : Slot
  s1 : Slot
  roll : Int
def Meta.sv (m : Meta) : SV := .agg (m.s0.cells ++ m.s1.cells ++ [i m.roll])
def Slot.boot (s : Slot) (r : Int) : Bool := s.full && decide (0 < s.prio) && (s.ok || decide (0 < s.tries)) && decide (r ≤ s.roll)
def Meta.may (m : Meta) (k : Int) : Bool := (k == 0 && m.s0.boot m.roll) || (k == 1 && m.s1.boot m.roll)
def Slot.try (s : Slot) : Slot := if (!s.ok && decide (0 < s.tries)) = true then { s with tries := IntKind.i64.wrap (s.tries - 1) } else s
def Meta.try (m : Meta) (k : Int) : Meta := if k = 0 then { m with s0 := m.s0.try } else if k = 1 then { m with s1 := m.s1.try } else m
def Meta.choose (m : Meta) : Int := if (m.may 0 && m.may 1 && decide (m.s1.prio > m.s0.prio)) = true then 1 else if m.may 0 = true then 0 else if m.may 1 = true then 1 else -1
def Meta.target (m : Meta) (k : Int) : Int := if k = 0 then 1 else if k = 1 then 0 else if m.s0.full = false then 0 else if m.s1.full = false then 1 else if m.s0.prio < m.s1.prio then 0 else 1
theorem wrap0 : IntKind.i64.wrap 1 = 1 := by decide
theorem wrap1 : IntKind.i64.wrap 0 = 0 := by decide
/-- what a list of cells is, as slots -/
def metaOf : SV → Option Meta
  | .agg [.v (.bool f0), .v (.int .i64 p0), .v (.int .i64 t0), .v (.bool o0), .v (.int .i64 v0), .v (.int .i64 r0), .v (.bool f1), .v (.int .i64 p1), .v (.int .i64 t1), .v (.bool o1), .v (.int .i64 v1), .v (.int .i64 r1), .v (.int .i64 r)] => some ⟨⟨f0, p0, t0, o0, v0, r0⟩, ⟨f1, p1, t1, o1, v1, r1⟩, r⟩
  | _ => none
theorem metaOf_some {s : SV} {m : Meta} (h : metaOf s = some m) : s = m.sv := by
  unfold metaOf at h
  split at h
  · cases h; rfl
  · cases h
def intOf' : SV → Option Int
  | .v (.int .i64 n) => some n
  | _ => none
theorem intOf'_some {s : SV} {n : Int} (h : intOf' s = some n) : s = i n := by
  unfold intOf' at h
  split at h
  · cases h; rfl
  · cases h
def slotOf : SV → Option Slot
  | .agg [.v (.bool f), .v (.int .i64 p), .v (.int .i64 t), .v (.bool o), .v (.int .i64 v), .v (.int .i64 r)] => some ⟨f, p, t, o, v, r⟩
  | _ => none
theorem slotOf_some {s : SV} {m : Slot} (h : slotOf s = some m) : s = .agg m.cells := by
  unfold slotOf at h
  split at h
  · cases h; rfl
  · cases h
theorem pure1 {α : Type} {p : SV → Option α} {sv : α → SV} (hp : ∀ {s a}, p s = some a → s = sv a) {f : α → SV} {P : List SV → SV → Prop} (h : ∀ a, P [sv a] (f a)) : ∀ args s, (match args with | [x] => (p x).map f | _ => none) = some s → P args s := by
  intro args s hs
  split at hs
  · obtain ⟨a, ha, rfl⟩ := Option.map_eq_some_iff.1 hs
    rw [hp ha]; exact h a
  · cases hs
theorem pure2 {α β : Type} {p : SV → Option α} {q : SV → Option β} {sv : α → SV} {sw : β → SV} (hp : ∀ {s a}, p s = some a → s = sv a) (hq : ∀ {s a}, q s = some a → s = sw a) {f : α → β → SV} {P : List SV → SV → Prop} (h : ∀ a c, P [sv a, sw c] (f a c)) :
    ∀ args s, (match args with | [x, y] => (p x).bind fun a => (q y).map (f a) | _ => none) = some s → P args s := by
  intro args s hs
  split at hs
  · obtain ⟨a, ha, hs⟩ := Option.bind_eq_some_iff.1 hs
    obtain ⟨c, hc, rfl⟩ := Option.map_eq_some_iff.1 hs
    rw [hp ha, hq hc]; exact h a c
  · cases hs
/-- one slot changed -/
def Meta.upd (m : Meta) (k : Int) (f : Slot → Slot) : Meta := if decide (k ≥ 0) = true then if decide (k < 2) = true then if decide (k = 0) = true then { m with s0 := f m.s0 } else { m with s1 := f m.s1 } else m else m
def Slot.zero : Slot := ⟨false, 0, 0, false, 0, 0⟩
def Meta.bad (m : Meta) (k : Int) : Meta := m.upd k fun _ => Slot.zero
def Meta.off (m : Meta) (k : Int) : Meta := m.upd k fun s => { s with prio := 0, ok := false }
def Slot.good (s : Slot) : Slot := if s.full = true then { s with ok := true } else s
def imax (x y : Int) : Int := if x < y then y else x
def Slot.least (s : Slot) (r : Int) : Int := if s.full = true then imax r s.roll else r
def Meta.least (m : Meta) (k : Int) : Int := if decide (k ≥ 0) = true then if decide (k < 2) = true then if decide (k = 0) = true then m.s0.least m.roll else m.s1.least m.roll else m.roll else m.roll
def Meta.well (m : Meta) (k : Int) : Meta := { m.upd k Slot.good with roll := m.least k }
def Slot.yield (s : Slot) : Slot := if decide (s.prio < 15) = true then s else { s with prio := 14 }
def Slot.first (s : Slot) : Int := if decide (s.prio < 15) = true then IntKind.i64.wrap (s.prio + 1) else 15
def Meta.first (m : Meta) (k : Int) : Int := if decide (k ≥ 0) = true then if decide (k < 2) = true then if decide (k = 0) = true then m.s0.first else m.s1.first else 15 else 15
def clampT (t : Int) : Int := if (if (7 : Int) < t then 7 else t) > 1 then (if (7 : Int) < t then 7 else t) else 1
def Meta.fresh (m : Meta) (k t v n : Int) : Meta := (m.upd (IntKind.i64.wrap (1 - k)) Slot.yield).upd k fun _ => ⟨true, m.first (IntKind.i64.wrap (1 - k)), clampT t, false, v, n⟩
structure Content where
  id : Int
  good : Bool
  ver : Int
  roll : Int
def Content.cells (c : Content) : List SV := [i c.id, b c.good, i c.ver, i c.roll]
def Content.none : Content := ⟨0, false, 0, 0⟩
structure Abs where
  m : Meta
  c0 : Content
  c1 : Content
  booted : Int
def Meta.cells (m : Meta) : List SV := m.s0.cells ++ m.s1.cells ++ [i m.roll]
def Abs.cells (a : Abs) : List SV := a.m.cells ++ a.c0.cells ++ a.c1.cells ++ [i a.booted]
def Abs.sv (a : Abs) : SV := .agg a.cells
structure Act where
  kind : Int
  c : Content
  tries : Int
def Act.sv (x : Act) : SV := .agg ([i x.kind] ++ x.c.cells ++ [i x.tries])
def absOf : SV → Option Abs
  | .agg [.v (.bool f0), .v (.int .i64 p0), .v (.int .i64 t0), .v (.bool o0), .v (.int .i64 v0), .v (.int .i64 r0), .v (.bool f1), .v (.int .i64 p1), .v (.int .i64 t1), .v (.bool o1), .v (.int .i64 v1), .v (.int .i64 r1), .v (.int .i64 r), .v (.int .i64 i0), .v (.bool g0), .v (.int .i64 cv0), .v (.int .i64 cr0), .v (.int .i64 i1), .v (.bool g1), .v (.int .i64 cv1), .v (.int .i64 cr1), .v (.int .i64 bt)] => some ⟨⟨⟨f0, p0, t0, o0, v0, r0⟩, ⟨f1, p1, t1, o1, v1, r1⟩, r⟩, ⟨i0, g0, cv0, cr0⟩, ⟨i1, g1, cv1, cr1⟩, bt⟩
  | _ => none
theorem absOf_some {s : SV} {a : Abs} (h : absOf s = some a) : s = a.sv := by
  unfold absOf at h
  split at h
  · cases h; rfl
  · cases h
def actOf : SV → Option Act
  | .agg [.v (.int .i64 k), .v (.int .i64 id), .v (.bool g), .v (.int .i64 v), .v (.int .i64 r), .v (.int .i64 t)] => some ⟨k, ⟨id, g, v, r⟩, t⟩
  | _ => none
theorem actOf_some {s : SV} {a : Act} (h : actOf s = some a) : s = a.sv := by
  unfold actOf at h
  split at h
  · cases h; rfl
  · cases h
/-- an entry whose value is one of a few numbers: the run parts by it -/
def pickT (v : Int) (mem : List Blk) : List Int → Tr (SV × List Blk)
  | [] => .fail 200
  | [x] => .ok (i x, mem)
  | x :: xs => .br (v == x) (.ok (i x, mem)) (pickT v mem xs)
theorem pickT_holds {v : Int} {mem : List Blk} {R : SV × List Blk → Prop} : ∀ {l : List Int}, v ∈ l → (pickT v mem l).holds R → R (i v, mem)
  | [], h, _ => by simp at h
  | [x], h, hh => by simp at h; subst h; exact hh
  | x :: y :: l, h, hh => by
    simp only [pickT, Tr.holds] at hh
    by_cases e : v = x
    · subst e; exact hh.1 (by simp)
    · exact pickT_holds (l := y :: l) (by simpa [e] using h) (hh.2 (by simpa using e))
def pickE (f : FuncId) (g : List SV → Option Int) (l : List Int) : Entry := (f, fun args mem => (g args).map fun v => pickT v mem l)
theorem pickE_ok {P : Program} {f : FuncId} {g : List SV → Option Int} {l : List Int} (h : EntryOK P (pureE f fun args => (g args).map i)) (hv : ∀ args v, g args = some v → v ∈ l) : EntryOK P (pickE f g l) := by
  intro args mem tr htr ρ w0 X w ys R hm hf hargs hR
  obtain ⟨v, hg, rfl⟩ := Option.map_eq_some_iff.1 htr
  exact h args mem (.ok (i v, mem)) (by simp [pureE, hg]) ρ w0 X w ys R hm hf hargs (pickT_holds (hv _ _ hg) hR)
theorem choose_in (m : Meta) : m.choose ∈ ([0, 1, -1] : List Int) := by
  unfold Meta.choose
  split
  · simp
  · split
    · simp
    · split <;> simp
theorem target_in (m : Meta) (k : Int) : m.target k ∈ ([0, 1] : List Int) := by
  unfold Meta.target
  repeat' (split <;> try (simp; done))
theorem map_i {g : List SV → Option Meta} {f : Meta → Int} : (fun args => ((g args).map f).map i) = fun args => (g args).map fun m => i (f m) := by funext args; simp [Function.comp_def]
set_option maxRecDepth 100000
set_option maxHeartbeats 4000000
theorem wrapId {n : Int} (h0 : -9223372036854775808 ≤ n) (h1 : n ≤ 9223372036854775807) : IntKind.i64.wrap n = n := by
  simp [IntKind.wrap, IntKind.signed, IntKind.bits]; split <;> omega
theorem rMay_tree (m : Meta) (k : Int) : (callX Try.prog (Env.of [] noCut noWr) 400 6 [m.sv, i k] [] fin).Holds fun r => r.1 = b (m.may k) := by
  rcases Bool.eq_false_or_eq_true (k != (0 : Int)) with g0 | g0
  · skip
    rcases Bool.eq_false_or_eq_true (k != (1 : Int)) with g1 | g1
    · skip
      exact Tr.endH [.yes, .run 2, .yes] (cs := [(_, true), (_, true)]) (Prod.fst) (y := SV.v (Value.bool false)) (by kernel_rfl) ⟨g0, g1, trivial⟩ (fun a ha => ha.trans (by (try simp only [ge_iff_le, gt_iff_lt, decide_eq_true_eq, decide_eq_false_iff_not, bne_iff_ne, ne_eq, bne_eq_false_iff_eq, beq_iff_eq, beq_eq_false_iff_ne, Bool.not_eq_true', Bool.not_eq_false'] at *); first | (simp [Meta.may, Slot.boot, b, *]; done) | (simp [Meta.may, Slot.boot, b, *]; omega) | (simp_all [Meta.may, Slot.boot, b]; done) | (simp_all [Meta.may, Slot.boot, b]; omega)))
    · skip
      have g2 : (decide (k = (0 : Int))) = false := by ((try simp only [nb_beq, nb_bne, nb_beqN, nb_not, nb_or, nb_and, nb_iff, nb_niff, nb_eq, decide_eq_true_eq, decide_eq_false_iff_not, beq_iff_eq, beq_eq_false_iff_ne, ne_eq, bne_iff_ne, bne_eq_false_iff_eq, Bool.not_eq_true', Bool.not_eq_false', Bool.not_true, Bool.not_false, ge_iff_le, gt_iff_lt, Nat.zero_add, Bool.true_eq, Bool.false_eq, beq_false, beq_true, Bool.not_eq_true, Bool.not_eq_false, Bool.true_or, Bool.false_or, Bool.or_true, Bool.or_false, Bool.and_true, Bool.true_and, Bool.and_false, Bool.false_and, Bool.or_eq_true, Bool.and_eq_true, Bool.or_eq_false_iff, Bool.and_eq_false_iff, if_true, if_false, Bool.false_eq_true, reduceIte, wrap0, wrap1] at *); (try simp (disch := omega) only [wrapId] at *); first | done | omega | (simp_all; done) | (simp_all; omega))
      have g3 : (decide (k = (1 : Int))) = true := by ((try simp only [nb_beq, nb_bne, nb_beqN, nb_not, nb_or, nb_and, nb_iff, nb_niff, nb_eq, decide_eq_true_eq, decide_eq_false_iff_not, beq_iff_eq, beq_eq_false_iff_ne, ne_eq, bne_iff_ne, bne_eq_false_iff_eq, Bool.not_eq_true', Bool.not_eq_false', Bool.not_true, Bool.not_false, ge_iff_le, gt_iff_lt, Nat.zero_add, Bool.true_eq, Bool.false_eq, beq_false, beq_true, Bool.not_eq_true, Bool.not_eq_false, Bool.true_or, Bool.false_or, Bool.or_true, Bool.or_false, Bool.and_true, Bool.true_and, Bool.and_false, Bool.false_and, Bool.or_eq_true, Bool.and_eq_true, Bool.or_eq_false_iff, Bool.and_eq_false_iff, if_true, if_false, Bool.false_eq_true, reduceIte, wrap0, wrap1] at *); (try simp (disch := omega) only [wrapId] at *); first | done | omega | (simp_all; done) | (simp_all; omega))
      rcases Bool.eq_false_or_eq_true (m.s1.full) with g4 | g4
      · skip
        rcases Bool.eq_false_or_eq_true (decide (m.s1.prio > (0 : Int))) with g5 | g5
        · skip
          rcases Bool.eq_false_or_eq_true (m.s1.ok) with g6 | g6
          · skip
            exact Tr.endH [.yes, .run 2, .no, .no, .yes, .yes, .run 3, .yes, .run 2, .yes, .run 11] (cs := [(_, true), (_, false), (_, false), (_, true), (_, true), (_, true), (_, true)]) (Prod.fst) (y := SV.v (Value.bool (decide (m.s1.roll ≥ m.roll)))) (by kernel_rfl) ⟨g0, g1, g2, g3, g4, g5, g6, trivial⟩ (fun a ha => ha.trans (by (try simp only [ge_iff_le, gt_iff_lt, decide_eq_true_eq, decide_eq_false_iff_not, bne_iff_ne, ne_eq, bne_eq_false_iff_eq, beq_iff_eq, beq_eq_false_iff_ne, Bool.not_eq_true', Bool.not_eq_false'] at *); first | (simp [Meta.may, Slot.boot, b, *]; done) | (simp [Meta.may, Slot.boot, b, *]; omega) | (simp_all [Meta.may, Slot.boot, b]; done) | (simp_all [Meta.may, Slot.boot, b]; omega)))
          · skip
            rcases Bool.eq_false_or_eq_true (decide (m.s1.tries > (0 : Int))) with g7 | g7
            · skip
              exact Tr.endH [.yes, .run 2, .no, .no, .yes, .yes, .run 3, .yes, .run 2, .no, .run 5, .yes, .run 5] (cs := [(_, true), (_, false), (_, false), (_, true), (_, true), (_, true), (_, false), (_, true)]) (Prod.fst) (y := SV.v (Value.bool (decide (m.s1.roll ≥ m.roll)))) (by kernel_rfl) ⟨g0, g1, g2, g3, g4, g5, g6, g7, trivial⟩ (fun a ha => ha.trans (by (try simp only [ge_iff_le, gt_iff_lt, decide_eq_true_eq, decide_eq_false_iff_not, bne_iff_ne, ne_eq, bne_eq_false_iff_eq, beq_iff_eq, beq_eq_false_iff_ne, Bool.not_eq_true', Bool.not_eq_false'] at *); first | (simp [Meta.may, Slot.boot, b, *]; done) | (simp [Meta.may, Slot.boot, b, *]; omega) | (simp_all [Meta.may, Slot.boot, b]; done) | (simp_all [Meta.may, Slot.boot, b]; omega)))
            · skip
              exact Tr.endH [.yes, .run 2, .no, .no, .yes, .yes, .run 3, .yes, .run 2, .no, .run 5, .no, .run 5] (cs := [(_, true), (_, false), (_, false), (_, true), (_, true), (_, true), (_, false), (_, false)]) (Prod.fst) (y := SV.v (Value.bool false)) (by kernel_rfl) ⟨g0, g1, g2, g3, g4, g5, g6, g7, trivial⟩ (fun a ha => ha.trans (by (try simp only [ge_iff_le, gt_iff_lt, decide_eq_true_eq, decide_eq_false_iff_not, bne_iff_ne, ne_eq, bne_eq_false_iff_eq, beq_iff_eq, beq_eq_false_iff_ne, Bool.not_eq_true', Bool.not_eq_false'] at *); first | (simp [Meta.may, Slot.boot, b, *]; done) | (simp [Meta.may, Slot.boot, b, *]; omega) | (simp_all [Meta.may, Slot.boot, b]; done) | (simp_all [Meta.may, Slot.boot, b]; omega)))
        · skip
          exact Tr.endH [.yes, .run 2, .no, .no, .yes, .yes, .run 3, .no, .run 10] (cs := [(_, true), (_, false), (_, false), (_, true), (_, true), (_, false)]) (Prod.fst) (y := SV.v (Value.bool false)) (by kernel_rfl) ⟨g0, g1, g2, g3, g4, g5, trivial⟩ (fun a ha => ha.trans (by (try simp only [ge_iff_le, gt_iff_lt, decide_eq_true_eq, decide_eq_false_iff_not, bne_iff_ne, ne_eq, bne_eq_false_iff_eq, beq_iff_eq, beq_eq_false_iff_ne, Bool.not_eq_true', Bool.not_eq_false'] at *); first | (simp [Meta.may, Slot.boot, b, *]; done) | (simp [Meta.may, Slot.boot, b, *]; omega) | (simp_all [Meta.may, Slot.boot, b]; done) | (simp_all [Meta.may, Slot.boot, b]; omega)))
      · skip
        exact Tr.endH [.yes, .run 2, .no, .no, .yes, .no, .run 14] (cs := [(_, true), (_, false), (_, false), (_, true), (_, false)]) (Prod.fst) (y := SV.v (Value.bool false)) (by kernel_rfl) ⟨g0, g1, g2, g3, g4, trivial⟩ (fun a ha => ha.trans (by (try simp only [ge_iff_le, gt_iff_lt, decide_eq_true_eq, decide_eq_false_iff_not, bne_iff_ne, ne_eq, bne_eq_false_iff_eq, beq_iff_eq, beq_eq_false_iff_ne, Bool.not_eq_true', Bool.not_eq_false'] at *); first | (simp [Meta.may, Slot.boot, b, *]; done) | (simp [Meta.may, Slot.boot, b, *]; omega) | (simp_all [Meta.may, Slot.boot, b]; done) | (simp_all [Meta.may, Slot.boot, b]; omega)))
  · skip
    have g8 : (decide (k = (0 : Int))) = true := by ((try simp only [nb_beq, nb_bne, nb_beqN, nb_not, nb_or, nb_and, nb_iff, nb_niff, nb_eq, decide_eq_true_eq, decide_eq_false_iff_not, beq_iff_eq, beq_eq_false_iff_ne, ne_eq, bne_iff_ne, bne_eq_false_iff_eq, Bool.not_eq_true', Bool.not_eq_false', Bool.not_true, Bool.not_false, ge_iff_le, gt_iff_lt, Nat.zero_add, Bool.true_eq, Bool.false_eq, beq_false, beq_true, Bool.not_eq_true, Bool.not_eq_false, Bool.true_or, Bool.false_or, Bool.or_true, Bool.or_false, Bool.and_true, Bool.true_and, Bool.and_false, Bool.false_and, Bool.or_eq_true, Bool.and_eq_true, Bool.or_eq_false_iff, Bool.and_eq_false_iff, if_true, if_false, Bool.false_eq_true, reduceIte, wrap0, wrap1] at *); (try simp (disch := omega) only [wrapId] at *); first | done | omega | (simp_all; done) | (simp_all; omega))
    rcases Bool.eq_false_or_eq_true (m.s0.full) with g9 | g9
    · skip
      rcases Bool.eq_false_or_eq_true (decide (m.s0.prio > (0 : Int))) with g10 | g10
      · skip
        rcases Bool.eq_false_or_eq_true (m.s0.ok) with g11 | g11
        · skip
          exact Tr.endH [.no, .run 3, .yes, .yes, .run 3, .yes, .run 2, .yes, .run 11] (cs := [(_, false), (_, true), (_, true), (_, true), (_, true)]) (Prod.fst) (y := SV.v (Value.bool (decide (m.s0.roll ≥ m.roll)))) (by kernel_rfl) ⟨g0, g8, g9, g10, g11, trivial⟩ (fun a ha => ha.trans (by (try simp only [ge_iff_le, gt_iff_lt, decide_eq_true_eq, decide_eq_false_iff_not, bne_iff_ne, ne_eq, bne_eq_false_iff_eq, beq_iff_eq, beq_eq_false_iff_ne, Bool.not_eq_true', Bool.not_eq_false'] at *); first | (simp [Meta.may, Slot.boot, b, *]; done) | (simp [Meta.may, Slot.boot, b, *]; omega) | (simp_all [Meta.may, Slot.boot, b]; done) | (simp_all [Meta.may, Slot.boot, b]; omega)))
        · skip
          rcases Bool.eq_false_or_eq_true (decide (m.s0.tries > (0 : Int))) with g12 | g12
          · skip
            exact Tr.endH [.no, .run 3, .yes, .yes, .run 3, .yes, .run 2, .no, .run 5, .yes, .run 5] (cs := [(_, false), (_, true), (_, true), (_, true), (_, false), (_, true)]) (Prod.fst) (y := SV.v (Value.bool (decide (m.s0.roll ≥ m.roll)))) (by kernel_rfl) ⟨g0, g8, g9, g10, g11, g12, trivial⟩ (fun a ha => ha.trans (by (try simp only [ge_iff_le, gt_iff_lt, decide_eq_true_eq, decide_eq_false_iff_not, bne_iff_ne, ne_eq, bne_eq_false_iff_eq, beq_iff_eq, beq_eq_false_iff_ne, Bool.not_eq_true', Bool.not_eq_false'] at *); first | (simp [Meta.may, Slot.boot, b, *]; done) | (simp [Meta.may, Slot.boot, b, *]; omega) | (simp_all [Meta.may, Slot.boot, b]; done) | (simp_all [Meta.may, Slot.boot, b]; omega)))
          · skip
            exact Tr.endH [.no, .run 3, .yes, .yes, .run 3, .yes, .run 2, .no, .run 5, .no, .run 5] (cs := [(_, false), (_, true), (_, true), (_, true), (_, false), (_, false)]) (Prod.fst) (y := SV.v (Value.bool false)) (by kernel_rfl) ⟨g0, g8, g9, g10, g11, g12, trivial⟩ (fun a ha => ha.trans (by (try simp only [ge_iff_le, gt_iff_lt, decide_eq_true_eq, decide_eq_false_iff_not, bne_iff_ne, ne_eq, bne_eq_false_iff_eq, beq_iff_eq, beq_eq_false_iff_ne, Bool.not_eq_true', Bool.not_eq_false'] at *); first | (simp [Meta.may, Slot.boot, b, *]; done) | (simp [Meta.may, Slot.boot, b, *]; omega) | (simp_all [Meta.may, Slot.boot, b]; done) | (simp_all [Meta.may, Slot.boot, b]; omega)))
      · skip
        exact Tr.endH [.no, .run 3, .yes, .yes, .run 3, .no, .run 10] (cs := [(_, false), (_, true), (_, true), (_, false)]) (Prod.fst) (y := SV.v (Value.bool false)) (by kernel_rfl) ⟨g0, g8, g9, g10, trivial⟩ (fun a ha => ha.trans (by (try simp only [ge_iff_le, gt_iff_lt, decide_eq_true_eq, decide_eq_false_iff_not, bne_iff_ne, ne_eq, bne_eq_false_iff_eq, beq_iff_eq, beq_eq_false_iff_ne, Bool.not_eq_true', Bool.not_eq_false'] at *); first | (simp [Meta.may, Slot.boot, b, *]; done) | (simp [Meta.may, Slot.boot, b, *]; omega) | (simp_all [Meta.may, Slot.boot, b]; done) | (simp_all [Meta.may, Slot.boot, b]; omega)))
    · skip
      exact Tr.endH [.no, .run 3, .yes, .no, .run 14] (cs := [(_, false), (_, true), (_, false)]) (Prod.fst) (y := SV.v (Value.bool false)) (by kernel_rfl) ⟨g0, g8, g9, trivial⟩ (fun a ha => ha.trans (by (try simp only [ge_iff_le, gt_iff_lt, decide_eq_true_eq, decide_eq_false_iff_not, bne_iff_ne, ne_eq, bne_eq_false_iff_eq, beq_iff_eq, beq_eq_false_iff_ne, Bool.not_eq_true', Bool.not_eq_false'] at *); first | (simp [Meta.may, Slot.boot, b, *]; done) | (simp [Meta.may, Slot.boot, b, *]; omega) | (simp_all [Meta.may, Slot.boot, b]; done) | (simp_all [Meta.may, Slot.boot, b]; omega)))
def rMayF : List SV → Option SV := fun args => match args with | [x, y] => (metaOf x).bind fun m => (intOf' y).map fun k => b (m.may k) | _ => none
def eRMay : Entry := pureE 6 rMayF
theorem rMay_ok : EntryOK Try.prog eRMay :=
  pureE_ok hng hmix (l := []) (cut := noCut) (wr := noWr) (by simp) 400 6 Try.func6 rfl (by simp) (pure2 metaOf_some intOf'_some fun m k => ⟨rfl, rfl, (rMay_tree m k).out⟩)
theorem may_tree (m : Meta) (k : Int) : (callX Try.prog (Env.of [] noCut noWr) 400 32 [m.sv, i k] [] fin).Holds fun r => r.1 = b (m.may k) := by
  rcases Bool.eq_false_or_eq_true (decide (k < (0 : Int))) with g0 | g0
  · skip
    exact Tr.endH [.yes, .run 3] (cs := [(_, true)]) (Prod.fst) (y := SV.v (Value.bool false)) (by kernel_rfl) ⟨g0, trivial⟩ (fun a ha => ha.trans (by (try simp only [ge_iff_le, gt_iff_lt, decide_eq_true_eq, decide_eq_false_iff_not, bne_iff_ne, ne_eq, bne_eq_false_iff_eq, beq_iff_eq, beq_eq_false_iff_ne, Bool.not_eq_true', Bool.not_eq_false'] at *); first | (simp [Meta.may, Slot.boot, b, *]; done) | (simp [Meta.may, Slot.boot, b, *]; omega) | (simp_all [Meta.may, Slot.boot, b]; done) | (simp_all [Meta.may, Slot.boot, b]; omega)))
  · skip
    rcases Bool.eq_false_or_eq_true (decide (k ≥ (2 : Int))) with g1 | g1
    · skip
      exact Tr.endH [.no, .run 2, .yes] (cs := [(_, false), (_, true)]) (Prod.fst) (y := SV.v (Value.bool false)) (by kernel_rfl) ⟨g0, g1, trivial⟩ (fun a ha => ha.trans (by (try simp only [ge_iff_le, gt_iff_lt, decide_eq_true_eq, decide_eq_false_iff_not, bne_iff_ne, ne_eq, bne_eq_false_iff_eq, beq_iff_eq, beq_eq_false_iff_ne, Bool.not_eq_true', Bool.not_eq_false'] at *); first | (simp [Meta.may, Slot.boot, b, *]; done) | (simp [Meta.may, Slot.boot, b, *]; omega) | (simp_all [Meta.may, Slot.boot, b]; done) | (simp_all [Meta.may, Slot.boot, b]; omega)))
    · skip
      rcases Bool.eq_false_or_eq_true (decide (k = (0 : Int))) with g2 | g2
      · skip
        rcases Bool.eq_false_or_eq_true (m.s0.full) with g3 | g3
        · skip
          rcases Bool.eq_false_or_eq_true (decide (m.s0.prio > (0 : Int))) with g4 | g4
          · skip
            rcases Bool.eq_false_or_eq_true (m.s0.ok) with g5 | g5
            · skip
              exact Tr.endH [.no, .run 2, .no, .yes, .yes, .run 3, .yes, .run 2, .yes, .run 11] (cs := [(_, false), (_, false), (_, true), (_, true), (_, true), (_, true)]) (Prod.fst) (y := SV.v (Value.bool (decide (m.s0.roll ≥ m.roll)))) (by kernel_rfl) ⟨g0, g1, g2, g3, g4, g5, trivial⟩ (fun a ha => ha.trans (by (try simp only [ge_iff_le, gt_iff_lt, decide_eq_true_eq, decide_eq_false_iff_not, bne_iff_ne, ne_eq, bne_eq_false_iff_eq, beq_iff_eq, beq_eq_false_iff_ne, Bool.not_eq_true', Bool.not_eq_false'] at *); first | (simp [Meta.may, Slot.boot, b, *]; done) | (simp [Meta.may, Slot.boot, b, *]; omega) | (simp_all [Meta.may, Slot.boot, b]; done) | (simp_all [Meta.may, Slot.boot, b]; omega)))
            · skip
              rcases Bool.eq_false_or_eq_true (decide (m.s0.tries > (0 : Int))) with g6 | g6
              · skip
                exact Tr.endH [.no, .run 2, .no, .yes, .yes, .run 3, .yes, .run 2, .no, .run 5, .yes, .run 5] (cs := [(_, false), (_, false), (_, true), (_, true), (_, true), (_, false), (_, true)]) (Prod.fst) (y := SV.v (Value.bool (decide (m.s0.roll ≥ m.roll)))) (by kernel_rfl) ⟨g0, g1, g2, g3, g4, g5, g6, trivial⟩ (fun a ha => ha.trans (by (try simp only [ge_iff_le, gt_iff_lt, decide_eq_true_eq, decide_eq_false_iff_not, bne_iff_ne, ne_eq, bne_eq_false_iff_eq, beq_iff_eq, beq_eq_false_iff_ne, Bool.not_eq_true', Bool.not_eq_false'] at *); first | (simp [Meta.may, Slot.boot, b, *]; done) | (simp [Meta.may, Slot.boot, b, *]; omega) | (simp_all [Meta.may, Slot.boot, b]; done) | (simp_all [Meta.may, Slot.boot, b]; omega)))
              · skip
                exact Tr.endH [.no, .run 2, .no, .yes, .yes, .run 3, .yes, .run 2, .no, .run 5, .no, .run 5] (cs := [(_, false), (_, false), (_, true), (_, true), (_, true), (_, false), (_, false)]) (Prod.fst) (y := SV.v (Value.bool false)) (by kernel_rfl) ⟨g0, g1, g2, g3, g4, g5, g6, trivial⟩ (fun a ha => ha.trans (by (try simp only [ge_iff_le, gt_iff_lt, decide_eq_true_eq, decide_eq_false_iff_not, bne_iff_ne, ne_eq, bne_eq_false_iff_eq, beq_iff_eq, beq_eq_false_iff_ne, Bool.not_eq_true', Bool.not_eq_false'] at *); first | (simp [Meta.may, Slot.boot, b, *]; done) | (simp [Meta.may, Slot.boot, b, *]; omega) | (simp_all [Meta.may, Slot.boot, b]; done) | (simp_all [Meta.may, Slot.boot, b]; omega)))
          · skip
            exact Tr.endH [.no, .run 2, .no, .yes, .yes, .run 3, .no, .run 10] (cs := [(_, false), (_, false), (_, true), (_, true), (_, false)]) (Prod.fst) (y := SV.v (Value.bool false)) (by kernel_rfl) ⟨g0, g1, g2, g3, g4, trivial⟩ (fun a ha => ha.trans (by (try simp only [ge_iff_le, gt_iff_lt, decide_eq_true_eq, decide_eq_false_iff_not, bne_iff_ne, ne_eq, bne_eq_false_iff_eq, beq_iff_eq, beq_eq_false_iff_ne, Bool.not_eq_true', Bool.not_eq_false'] at *); first | (simp [Meta.may, Slot.boot, b, *]; done) | (simp [Meta.may, Slot.boot, b, *]; omega) | (simp_all [Meta.may, Slot.boot, b]; done) | (simp_all [Meta.may, Slot.boot, b]; omega)))
        · skip
          exact Tr.endH [.no, .run 2, .no, .yes, .no, .run 14] (cs := [(_, false), (_, false), (_, true), (_, false)]) (Prod.fst) (y := SV.v (Value.bool false)) (by kernel_rfl) ⟨g0, g1, g2, g3, trivial⟩ (fun a ha => ha.trans (by (try simp only [ge_iff_le, gt_iff_lt, decide_eq_true_eq, decide_eq_false_iff_not, bne_iff_ne, ne_eq, bne_eq_false_iff_eq, beq_iff_eq, beq_eq_false_iff_ne, Bool.not_eq_true', Bool.not_eq_false'] at *); first | (simp [Meta.may, Slot.boot, b, *]; done) | (simp [Meta.may, Slot.boot, b, *]; omega) | (simp_all [Meta.may, Slot.boot, b]; done) | (simp_all [Meta.may, Slot.boot, b]; omega)))
      · skip
        have g7 : (decide (k = (1 : Int))) = true := by ((try simp only [nb_beq, nb_bne, nb_beqN, nb_not, nb_or, nb_and, nb_iff, nb_niff, nb_eq, decide_eq_true_eq, decide_eq_false_iff_not, beq_iff_eq, beq_eq_false_iff_ne, ne_eq, bne_iff_ne, bne_eq_false_iff_eq, Bool.not_eq_true', Bool.not_eq_false', Bool.not_true, Bool.not_false, ge_iff_le, gt_iff_lt, Nat.zero_add, Bool.true_eq, Bool.false_eq, beq_false, beq_true, Bool.not_eq_true, Bool.not_eq_false, Bool.true_or, Bool.false_or, Bool.or_true, Bool.or_false, Bool.and_true, Bool.true_and, Bool.and_false, Bool.false_and, Bool.or_eq_true, Bool.and_eq_true, Bool.or_eq_false_iff, Bool.and_eq_false_iff, if_true, if_false, Bool.false_eq_true, reduceIte, wrap0, wrap1] at *); (try simp (disch := omega) only [wrapId] at *); first | done | omega | (simp_all; done) | (simp_all; omega))
        rcases Bool.eq_false_or_eq_true (m.s1.full) with g8 | g8
        · skip
          rcases Bool.eq_false_or_eq_true (decide (m.s1.prio > (0 : Int))) with g9 | g9
          · skip
            rcases Bool.eq_false_or_eq_true (m.s1.ok) with g10 | g10
            · skip
              exact Tr.endH [.no, .run 2, .no, .no, .yes, .yes, .run 3, .yes, .run 2, .yes, .run 11] (cs := [(_, false), (_, false), (_, false), (_, true), (_, true), (_, true), (_, true)]) (Prod.fst) (y := SV.v (Value.bool (decide (m.s1.roll ≥ m.roll)))) (by kernel_rfl) ⟨g0, g1, g2, g7, g8, g9, g10, trivial⟩ (fun a ha => ha.trans (by (try simp only [ge_iff_le, gt_iff_lt, decide_eq_true_eq, decide_eq_false_iff_not, bne_iff_ne, ne_eq, bne_eq_false_iff_eq, beq_iff_eq, beq_eq_false_iff_ne, Bool.not_eq_true', Bool.not_eq_false'] at *); first | (simp [Meta.may, Slot.boot, b, *]; done) | (simp [Meta.may, Slot.boot, b, *]; omega) | (simp_all [Meta.may, Slot.boot, b]; done) | (simp_all [Meta.may, Slot.boot, b]; omega)))
            · skip
              rcases Bool.eq_false_or_eq_true (decide (m.s1.tries > (0 : Int))) with g11 | g11
              · skip
                exact Tr.endH [.no, .run 2, .no, .no, .yes, .yes, .run 3, .yes, .run 2, .no, .run 5, .yes, .run 5] (cs := [(_, false), (_, false), (_, false), (_, true), (_, true), (_, true), (_, false), (_, true)]) (Prod.fst) (y := SV.v (Value.bool (decide (m.s1.roll ≥ m.roll)))) (by kernel_rfl) ⟨g0, g1, g2, g7, g8, g9, g10, g11, trivial⟩ (fun a ha => ha.trans (by (try simp only [ge_iff_le, gt_iff_lt, decide_eq_true_eq, decide_eq_false_iff_not, bne_iff_ne, ne_eq, bne_eq_false_iff_eq, beq_iff_eq, beq_eq_false_iff_ne, Bool.not_eq_true', Bool.not_eq_false'] at *); first | (simp [Meta.may, Slot.boot, b, *]; done) | (simp [Meta.may, Slot.boot, b, *]; omega) | (simp_all [Meta.may, Slot.boot, b]; done) | (simp_all [Meta.may, Slot.boot, b]; omega)))
              · skip
                exact Tr.endH [.no, .run 2, .no, .no, .yes, .yes, .run 3, .yes, .run 2, .no, .run 5, .no, .run 5] (cs := [(_, false), (_, false), (_, false), (_, true), (_, true), (_, true), (_, false), (_, false)]) (Prod.fst) (y := SV.v (Value.bool false)) (by kernel_rfl) ⟨g0, g1, g2, g7, g8, g9, g10, g11, trivial⟩ (fun a ha => ha.trans (by (try simp only [ge_iff_le, gt_iff_lt, decide_eq_true_eq, decide_eq_false_iff_not, bne_iff_ne, ne_eq, bne_eq_false_iff_eq, beq_iff_eq, beq_eq_false_iff_ne, Bool.not_eq_true', Bool.not_eq_false'] at *); first | (simp [Meta.may, Slot.boot, b, *]; done) | (simp [Meta.may, Slot.boot, b, *]; omega) | (simp_all [Meta.may, Slot.boot, b]; done) | (simp_all [Meta.may, Slot.boot, b]; omega)))
          · skip
            exact Tr.endH [.no, .run 2, .no, .no, .yes, .yes, .run 3, .no, .run 10] (cs := [(_, false), (_, false), (_, false), (_, true), (_, true), (_, false)]) (Prod.fst) (y := SV.v (Value.bool false)) (by kernel_rfl) ⟨g0, g1, g2, g7, g8, g9, trivial⟩ (fun a ha => ha.trans (by (try simp only [ge_iff_le, gt_iff_lt, decide_eq_true_eq, decide_eq_false_iff_not, bne_iff_ne, ne_eq, bne_eq_false_iff_eq, beq_iff_eq, beq_eq_false_iff_ne, Bool.not_eq_true', Bool.not_eq_false'] at *); first | (simp [Meta.may, Slot.boot, b, *]; done) | (simp [Meta.may, Slot.boot, b, *]; omega) | (simp_all [Meta.may, Slot.boot, b]; done) | (simp_all [Meta.may, Slot.boot, b]; omega)))
        · skip
          exact Tr.endH [.no, .run 2, .no, .no, .yes, .no, .run 14] (cs := [(_, false), (_, false), (_, false), (_, true), (_, false)]) (Prod.fst) (y := SV.v (Value.bool false)) (by kernel_rfl) ⟨g0, g1, g2, g7, g8, trivial⟩ (fun a ha => ha.trans (by (try simp only [ge_iff_le, gt_iff_lt, decide_eq_true_eq, decide_eq_false_iff_not, bne_iff_ne, ne_eq, bne_eq_false_iff_eq, beq_iff_eq, beq_eq_false_iff_ne, Bool.not_eq_true', Bool.not_eq_false'] at *); first | (simp [Meta.may, Slot.boot, b, *]; done) | (simp [Meta.may, Slot.boot, b, *]; omega) | (simp_all [Meta.may, Slot.boot, b]; done) | (simp_all [Meta.may, Slot.boot, b]; omega)))
def mayF : List SV → Option SV := fun args => match args with | [x, y] => (metaOf x).bind fun m => (intOf' y).map fun k => b (m.may k) | _ => none
def eMay : Entry := pureE 32 mayF
theorem may_ok : EntryOK Try.prog eMay :=
  pureE_ok hng hmix (l := []) (cut := noCut) (wr := noWr) (by simp) 400 32 Try.func32 rfl (by simp) (pure2 metaOf_some intOf'_some fun m k => ⟨rfl, rfl, (may_tree m k).out⟩)
theorem rChoose_tree (m : Meta) : (callX Try.prog (Env.of [eRMay] noCut noWr) 400 7 [m.sv] [] fin).Holds fun r => r.1 = i m.choose := by
  rcases Bool.eq_false_or_eq_true (Meta.may m (0 : Int)) with g0 | g0
  · skip
    rcases Bool.eq_false_or_eq_true (Meta.may m (1 : Int)) with g1 | g1
    · skip
      rcases Bool.eq_false_or_eq_true (decide (m.s1.prio > m.s0.prio)) with g2 | g2
      · skip
        exact Tr.endH [.run 2, .yes, .run 1, .yes, .run 12, .yes, .run 2] (cs := [(_, true), (_, true), (_, true)]) (Prod.fst) (y := SV.v (Value.int IntKind.i64 (1 : Int))) (by kernel_rfl) ⟨g0, g1, g2, trivial⟩ (fun a ha => ha.trans (by (try simp only [ge_iff_le, gt_iff_lt, decide_eq_true_eq, decide_eq_false_iff_not, bne_iff_ne, ne_eq, bne_eq_false_iff_eq, beq_iff_eq, beq_eq_false_iff_ne, Bool.not_eq_true', Bool.not_eq_false'] at *); first | (simp [Meta.choose, i, wrap0, wrap1, *]; done) | (simp [Meta.choose, i, wrap0, wrap1, *]; omega) | (simp_all [Meta.choose, i, wrap0, wrap1]; done) | (simp_all [Meta.choose, i, wrap0, wrap1]; omega)))
      · skip
        exact Tr.endH [.run 2, .yes, .run 1, .yes, .run 12, .no, .yes, .run 1, .yes, .run 2] (cs := [(_, true), (_, true), (_, false), (_, true), (_, true)]) (Prod.fst) (y := SV.v (Value.int IntKind.i64 (0 : Int))) (by kernel_rfl) ⟨g0, g1, g2, g0, g1, trivial⟩ (fun a ha => ha.trans (by (try simp only [ge_iff_le, gt_iff_lt, decide_eq_true_eq, decide_eq_false_iff_not, bne_iff_ne, ne_eq, bne_eq_false_iff_eq, beq_iff_eq, beq_eq_false_iff_ne, Bool.not_eq_true', Bool.not_eq_false'] at *); first | (simp [Meta.choose, i, wrap0, wrap1, *]; done) | (simp [Meta.choose, i, wrap0, wrap1, *]; omega) | (simp_all [Meta.choose, i, wrap0, wrap1]; done) | (simp_all [Meta.choose, i, wrap0, wrap1]; omega)))
    · skip
      exact Tr.endH [.run 2, .yes, .run 1, .no, .run 10, .yes, .run 1, .no, .yes, .run 2] (cs := [(_, true), (_, false), (_, true), (_, false), (_, true)]) (Prod.fst) (y := SV.v (Value.int IntKind.i64 (0 : Int))) (by kernel_rfl) ⟨g0, g1, g0, g1, g0, trivial⟩ (fun a ha => ha.trans (by (try simp only [ge_iff_le, gt_iff_lt, decide_eq_true_eq, decide_eq_false_iff_not, bne_iff_ne, ne_eq, bne_eq_false_iff_eq, beq_iff_eq, beq_eq_false_iff_ne, Bool.not_eq_true', Bool.not_eq_false'] at *); first | (simp [Meta.choose, i, wrap0, wrap1, *]; done) | (simp [Meta.choose, i, wrap0, wrap1, *]; omega) | (simp_all [Meta.choose, i, wrap0, wrap1]; done) | (simp_all [Meta.choose, i, wrap0, wrap1]; omega)))
  · skip
    rcases Bool.eq_false_or_eq_true (Meta.may m (1 : Int)) with g3 | g3
    · skip
      exact Tr.endH [.run 2, .no, .run 12, .no, .run 2, .no, .yes, .run 2] (cs := [(_, false), (_, false), (_, false), (_, true)]) (Prod.fst) (y := SV.v (Value.int IntKind.i64 (1 : Int))) (by kernel_rfl) ⟨g0, g0, g0, g3, trivial⟩ (fun a ha => ha.trans (by (try simp only [ge_iff_le, gt_iff_lt, decide_eq_true_eq, decide_eq_false_iff_not, bne_iff_ne, ne_eq, bne_eq_false_iff_eq, beq_iff_eq, beq_eq_false_iff_ne, Bool.not_eq_true', Bool.not_eq_false'] at *); first | (simp [Meta.choose, i, wrap0, wrap1, *]; done) | (simp [Meta.choose, i, wrap0, wrap1, *]; omega) | (simp_all [Meta.choose, i, wrap0, wrap1]; done) | (simp_all [Meta.choose, i, wrap0, wrap1]; omega)))
    · skip
      exact Tr.endH [.run 2, .no, .run 12, .no, .run 2, .no, .no, .run 1] (cs := [(_, false), (_, false), (_, false), (_, false)]) (Prod.fst) (y := SV.v (Value.int IntKind.i64 (-1 : Int))) (by kernel_rfl) ⟨g0, g0, g0, g3, trivial⟩ (fun a ha => ha.trans (by (try simp only [ge_iff_le, gt_iff_lt, decide_eq_true_eq, decide_eq_false_iff_not, bne_iff_ne, ne_eq, bne_eq_false_iff_eq, beq_iff_eq, beq_eq_false_iff_ne, Bool.not_eq_true', Bool.not_eq_false'] at *); first | (simp [Meta.choose, i, wrap0, wrap1, *]; done) | (simp [Meta.choose, i, wrap0, wrap1, *]; omega) | (simp_all [Meta.choose, i, wrap0, wrap1]; done) | (simp_all [Meta.choose, i, wrap0, wrap1]; omega)))
def chooseF : List SV → Option SV := fun args => match args with | [x] => (metaOf x).map fun m => i m.choose | _ => none
def eRChoose0 : Entry := pureE 7 chooseF
theorem rChoose_ok : EntryOK Try.prog eRChoose0 :=
  pureE_ok hng hmix (l := [eRMay]) (cut := noCut) (wr := noWr) (by simp [rMay_ok]) 400 7 Try.func7 rfl (by simp [eRMay, pureE, pickE]) (pure1 metaOf_some fun m => ⟨rfl, rfl, (rChoose_tree m).out⟩)
theorem choose_tree (m : Meta) : (callX Try.prog (Env.of [eMay] noCut noWr) 400 12 [m.sv] [] fin).Holds fun r => r.1 = i m.choose := by
  rcases Bool.eq_false_or_eq_true (Meta.may m (0 : Int)) with g0 | g0
  · skip
    refine Tr.needH [.run 1, .yes] (cs := [(_, true)]) (p := True ∧ True ∧ (1 : Nat) ≤ (9223372036854775807 : Nat) ∧ (8 : Nat) ≤ (140737488355328 : Nat)) (by kernel_rfl) ⟨g0, trivial⟩ (by (repeat' apply And.intro) <;> first | trivial | omega | (simp at *; omega)) ?_
    rcases Bool.eq_false_or_eq_true (Meta.may m (1 : Int)) with g1 | g1
    · skip
      refine Tr.needH [.run 1, .yes] (cs := [(_, true)]) (p := (1 : Nat) ≤ List.length ([] ++ [((0 : Int), ())]) ∧   True ∧ (2 : Nat) ≤ (9223372036854775807 : Nat) ∧ (16 : Nat) ≤ (140737488355328 : Nat)) (by kernel_rfl) ⟨g1, trivial⟩ (by (repeat' apply And.intro) <;> first | trivial | omega | (simp at *; omega)) ?_
      refine Tr.needH [.run 4] (cs := []) (p := (0 : Int) ≤ (1 : Int) ∧ (1 : Int) < (2 : Int)) (by kernel_rfl) trivial (by (repeat' apply And.intro) <;> first | trivial | omega | (simp at *; omega)) ?_
      refine Tr.needH [] (cs := []) (p := Int.toNat (1 : Int) < List.length (List.take (1 : Nat) ([] ++ [((0 : Int), ())]) ++ [((1 : Int), ())])) (by kernel_rfl) trivial (by (repeat' apply And.intro) <;> first | trivial | omega | (simp at *; omega)) ?_
      refine Tr.needH [] (cs := []) (p := (0 : Int) ≤ (0 : Int) ∧ (0 : Int) < (2 : Int)) (by kernel_rfl) trivial (by (repeat' apply And.intro) <;> first | trivial | omega | (simp at *; omega)) ?_
      refine Tr.needH [] (cs := []) (p := Int.toNat (0 : Int) < List.length (List.take (1 : Nat) ([] ++ [((0 : Int), ())]) ++ [((1 : Int), ())])) (by kernel_rfl) trivial (by (repeat' apply And.intro) <;> first | trivial | omega | (simp at *; omega)) ?_
      have g2 : (m.s0.prio != m.s0.prio) = false := by ((try simp only [nb_beq, nb_bne, nb_beqN, nb_not, nb_or, nb_and, nb_iff, nb_niff, nb_eq, decide_eq_true_eq, decide_eq_false_iff_not, beq_iff_eq, beq_eq_false_iff_ne, ne_eq, bne_iff_ne, bne_eq_false_iff_eq, Bool.not_eq_true', Bool.not_eq_false', Bool.not_true, Bool.not_false, ge_iff_le, gt_iff_lt, Nat.zero_add, Bool.true_eq, Bool.false_eq, beq_false, beq_true, Bool.not_eq_true, Bool.not_eq_false, Bool.true_or, Bool.false_or, Bool.or_true, Bool.or_false, Bool.and_true, Bool.true_and, Bool.and_false, Bool.false_and, Bool.or_eq_true, Bool.and_eq_true, Bool.or_eq_false_iff, Bool.and_eq_false_iff, if_true, if_false, Bool.false_eq_true, reduceIte, wrap0, wrap1] at *); (try simp (disch := omega) only [wrapId] at *); first | done | omega | (simp_all; done) | (simp_all; omega))
      have g3 : (m.s1.prio != m.s1.prio) = false := by ((try simp only [nb_beq, nb_bne, nb_beqN, nb_not, nb_or, nb_and, nb_iff, nb_niff, nb_eq, decide_eq_true_eq, decide_eq_false_iff_not, beq_iff_eq, beq_eq_false_iff_ne, ne_eq, bne_iff_ne, bne_eq_false_iff_eq, Bool.not_eq_true', Bool.not_eq_false', Bool.not_true, Bool.not_false, ge_iff_le, gt_iff_lt, Nat.zero_add, Bool.true_eq, Bool.false_eq, beq_false, beq_true, Bool.not_eq_true, Bool.not_eq_false, Bool.true_or, Bool.false_or, Bool.or_true, Bool.or_false, Bool.and_true, Bool.true_and, Bool.and_false, Bool.false_and, Bool.or_eq_true, Bool.and_eq_true, Bool.or_eq_false_iff, Bool.and_eq_false_iff, if_true, if_false, Bool.false_eq_true, reduceIte, wrap0, wrap1] at *); (try simp (disch := omega) only [wrapId] at *); first | done | omega | (simp_all; done) | (simp_all; omega))
      rcases Bool.eq_false_or_eq_true (decide (m.s0.prio < m.s1.prio)) with g4 | g4
      · skip
        refine Tr.needH [.run 3, .no, .no, .yes, .run 4] (cs := [(_, false), (_, false), (_, true)]) (p := (0 : Int) ≤ (0 : Int) ∧ (0 : Int) < (2 : Int)) (by kernel_rfl) ⟨g2, g3, g4, trivial⟩ (by (repeat' apply And.intro) <;> first | trivial | omega | (simp at *; omega)) ?_
        refine Tr.needH [] (cs := []) (p := (0 : Int) ≤ (1 : Int) ∧ (1 : Int) < (2 : Int)) (by kernel_rfl) trivial (by (repeat' apply And.intro) <;> first | trivial | omega | (simp at *; omega)) ?_
        refine Tr.alongH [] (cs := []) (by kernel_rfl) (by kernel_rfl) trivial (Tr.bothH ?_ ?_)
        · skip
          refine Tr.needH [] (cs := []) (p := Int.toNat (0 : Int) < List.length (List.take (1 : Nat) ([] ++ [((0 : Int), ())]) ++ [((1 : Int), ())])) (by kernel_rfl) trivial (by (repeat' apply And.intro) <;> first | trivial | omega | (simp at *; omega)) ?_
          refine Tr.needH [.run 1] (cs := []) (p := Int.toNat (1 : Int) < List.length (List.take (1 : Nat) ([] ++ [((0 : Int), ())]) ++ [((1 : Int), ())])) (by kernel_rfl) trivial (by (repeat' apply And.intro) <;> first | trivial | omega | (simp at *; omega)) ?_
          refine Tr.needH [.run 1] (cs := []) (p := (0 : Int) ≤ (1 : Int) ∧ (1 : Int) < (2 : Int)) (by kernel_rfl) trivial (by (repeat' apply And.intro) <;> first | trivial | omega | (simp at *; omega)) ?_
          refine Tr.needH [] (cs := []) (p := Int.toNat (1 : Int) < List.length (List.take (1 : Nat) ([] ++ [((0 : Int), ())]) ++ [((1 : Int), ())])) (by kernel_rfl) trivial (by (repeat' apply And.intro) <;> first | trivial | omega | (simp at *; omega)) ?_
          refine Tr.needH [.run 1] (cs := []) (p := (0 : Int) ≤ (0 : Int) ∧ (0 : Int) < (2 : Int)) (by kernel_rfl) trivial (by (repeat' apply And.intro) <;> first | trivial | omega | (simp at *; omega)) ?_
          refine Tr.needH [] (cs := []) (p := Int.toNat (0 : Int) <   List.length     (List.set (List.take (1 : Nat) ([] ++ [((0 : Int), ())]) ++ [((1 : Int), ())]) (Int.toNat (1 : Int))       ((0 : Int), ()))) (by kernel_rfl) trivial (by (repeat' apply And.intro) <;> first | trivial | omega | (simp at *; omega)) ?_
          refine Tr.needH [.run 7] (cs := []) (p := (0 : Int) ≤ (0 : Int) ∧ (0 : Int) < (2 : Int)) (by kernel_rfl) trivial (by (repeat' apply And.intro) <;> first | trivial | omega | (simp at *; omega)) ?_
          refine Tr.needH [] (cs := []) (p := Int.toNat (0 : Int) <   List.length     (List.set       (List.set (List.take (1 : Nat) ([] ++ [((0 : Int), ())]) ++ [((1 : Int), ())]) (Int.toNat (1 : Int))         ((0 : Int), ()))       (Int.toNat (0 : Int)) ((1 : Int), ()))) (by kernel_rfl) trivial (by (repeat' apply And.intro) <;> first | trivial | omega | (simp at *; omega)) ?_
          exact Tr.endH [] (cs := []) (Prod.fst) (y := SV.v (Value.int IntKind.i64 (1 : Int))) (by kernel_rfl) trivial (fun a ha => ha.trans (by (try simp only [ge_iff_le, gt_iff_lt, decide_eq_true_eq, decide_eq_false_iff_not, bne_iff_ne, ne_eq, bne_eq_false_iff_eq, beq_iff_eq, beq_eq_false_iff_ne, Bool.not_eq_true', Bool.not_eq_false'] at *); first | (simp [Meta.choose, i, wrap0, wrap1, *]; done) | (simp [Meta.choose, i, wrap0, wrap1, *]; omega) | (simp_all [Meta.choose, i, wrap0, wrap1]; done) | (simp_all [Meta.choose, i, wrap0, wrap1]; omega)))
        · skip
          refine Tr.needH [] (cs := []) (p := Int.toNat (1 : Int) < List.length (List.take (1 : Nat) ([] ++ [((0 : Int), ())]) ++ [((1 : Int), ())])) (by kernel_rfl) trivial (by (repeat' apply And.intro) <;> first | trivial | omega | (simp at *; omega)) ?_
          refine Tr.needH [.run 1] (cs := []) (p := Int.toNat (0 : Int) < List.length (List.take (1 : Nat) ([] ++ [((0 : Int), ())]) ++ [((1 : Int), ())])) (by kernel_rfl) trivial (by (repeat' apply And.intro) <;> first | trivial | omega | (simp at *; omega)) ?_
          refine Tr.needH [.run 1] (cs := []) (p := (0 : Int) ≤ (1 : Int) ∧ (1 : Int) < (2 : Int)) (by kernel_rfl) trivial (by (repeat' apply And.intro) <;> first | trivial | omega | (simp at *; omega)) ?_
          refine Tr.needH [] (cs := []) (p := Int.toNat (1 : Int) < List.length (List.take (1 : Nat) ([] ++ [((0 : Int), ())]) ++ [((1 : Int), ())])) (by kernel_rfl) trivial (by (repeat' apply And.intro) <;> first | trivial | omega | (simp at *; omega)) ?_
          refine Tr.needH [.run 1] (cs := []) (p := (0 : Int) ≤ (0 : Int) ∧ (0 : Int) < (2 : Int)) (by kernel_rfl) trivial (by (repeat' apply And.intro) <;> first | trivial | omega | (simp at *; omega)) ?_
          refine Tr.needH [] (cs := []) (p := Int.toNat (0 : Int) <   List.length     (List.set (List.take (1 : Nat) ([] ++ [((0 : Int), ())]) ++ [((1 : Int), ())]) (Int.toNat (1 : Int))       ((0 : Int), ()))) (by kernel_rfl) trivial (by (repeat' apply And.intro) <;> first | trivial | omega | (simp at *; omega)) ?_
          refine Tr.needH [.run 7] (cs := []) (p := (0 : Int) ≤ (0 : Int) ∧ (0 : Int) < (2 : Int)) (by kernel_rfl) trivial (by (repeat' apply And.intro) <;> first | trivial | omega | (simp at *; omega)) ?_
          refine Tr.needH [] (cs := []) (p := Int.toNat (0 : Int) <   List.length     (List.set       (List.set (List.take (1 : Nat) ([] ++ [((0 : Int), ())]) ++ [((1 : Int), ())]) (Int.toNat (1 : Int))         ((0 : Int), ()))       (Int.toNat (0 : Int)) ((1 : Int), ()))) (by kernel_rfl) trivial (by (repeat' apply And.intro) <;> first | trivial | omega | (simp at *; omega)) ?_
          exact Tr.endH [] (cs := []) (Prod.fst) (y := SV.v (Value.int IntKind.i64 (1 : Int))) (by kernel_rfl) trivial (fun a ha => ha.trans (by (try simp only [ge_iff_le, gt_iff_lt, decide_eq_true_eq, decide_eq_false_iff_not, bne_iff_ne, ne_eq, bne_eq_false_iff_eq, beq_iff_eq, beq_eq_false_iff_ne, Bool.not_eq_true', Bool.not_eq_false'] at *); first | (simp [Meta.choose, i, wrap0, wrap1, *]; done) | (simp [Meta.choose, i, wrap0, wrap1, *]; omega) | (simp_all [Meta.choose, i, wrap0, wrap1]; done) | (simp_all [Meta.choose, i, wrap0, wrap1]; omega)))
      · skip
        rcases Bool.eq_false_or_eq_true (decide (m.s0.prio > m.s1.prio)) with g5 | g5
        · skip
          refine Tr.needH [.run 3, .no, .no, .no, .yes, .run 7] (cs := [(_, false), (_, false), (_, false), (_, true)]) (p := (0 : Int) ≤ (0 : Int) ∧ (0 : Int) < (2 : Int)) (by kernel_rfl) ⟨g2, g3, g4, g5, trivial⟩ (by (repeat' apply And.intro) <;> first | trivial | omega | (simp at *; omega)) ?_
          refine Tr.needH [] (cs := []) (p := Int.toNat (0 : Int) < List.length (List.take (1 : Nat) ([] ++ [((0 : Int), ())]) ++ [((1 : Int), ())])) (by kernel_rfl) trivial (by (repeat' apply And.intro) <;> first | trivial | omega | (simp at *; omega)) ?_
          exact Tr.endH [] (cs := []) (Prod.fst) (y := SV.v (Value.int IntKind.i64 (0 : Int))) (by kernel_rfl) trivial (fun a ha => ha.trans (by (try simp only [ge_iff_le, gt_iff_lt, decide_eq_true_eq, decide_eq_false_iff_not, bne_iff_ne, ne_eq, bne_eq_false_iff_eq, beq_iff_eq, beq_eq_false_iff_ne, Bool.not_eq_true', Bool.not_eq_false'] at *); first | (simp [Meta.choose, i, wrap0, wrap1, *]; done) | (simp [Meta.choose, i, wrap0, wrap1, *]; omega) | (simp_all [Meta.choose, i, wrap0, wrap1]; done) | (simp_all [Meta.choose, i, wrap0, wrap1]; omega)))
        · skip
          refine Tr.needH [.run 3, .no, .no, .no, .no, .run 7] (cs := [(_, false), (_, false), (_, false), (_, false)]) (p := (0 : Int) ≤ (0 : Int) ∧ (0 : Int) < (2 : Int)) (by kernel_rfl) ⟨g2, g3, g4, g5, trivial⟩ (by (repeat' apply And.intro) <;> first | trivial | omega | (simp at *; omega)) ?_
          refine Tr.needH [] (cs := []) (p := Int.toNat (0 : Int) < List.length (List.take (1 : Nat) ([] ++ [((0 : Int), ())]) ++ [((1 : Int), ())])) (by kernel_rfl) trivial (by (repeat' apply And.intro) <;> first | trivial | omega | (simp at *; omega)) ?_
          exact Tr.endH [] (cs := []) (Prod.fst) (y := SV.v (Value.int IntKind.i64 (0 : Int))) (by kernel_rfl) trivial (fun a ha => ha.trans (by (try simp only [ge_iff_le, gt_iff_lt, decide_eq_true_eq, decide_eq_false_iff_not, bne_iff_ne, ne_eq, bne_eq_false_iff_eq, beq_iff_eq, beq_eq_false_iff_ne, Bool.not_eq_true', Bool.not_eq_false'] at *); first | (simp [Meta.choose, i, wrap0, wrap1, *]; done) | (simp [Meta.choose, i, wrap0, wrap1, *]; omega) | (simp_all [Meta.choose, i, wrap0, wrap1]; done) | (simp_all [Meta.choose, i, wrap0, wrap1]; omega)))
    · skip
      refine Tr.needH [.run 1, .no, .run 5] (cs := [(_, false)]) (p := (0 : Int) ≤ (0 : Int) ∧ (0 : Int) < (1 : Int)) (by kernel_rfl) ⟨g1, trivial⟩ (by (repeat' apply And.intro) <;> first | trivial | omega | (simp at *; omega)) ?_
      refine Tr.needH [] (cs := []) (p := Int.toNat (0 : Int) < List.length ([] ++ [((0 : Int), ())])) (by kernel_rfl) trivial (by (repeat' apply And.intro) <;> first | trivial | omega | (simp at *; omega)) ?_
      exact Tr.endH [] (cs := []) (Prod.fst) (y := SV.v (Value.int IntKind.i64 (0 : Int))) (by kernel_rfl) trivial (fun a ha => ha.trans (by (try simp only [ge_iff_le, gt_iff_lt, decide_eq_true_eq, decide_eq_false_iff_not, bne_iff_ne, ne_eq, bne_eq_false_iff_eq, beq_iff_eq, beq_eq_false_iff_ne, Bool.not_eq_true', Bool.not_eq_false'] at *); first | (simp [Meta.choose, i, wrap0, wrap1, *]; done) | (simp [Meta.choose, i, wrap0, wrap1, *]; omega) | (simp_all [Meta.choose, i, wrap0, wrap1]; done) | (simp_all [Meta.choose, i, wrap0, wrap1]; omega)))
  · skip
    rcases Bool.eq_false_or_eq_true (Meta.may m (1 : Int)) with g6 | g6
    · skip
      refine Tr.needH [.run 1, .no, .run 1, .yes] (cs := [(_, false), (_, true)]) (p := True ∧ True ∧ (1 : Nat) ≤ (9223372036854775807 : Nat) ∧ (8 : Nat) ≤ (140737488355328 : Nat)) (by kernel_rfl) ⟨g0, g6, trivial⟩ (by (repeat' apply And.intro) <;> first | trivial | omega | (simp at *; omega)) ?_
      refine Tr.needH [.run 5] (cs := []) (p := (0 : Int) ≤ (0 : Int) ∧ (0 : Int) < (1 : Int)) (by kernel_rfl) trivial (by (repeat' apply And.intro) <;> first | trivial | omega | (simp at *; omega)) ?_
      refine Tr.needH [] (cs := []) (p := Int.toNat (0 : Int) < List.length ([] ++ [((1 : Int), ())])) (by kernel_rfl) trivial (by (repeat' apply And.intro) <;> first | trivial | omega | (simp at *; omega)) ?_
      exact Tr.endH [] (cs := []) (Prod.fst) (y := SV.v (Value.int IntKind.i64 (1 : Int))) (by kernel_rfl) trivial (fun a ha => ha.trans (by (try simp only [ge_iff_le, gt_iff_lt, decide_eq_true_eq, decide_eq_false_iff_not, bne_iff_ne, ne_eq, bne_eq_false_iff_eq, beq_iff_eq, beq_eq_false_iff_ne, Bool.not_eq_true', Bool.not_eq_false'] at *); first | (simp [Meta.choose, i, wrap0, wrap1, *]; done) | (simp [Meta.choose, i, wrap0, wrap1, *]; omega) | (simp_all [Meta.choose, i, wrap0, wrap1]; done) | (simp_all [Meta.choose, i, wrap0, wrap1]; omega)))
    · skip
      exact Tr.endH [.run 1, .no, .run 1, .no, .run 5] (cs := [(_, false), (_, false)]) (Prod.fst) (y := SV.v (Value.int IntKind.i64 (-1 : Int))) (by kernel_rfl) ⟨g0, g6, trivial⟩ (fun a ha => ha.trans (by (try simp only [ge_iff_le, gt_iff_lt, decide_eq_true_eq, decide_eq_false_iff_not, bne_iff_ne, ne_eq, bne_eq_false_iff_eq, beq_iff_eq, beq_eq_false_iff_ne, Bool.not_eq_true', Bool.not_eq_false'] at *); first | (simp [Meta.choose, i, wrap0, wrap1, *]; done) | (simp [Meta.choose, i, wrap0, wrap1, *]; omega) | (simp_all [Meta.choose, i, wrap0, wrap1]; done) | (simp_all [Meta.choose, i, wrap0, wrap1]; omega)))
def eChoose0 : Entry := pureE 12 chooseF
theorem choose_ok : EntryOK Try.prog eChoose0 :=
  pureE_ok hng hmix (l := [eMay]) (cut := noCut) (wr := noWr) (by simp [may_ok]) 400 12 Try.func12 rfl (by simp [eMay, pureE, pickE]) (pure1 metaOf_some fun m => ⟨rfl, rfl, (choose_tree m).out⟩)
theorem target_tree (m : Meta) (k : Int) : (callX Try.prog (Env.of [] noCut noWr) 400 27 [m.sv, i k] [] fin).Holds fun r => r.1 = i (m.target k) := by
  rcases Bool.eq_false_or_eq_true (k == (0 : Int)) with g0 | g0
  · skip
    exact Tr.endH [.yes, .run 3] (cs := [(_, true)]) (Prod.fst) (y := SV.v (Value.int IntKind.i64 (IntKind.wrap IntKind.i64 ((1 : Int) - k)))) (by kernel_rfl) ⟨g0, trivial⟩ (fun a ha => ha.trans (by (try simp only [ge_iff_le, gt_iff_lt, decide_eq_true_eq, decide_eq_false_iff_not, bne_iff_ne, ne_eq, bne_eq_false_iff_eq, beq_iff_eq, beq_eq_false_iff_ne, Bool.not_eq_true', Bool.not_eq_false'] at *); first | (simp [Meta.target, i, wrap0, wrap1, *]; done) | (simp [Meta.target, i, wrap0, wrap1, *]; omega) | (simp_all [Meta.target, i, wrap0, wrap1]; done) | (simp_all [Meta.target, i, wrap0, wrap1]; omega)))
  · skip
    rcases Bool.eq_false_or_eq_true (k == (1 : Int)) with g1 | g1
    · skip
      exact Tr.endH [.no, .run 2, .yes] (cs := [(_, false), (_, true)]) (Prod.fst) (y := SV.v (Value.int IntKind.i64 (IntKind.wrap IntKind.i64 ((1 : Int) - k)))) (by kernel_rfl) ⟨g0, g1, trivial⟩ (fun a ha => ha.trans (by (try simp only [ge_iff_le, gt_iff_lt, decide_eq_true_eq, decide_eq_false_iff_not, bne_iff_ne, ne_eq, bne_eq_false_iff_eq, beq_iff_eq, beq_eq_false_iff_ne, Bool.not_eq_true', Bool.not_eq_false'] at *); first | (simp [Meta.target, i, wrap0, wrap1, *]; done) | (simp [Meta.target, i, wrap0, wrap1, *]; omega) | (simp_all [Meta.target, i, wrap0, wrap1]; done) | (simp_all [Meta.target, i, wrap0, wrap1]; omega)))
    · skip
      rcases Bool.eq_false_or_eq_true (!m.s0.full) with g2 | g2
      · skip
        exact Tr.endH [.no, .run 2, .no, .run 2, .yes] (cs := [(_, false), (_, false), (_, true)]) (Prod.fst) (y := SV.v (Value.int IntKind.i64 (0 : Int))) (by kernel_rfl) ⟨g0, g1, g2, trivial⟩ (fun a ha => ha.trans (by (try simp only [ge_iff_le, gt_iff_lt, decide_eq_true_eq, decide_eq_false_iff_not, bne_iff_ne, ne_eq, bne_eq_false_iff_eq, beq_iff_eq, beq_eq_false_iff_ne, Bool.not_eq_true', Bool.not_eq_false'] at *); first | (simp [Meta.target, i, wrap0, wrap1, *]; done) | (simp [Meta.target, i, wrap0, wrap1, *]; omega) | (simp_all [Meta.target, i, wrap0, wrap1]; done) | (simp_all [Meta.target, i, wrap0, wrap1]; omega)))
      · skip
        rcases Bool.eq_false_or_eq_true (!m.s1.full) with g3 | g3
        · skip
          exact Tr.endH [.no, .run 2, .no, .run 2, .no, .run 3, .yes] (cs := [(_, false), (_, false), (_, false), (_, true)]) (Prod.fst) (y := SV.v (Value.int IntKind.i64 (1 : Int))) (by kernel_rfl) ⟨g0, g1, g2, g3, trivial⟩ (fun a ha => ha.trans (by (try simp only [ge_iff_le, gt_iff_lt, decide_eq_true_eq, decide_eq_false_iff_not, bne_iff_ne, ne_eq, bne_eq_false_iff_eq, beq_iff_eq, beq_eq_false_iff_ne, Bool.not_eq_true', Bool.not_eq_false'] at *); first | (simp [Meta.target, i, wrap0, wrap1, *]; done) | (simp [Meta.target, i, wrap0, wrap1, *]; omega) | (simp_all [Meta.target, i, wrap0, wrap1]; done) | (simp_all [Meta.target, i, wrap0, wrap1]; omega)))
        · skip
          rcases Bool.eq_false_or_eq_true (decide (m.s0.prio < m.s1.prio)) with g4 | g4
          · skip
            exact Tr.endH [.no, .run 2, .no, .run 2, .no, .run 3, .no, .run 4, .yes] (cs := [(_, false), (_, false), (_, false), (_, false), (_, true)]) (Prod.fst) (y := SV.v (Value.int IntKind.i64 (0 : Int))) (by kernel_rfl) ⟨g0, g1, g2, g3, g4, trivial⟩ (fun a ha => ha.trans (by (try simp only [ge_iff_le, gt_iff_lt, decide_eq_true_eq, decide_eq_false_iff_not, bne_iff_ne, ne_eq, bne_eq_false_iff_eq, beq_iff_eq, beq_eq_false_iff_ne, Bool.not_eq_true', Bool.not_eq_false'] at *); first | (simp [Meta.target, i, wrap0, wrap1, *]; done) | (simp [Meta.target, i, wrap0, wrap1, *]; omega) | (simp_all [Meta.target, i, wrap0, wrap1]; done) | (simp_all [Meta.target, i, wrap0, wrap1]; omega)))
          · skip
            exact Tr.endH [.no, .run 2, .no, .run 2, .no, .run 3, .no, .run 4, .no] (cs := [(_, false), (_, false), (_, false), (_, false), (_, false)]) (Prod.fst) (y := SV.v (Value.int IntKind.i64 (1 : Int))) (by kernel_rfl) ⟨g0, g1, g2, g3, g4, trivial⟩ (fun a ha => ha.trans (by (try simp only [ge_iff_le, gt_iff_lt, decide_eq_true_eq, decide_eq_false_iff_not, bne_iff_ne, ne_eq, bne_eq_false_iff_eq, beq_iff_eq, beq_eq_false_iff_ne, Bool.not_eq_true', Bool.not_eq_false'] at *); first | (simp [Meta.target, i, wrap0, wrap1, *]; done) | (simp [Meta.target, i, wrap0, wrap1, *]; omega) | (simp_all [Meta.target, i, wrap0, wrap1]; done) | (simp_all [Meta.target, i, wrap0, wrap1]; omega)))
def targetF : List SV → Option SV := fun args => match args with | [x, y] => (metaOf x).bind fun m => (intOf' y).map fun k => i (m.target k) | _ => none
def eTarget0 : Entry := pureE 27 targetF
theorem target_ok : EntryOK Try.prog eTarget0 :=
  pureE_ok hng hmix (l := []) (cut := noCut) (wr := noWr) (by simp) 400 27 Try.func27 rfl (by simp) (pure2 metaOf_some intOf'_some fun m k => ⟨rfl, rfl, (target_tree m k).out⟩)
theorem try_tree (m : Meta) (k : Int) : (callX Try.prog (Env.of [] noCut noWr) 400 13 [m.sv, i k] [] fin).Holds fun r => r.1 = (m.try k).sv := by
  rcases Bool.eq_false_or_eq_true (decide (k ≥ (0 : Int))) with g0 | g0
  · skip
    rcases Bool.eq_false_or_eq_true (decide (k < (2 : Int))) with g1 | g1
    · skip
      rcases Bool.eq_false_or_eq_true (decide (k = (0 : Int))) with g2 | g2
      · skip
        rcases Bool.eq_false_or_eq_true (!m.s0.ok) with g3 | g3
        · skip
          rcases Bool.eq_false_or_eq_true (decide (m.s0.tries > (0 : Int))) with g4 | g4
          · skip
            exact Tr.endH [.yes, .run 2, .yes, .yes, .yes, .run 5, .yes] (cs := [(_, true), (_, true), (_, true), (_, true), (_, true)]) (Prod.fst) (y := SV.agg   [SV.v (Value.bool m.s0.full), SV.v (Value.int IntKind.i64 m.s0.prio),     SV.v (Value.int IntKind.i64 (IntKind.wrap IntKind.i64 (m.s0.tries - (1 : Int)))), SV.v (Value.bool m.s0.ok),     SV.v (Value.int IntKind.i64 m.s0.ver), SV.v (Value.int IntKind.i64 m.s0.roll), SV.v (Value.bool m.s1.full),     SV.v (Value.int IntKind.i64 m.s1.prio), SV.v (Value.int IntKind.i64 m.s1.tries), SV.v (Value.bool m.s1.ok),     SV.v (Value.int IntKind.i64 m.s1.ver), SV.v (Value.int IntKind.i64 m.s1.roll), SV.v (Value.int IntKind.i64 m.roll)]) (by kernel_rfl) ⟨g0, g1, g2, g3, g4, trivial⟩ (fun a ha => ha.trans (by (try simp only [ge_iff_le, gt_iff_lt, decide_eq_true_eq, decide_eq_false_iff_not, bne_iff_ne, ne_eq, bne_eq_false_iff_eq, Bool.not_eq_true', Bool.not_eq_false'] at *); first | (simp [Meta.try, Slot.try, Meta.sv, Slot.cells, b, i, *]; done) | (rw [show m.try k = m from by unfold Meta.try; rw [if_neg (by omega), if_neg (by omega)]]; rfl)))
          · skip
            exact Tr.endH [.yes, .run 2, .yes, .yes, .yes, .run 5, .no] (cs := [(_, true), (_, true), (_, true), (_, true), (_, false)]) (Prod.fst) (y := SV.agg   [SV.v (Value.bool m.s0.full), SV.v (Value.int IntKind.i64 m.s0.prio), SV.v (Value.int IntKind.i64 m.s0.tries),     SV.v (Value.bool m.s0.ok), SV.v (Value.int IntKind.i64 m.s0.ver), SV.v (Value.int IntKind.i64 m.s0.roll),     SV.v (Value.bool m.s1.full), SV.v (Value.int IntKind.i64 m.s1.prio), SV.v (Value.int IntKind.i64 m.s1.tries),     SV.v (Value.bool m.s1.ok), SV.v (Value.int IntKind.i64 m.s1.ver), SV.v (Value.int IntKind.i64 m.s1.roll),     SV.v (Value.int IntKind.i64 m.roll)]) (by kernel_rfl) ⟨g0, g1, g2, g3, g4, trivial⟩ (fun a ha => ha.trans (by (try simp only [ge_iff_le, gt_iff_lt, decide_eq_true_eq, decide_eq_false_iff_not, bne_iff_ne, ne_eq, bne_eq_false_iff_eq, Bool.not_eq_true', Bool.not_eq_false'] at *); first | (simp [Meta.try, Slot.try, Meta.sv, Slot.cells, b, i, *]; done) | (rw [show m.try k = m from by unfold Meta.try; rw [if_neg (by omega), if_neg (by omega)]]; rfl)))
        · skip
          exact Tr.endH [.yes, .run 2, .yes, .yes, .no, .run 6] (cs := [(_, true), (_, true), (_, true), (_, false)]) (Prod.fst) (y := SV.agg   [SV.v (Value.bool m.s0.full), SV.v (Value.int IntKind.i64 m.s0.prio), SV.v (Value.int IntKind.i64 m.s0.tries),     SV.v (Value.bool m.s0.ok), SV.v (Value.int IntKind.i64 m.s0.ver), SV.v (Value.int IntKind.i64 m.s0.roll),     SV.v (Value.bool m.s1.full), SV.v (Value.int IntKind.i64 m.s1.prio), SV.v (Value.int IntKind.i64 m.s1.tries),     SV.v (Value.bool m.s1.ok), SV.v (Value.int IntKind.i64 m.s1.ver), SV.v (Value.int IntKind.i64 m.s1.roll),     SV.v (Value.int IntKind.i64 m.roll)]) (by kernel_rfl) ⟨g0, g1, g2, g3, trivial⟩ (fun a ha => ha.trans (by (try simp only [ge_iff_le, gt_iff_lt, decide_eq_true_eq, decide_eq_false_iff_not, bne_iff_ne, ne_eq, bne_eq_false_iff_eq, Bool.not_eq_true', Bool.not_eq_false'] at *); first | (simp [Meta.try, Slot.try, Meta.sv, Slot.cells, b, i, *]; done) | (rw [show m.try k = m from by unfold Meta.try; rw [if_neg (by omega), if_neg (by omega)]]; rfl)))
      · skip
        have g5 : (decide (k = (1 : Int))) = true := by (first | (simp_all; done) | (simp only [decide_eq_true_eq, decide_eq_false_iff_not, beq_iff_eq, beq_eq_false_iff_ne, ne_eq, bne_iff_ne, Bool.not_eq_true', Bool.not_eq_false', ge_iff_le, gt_iff_lt] at *; omega))
        rcases Bool.eq_false_or_eq_true (!m.s1.ok) with g6 | g6
        · skip
          rcases Bool.eq_false_or_eq_true (decide (m.s1.tries > (0 : Int))) with g7 | g7
          · skip
            exact Tr.endH [.yes, .run 2, .yes, .no, .yes, .yes, .run 5, .yes] (cs := [(_, true), (_, true), (_, false), (_, true), (_, true), (_, true)]) (Prod.fst) (y := SV.agg   [SV.v (Value.bool m.s0.full), SV.v (Value.int IntKind.i64 m.s0.prio), SV.v (Value.int IntKind.i64 m.s0.tries),     SV.v (Value.bool m.s0.ok), SV.v (Value.int IntKind.i64 m.s0.ver), SV.v (Value.int IntKind.i64 m.s0.roll),     SV.v (Value.bool m.s1.full), SV.v (Value.int IntKind.i64 m.s1.prio),     SV.v (Value.int IntKind.i64 (IntKind.wrap IntKind.i64 (m.s1.tries - (1 : Int)))), SV.v (Value.bool m.s1.ok),     SV.v (Value.int IntKind.i64 m.s1.ver), SV.v (Value.int IntKind.i64 m.s1.roll), SV.v (Value.int IntKind.i64 m.roll)]) (by kernel_rfl) ⟨g0, g1, g2, g5, g6, g7, trivial⟩ (fun a ha => ha.trans (by (try simp only [ge_iff_le, gt_iff_lt, decide_eq_true_eq, decide_eq_false_iff_not, bne_iff_ne, ne_eq, bne_eq_false_iff_eq, Bool.not_eq_true', Bool.not_eq_false'] at *); first | (simp [Meta.try, Slot.try, Meta.sv, Slot.cells, b, i, *]; done) | (rw [show m.try k = m from by unfold Meta.try; rw [if_neg (by omega), if_neg (by omega)]]; rfl)))
          · skip
            exact Tr.endH [.yes, .run 2, .yes, .no, .yes, .yes, .run 5, .no] (cs := [(_, true), (_, true), (_, false), (_, true), (_, true), (_, false)]) (Prod.fst) (y := SV.agg   [SV.v (Value.bool m.s0.full), SV.v (Value.int IntKind.i64 m.s0.prio), SV.v (Value.int IntKind.i64 m.s0.tries),     SV.v (Value.bool m.s0.ok), SV.v (Value.int IntKind.i64 m.s0.ver), SV.v (Value.int IntKind.i64 m.s0.roll),     SV.v (Value.bool m.s1.full), SV.v (Value.int IntKind.i64 m.s1.prio), SV.v (Value.int IntKind.i64 m.s1.tries),     SV.v (Value.bool m.s1.ok), SV.v (Value.int IntKind.i64 m.s1.ver), SV.v (Value.int IntKind.i64 m.s1.roll),     SV.v (Value.int IntKind.i64 m.roll)]) (by kernel_rfl) ⟨g0, g1, g2, g5, g6, g7, trivial⟩ (fun a ha => ha.trans (by (try simp only [ge_iff_le, gt_iff_lt, decide_eq_true_eq, decide_eq_false_iff_not, bne_iff_ne, ne_eq, bne_eq_false_iff_eq, Bool.not_eq_true', Bool.not_eq_false'] at *); first | (simp [Meta.try, Slot.try, Meta.sv, Slot.cells, b, i, *]; done) | (rw [show m.try k = m from by unfold Meta.try; rw [if_neg (by omega), if_neg (by omega)]]; rfl)))
        · skip
          exact Tr.endH [.yes, .run 2, .yes, .no, .yes, .no, .run 6] (cs := [(_, true), (_, true), (_, false), (_, true), (_, false)]) (Prod.fst) (y := SV.agg   [SV.v (Value.bool m.s0.full), SV.v (Value.int IntKind.i64 m.s0.prio), SV.v (Value.int IntKind.i64 m.s0.tries),     SV.v (Value.bool m.s0.ok), SV.v (Value.int IntKind.i64 m.s0.ver), SV.v (Value.int IntKind.i64 m.s0.roll),     SV.v (Value.bool m.s1.full), SV.v (Value.int IntKind.i64 m.s1.prio), SV.v (Value.int IntKind.i64 m.s1.tries),     SV.v (Value.bool m.s1.ok), SV.v (Value.int IntKind.i64 m.s1.ver), SV.v (Value.int IntKind.i64 m.s1.roll),     SV.v (Value.int IntKind.i64 m.roll)]) (by kernel_rfl) ⟨g0, g1, g2, g5, g6, trivial⟩ (fun a ha => ha.trans (by (try simp only [ge_iff_le, gt_iff_lt, decide_eq_true_eq, decide_eq_false_iff_not, bne_iff_ne, ne_eq, bne_eq_false_iff_eq, Bool.not_eq_true', Bool.not_eq_false'] at *); first | (simp [Meta.try, Slot.try, Meta.sv, Slot.cells, b, i, *]; done) | (rw [show m.try k = m from by unfold Meta.try; rw [if_neg (by omega), if_neg (by omega)]]; rfl)))
    · skip
      exact Tr.endH [.yes, .run 2, .no] (cs := [(_, true), (_, false)]) (Prod.fst) (y := SV.agg   [SV.v (Value.bool m.s0.full), SV.v (Value.int IntKind.i64 m.s0.prio), SV.v (Value.int IntKind.i64 m.s0.tries),     SV.v (Value.bool m.s0.ok), SV.v (Value.int IntKind.i64 m.s0.ver), SV.v (Value.int IntKind.i64 m.s0.roll),     SV.v (Value.bool m.s1.full), SV.v (Value.int IntKind.i64 m.s1.prio), SV.v (Value.int IntKind.i64 m.s1.tries),     SV.v (Value.bool m.s1.ok), SV.v (Value.int IntKind.i64 m.s1.ver), SV.v (Value.int IntKind.i64 m.s1.roll),     SV.v (Value.int IntKind.i64 m.roll)]) (by kernel_rfl) ⟨g0, g1, trivial⟩ (fun a ha => ha.trans (by (try simp only [ge_iff_le, gt_iff_lt, decide_eq_true_eq, decide_eq_false_iff_not, bne_iff_ne, ne_eq, bne_eq_false_iff_eq, Bool.not_eq_true', Bool.not_eq_false'] at *); first | (simp [Meta.try, Slot.try, Meta.sv, Slot.cells, b, i, *]; done) | (rw [show m.try k = m from by unfold Meta.try; rw [if_neg (by omega), if_neg (by omega)]]; rfl)))
  · skip
    exact Tr.endH [.no, .run 3] (cs := [(_, false)]) (Prod.fst) (y := SV.agg   [SV.v (Value.bool m.s0.full), SV.v (Value.int IntKind.i64 m.s0.prio), SV.v (Value.int IntKind.i64 m.s0.tries),     SV.v (Value.bool m.s0.ok), SV.v (Value.int IntKind.i64 m.s0.ver), SV.v (Value.int IntKind.i64 m.s0.roll),     SV.v (Value.bool m.s1.full), SV.v (Value.int IntKind.i64 m.s1.prio), SV.v (Value.int IntKind.i64 m.s1.tries),     SV.v (Value.bool m.s1.ok), SV.v (Value.int IntKind.i64 m.s1.ver), SV.v (Value.int IntKind.i64 m.s1.roll),     SV.v (Value.int IntKind.i64 m.roll)]) (by kernel_rfl) ⟨g0, trivial⟩ (fun a ha => ha.trans (by (try simp only [ge_iff_le, gt_iff_lt, decide_eq_true_eq, decide_eq_false_iff_not, bne_iff_ne, ne_eq, bne_eq_false_iff_eq, Bool.not_eq_true', Bool.not_eq_false'] at *); first | (simp [Meta.try, Slot.try, Meta.sv, Slot.cells, b, i, *]; done) | (rw [show m.try k = m from by unfold Meta.try; rw [if_neg (by omega), if_neg (by omega)]]; rfl)))
def tryF : List SV → Option SV := fun args => match args with | [x, y] => (metaOf x).bind fun m => (intOf' y).map fun k => (m.try k).sv | _ => none
def eTry : Entry := pureE 13 tryF
theorem try_ok : EntryOK Try.prog eTry :=
  pureE_ok hng hmix (l := []) (cut := noCut) (wr := noWr) (by simp) 400 13 Try.func13 rfl (by simp) (pure2 metaOf_some intOf'_some fun m k => ⟨rfl, rfl, (try_tree m k).out⟩)
theorem good_tree (m : Meta) (k : Int) : (callX Try.prog (Env.of [] noCut noWr) 400 30 [m.sv, i k] [] fin).Holds fun r => r.1 = (m.well k).sv := by
  rcases Bool.eq_false_or_eq_true (decide (k ≥ (0 : Int))) with g0 | g0
  · skip
    rcases Bool.eq_false_or_eq_true (decide (k < (2 : Int))) with g1 | g1
    · skip
      rcases Bool.eq_false_or_eq_true (decide (k = (0 : Int))) with g2 | g2
      · skip
        rcases Bool.eq_false_or_eq_true (m.s0.full) with g3 | g3
        · skip
          exact Tr.endH [.yes, .run 2, .yes, .yes, .yes, .run 2] (cs := [(_, true), (_, true), (_, true), (_, true)]) (Prod.fst) (y := SV.agg   [SV.v (Value.bool m.s0.full), SV.v (Value.int IntKind.i64 m.s0.prio), SV.v (Value.int IntKind.i64 m.s0.tries),     SV.v (Value.bool true), SV.v (Value.int IntKind.i64 m.s0.ver), SV.v (Value.int IntKind.i64 m.s0.roll),     SV.v (Value.bool m.s1.full), SV.v (Value.int IntKind.i64 m.s1.prio), SV.v (Value.int IntKind.i64 m.s1.tries),     SV.v (Value.bool m.s1.ok), SV.v (Value.int IntKind.i64 m.s1.ver), SV.v (Value.int IntKind.i64 m.s1.roll),     SV.v (Value.int IntKind.i64 (if m.s0.roll > m.roll then m.s0.roll else m.roll))]) (by kernel_rfl) ⟨g0, g1, g2, g3, trivial⟩ (fun a ha => ha.trans (by (try simp only [Meta.upd, Meta.bad, Meta.off, Meta.well, Slot.good, Meta.least, Slot.least, Slot.yield, Slot.first, Meta.first, Meta.fresh, *, if_true, if_false, ↓reduceIte, Bool.false_eq_true]); first | rfl | (simp [Meta.sv, Slot.cells, b, i, Meta.upd, Meta.bad, Meta.off, Meta.well, Slot.good, Meta.least, Slot.least, Slot.yield, Slot.first, Meta.first, Meta.fresh, *]; done)))
        · skip
          exact Tr.endH [.yes, .run 2, .yes, .yes, .no] (cs := [(_, true), (_, true), (_, true), (_, false)]) (Prod.fst) (y := SV.agg   [SV.v (Value.bool m.s0.full), SV.v (Value.int IntKind.i64 m.s0.prio), SV.v (Value.int IntKind.i64 m.s0.tries),     SV.v (Value.bool m.s0.ok), SV.v (Value.int IntKind.i64 m.s0.ver), SV.v (Value.int IntKind.i64 m.s0.roll),     SV.v (Value.bool m.s1.full), SV.v (Value.int IntKind.i64 m.s1.prio), SV.v (Value.int IntKind.i64 m.s1.tries),     SV.v (Value.bool m.s1.ok), SV.v (Value.int IntKind.i64 m.s1.ver), SV.v (Value.int IntKind.i64 m.s1.roll),     SV.v (Value.int IntKind.i64 m.roll)]) (by kernel_rfl) ⟨g0, g1, g2, g3, trivial⟩ (fun a ha => ha.trans (by (try simp only [Meta.upd, Meta.bad, Meta.off, Meta.well, Slot.good, Meta.least, Slot.least, Slot.yield, Slot.first, Meta.first, Meta.fresh, *, if_true, if_false, ↓reduceIte, Bool.false_eq_true]); first | rfl | (simp [Meta.sv, Slot.cells, b, i, Meta.upd, Meta.bad, Meta.off, Meta.well, Slot.good, Meta.least, Slot.least, Slot.yield, Slot.first, Meta.first, Meta.fresh, *]; done)))
      · skip
        have g4 : (decide (k = (1 : Int))) = true := by (first | (simp_all; done) | (simp only [decide_eq_true_eq, decide_eq_false_iff_not, beq_iff_eq, beq_eq_false_iff_ne, ne_eq, bne_iff_ne, Bool.not_eq_true', Bool.not_eq_false', ge_iff_le, gt_iff_lt] at *; omega))
        rcases Bool.eq_false_or_eq_true (m.s1.full) with g5 | g5
        · skip
          exact Tr.endH [.yes, .run 2, .yes, .no, .yes, .yes, .run 2] (cs := [(_, true), (_, true), (_, false), (_, true), (_, true)]) (Prod.fst) (y := SV.agg   [SV.v (Value.bool m.s0.full), SV.v (Value.int IntKind.i64 m.s0.prio), SV.v (Value.int IntKind.i64 m.s0.tries),     SV.v (Value.bool m.s0.ok), SV.v (Value.int IntKind.i64 m.s0.ver), SV.v (Value.int IntKind.i64 m.s0.roll),     SV.v (Value.bool m.s1.full), SV.v (Value.int IntKind.i64 m.s1.prio), SV.v (Value.int IntKind.i64 m.s1.tries),     SV.v (Value.bool true), SV.v (Value.int IntKind.i64 m.s1.ver), SV.v (Value.int IntKind.i64 m.s1.roll),     SV.v (Value.int IntKind.i64 (if m.s1.roll > m.roll then m.s1.roll else m.roll))]) (by kernel_rfl) ⟨g0, g1, g2, g4, g5, trivial⟩ (fun a ha => ha.trans (by (try simp only [Meta.upd, Meta.bad, Meta.off, Meta.well, Slot.good, Meta.least, Slot.least, Slot.yield, Slot.first, Meta.first, Meta.fresh, *, if_true, if_false, ↓reduceIte, Bool.false_eq_true]); first | rfl | (simp [Meta.sv, Slot.cells, b, i, Meta.upd, Meta.bad, Meta.off, Meta.well, Slot.good, Meta.least, Slot.least, Slot.yield, Slot.first, Meta.first, Meta.fresh, *]; done)))
        · skip
          exact Tr.endH [.yes, .run 2, .yes, .no, .yes, .no] (cs := [(_, true), (_, true), (_, false), (_, true), (_, false)]) (Prod.fst) (y := SV.agg   [SV.v (Value.bool m.s0.full), SV.v (Value.int IntKind.i64 m.s0.prio), SV.v (Value.int IntKind.i64 m.s0.tries),     SV.v (Value.bool m.s0.ok), SV.v (Value.int IntKind.i64 m.s0.ver), SV.v (Value.int IntKind.i64 m.s0.roll),     SV.v (Value.bool m.s1.full), SV.v (Value.int IntKind.i64 m.s1.prio), SV.v (Value.int IntKind.i64 m.s1.tries),     SV.v (Value.bool m.s1.ok), SV.v (Value.int IntKind.i64 m.s1.ver), SV.v (Value.int IntKind.i64 m.s1.roll),     SV.v (Value.int IntKind.i64 m.roll)]) (by kernel_rfl) ⟨g0, g1, g2, g4, g5, trivial⟩ (fun a ha => ha.trans (by (try simp only [Meta.upd, Meta.bad, Meta.off, Meta.well, Slot.good, Meta.least, Slot.least, Slot.yield, Slot.first, Meta.first, Meta.fresh, *, if_true, if_false, ↓reduceIte, Bool.false_eq_true]); first | rfl | (simp [Meta.sv, Slot.cells, b, i, Meta.upd, Meta.bad, Meta.off, Meta.well, Slot.good, Meta.least, Slot.least, Slot.yield, Slot.first, Meta.first, Meta.fresh, *]; done)))
    · skip
      exact Tr.endH [.yes, .run 2, .no] (cs := [(_, true), (_, false)]) (Prod.fst) (y := SV.agg   [SV.v (Value.bool m.s0.full), SV.v (Value.int IntKind.i64 m.s0.prio), SV.v (Value.int IntKind.i64 m.s0.tries),     SV.v (Value.bool m.s0.ok), SV.v (Value.int IntKind.i64 m.s0.ver), SV.v (Value.int IntKind.i64 m.s0.roll),     SV.v (Value.bool m.s1.full), SV.v (Value.int IntKind.i64 m.s1.prio), SV.v (Value.int IntKind.i64 m.s1.tries),     SV.v (Value.bool m.s1.ok), SV.v (Value.int IntKind.i64 m.s1.ver), SV.v (Value.int IntKind.i64 m.s1.roll),     SV.v (Value.int IntKind.i64 m.roll)]) (by kernel_rfl) ⟨g0, g1, trivial⟩ (fun a ha => ha.trans (by (try simp only [Meta.upd, Meta.bad, Meta.off, Meta.well, Slot.good, Meta.least, Slot.least, Slot.yield, Slot.first, Meta.first, Meta.fresh, *, if_true, if_false, ↓reduceIte, Bool.false_eq_true]); first | rfl | (simp [Meta.sv, Slot.cells, b, i, Meta.upd, Meta.bad, Meta.off, Meta.well, Slot.good, Meta.least, Slot.least, Slot.yield, Slot.first, Meta.first, Meta.fresh, *]; done)))
  · skip
    exact Tr.endH [.no, .run 3] (cs := [(_, false)]) (Prod.fst) (y := SV.agg   [SV.v (Value.bool m.s0.full), SV.v (Value.int IntKind.i64 m.s0.prio), SV.v (Value.int IntKind.i64 m.s0.tries),     SV.v (Value.bool m.s0.ok), SV.v (Value.int IntKind.i64 m.s0.ver), SV.v (Value.int IntKind.i64 m.s0.roll),     SV.v (Value.bool m.s1.full), SV.v (Value.int IntKind.i64 m.s1.prio), SV.v (Value.int IntKind.i64 m.s1.tries),     SV.v (Value.bool m.s1.ok), SV.v (Value.int IntKind.i64 m.s1.ver), SV.v (Value.int IntKind.i64 m.s1.roll),     SV.v (Value.int IntKind.i64 m.roll)]) (by kernel_rfl) ⟨g0, trivial⟩ (fun a ha => ha.trans (by (try simp only [Meta.upd, Meta.bad, Meta.off, Meta.well, Slot.good, Meta.least, Slot.least, Slot.yield, Slot.first, Meta.first, Meta.fresh, *, if_true, if_false, ↓reduceIte, Bool.false_eq_true]); first | rfl | (simp [Meta.sv, Slot.cells, b, i, Meta.upd, Meta.bad, Meta.off, Meta.well, Slot.good, Meta.least, Slot.least, Slot.yield, Slot.first, Meta.first, Meta.fresh, *]; done)))
def goodF : List SV → Option SV := fun args => match args with | [x, y] => (metaOf x).bind fun m => (intOf' y).map fun k => (m.well k).sv | _ => none
def eGood : Entry := pureE 30 goodF
theorem good_ok : EntryOK Try.prog eGood :=
  pureE_ok hng hmix (l := []) (cut := noCut) (wr := noWr) (by simp) 400 30 Try.func30 rfl (by simp) (pure2 metaOf_some intOf'_some fun m k => ⟨rfl, rfl, (good_tree m k).out⟩)
theorem bad_tree (m : Meta) (k : Int) : (callX Try.prog (Env.of [] noCut noWr) 400 26 [m.sv, i k] [] fin).Holds fun r => r.1 = (m.bad k).sv := by
  rcases Bool.eq_false_or_eq_true (decide (k ≥ (0 : Int))) with g0 | g0
  · skip
    rcases Bool.eq_false_or_eq_true (decide (k < (2 : Int))) with g1 | g1
    · skip
      rcases Bool.eq_false_or_eq_true (decide (k = (0 : Int))) with g2 | g2
      · skip
        exact Tr.endH [.yes, .run 2, .yes, .yes] (cs := [(_, true), (_, true), (_, true)]) (Prod.fst) (y := SV.agg   [SV.v (Value.bool false), SV.v (Value.int IntKind.i64 (0 : Int)), SV.v (Value.int IntKind.i64 (0 : Int)),     SV.v (Value.bool false), SV.v (Value.int IntKind.i64 (0 : Int)), SV.v (Value.int IntKind.i64 (0 : Int)),     SV.v (Value.bool m.s1.full), SV.v (Value.int IntKind.i64 m.s1.prio), SV.v (Value.int IntKind.i64 m.s1.tries),     SV.v (Value.bool m.s1.ok), SV.v (Value.int IntKind.i64 m.s1.ver), SV.v (Value.int IntKind.i64 m.s1.roll),     SV.v (Value.int IntKind.i64 m.roll)]) (by kernel_rfl) ⟨g0, g1, g2, trivial⟩ (fun a ha => ha.trans (by (try simp only [Meta.upd, Meta.bad, Meta.off, Meta.well, Slot.good, Meta.least, Slot.least, Slot.yield, Slot.first, Meta.first, Meta.fresh, *, if_true, if_false, ↓reduceIte, Bool.false_eq_true]); first | rfl | (simp [Meta.sv, Slot.cells, b, i, Meta.upd, Meta.bad, Meta.off, Meta.well, Slot.good, Meta.least, Slot.least, Slot.yield, Slot.first, Meta.first, Meta.fresh, *]; done)))
      · skip
        have g3 : (decide (k = (1 : Int))) = true := by (first | (simp_all; done) | (simp only [decide_eq_true_eq, decide_eq_false_iff_not, beq_iff_eq, beq_eq_false_iff_ne, ne_eq, bne_iff_ne, Bool.not_eq_true', Bool.not_eq_false', ge_iff_le, gt_iff_lt] at *; omega))
        exact Tr.endH [.yes, .run 2, .yes, .no, .yes] (cs := [(_, true), (_, true), (_, false), (_, true)]) (Prod.fst) (y := SV.agg   [SV.v (Value.bool m.s0.full), SV.v (Value.int IntKind.i64 m.s0.prio), SV.v (Value.int IntKind.i64 m.s0.tries),     SV.v (Value.bool m.s0.ok), SV.v (Value.int IntKind.i64 m.s0.ver), SV.v (Value.int IntKind.i64 m.s0.roll),     SV.v (Value.bool false), SV.v (Value.int IntKind.i64 (0 : Int)), SV.v (Value.int IntKind.i64 (0 : Int)),     SV.v (Value.bool false), SV.v (Value.int IntKind.i64 (0 : Int)), SV.v (Value.int IntKind.i64 (0 : Int)),     SV.v (Value.int IntKind.i64 m.roll)]) (by kernel_rfl) ⟨g0, g1, g2, g3, trivial⟩ (fun a ha => ha.trans (by (try simp only [Meta.upd, Meta.bad, Meta.off, Meta.well, Slot.good, Meta.least, Slot.least, Slot.yield, Slot.first, Meta.first, Meta.fresh, *, if_true, if_false, ↓reduceIte, Bool.false_eq_true]); first | rfl | (simp [Meta.sv, Slot.cells, b, i, Meta.upd, Meta.bad, Meta.off, Meta.well, Slot.good, Meta.least, Slot.least, Slot.yield, Slot.first, Meta.first, Meta.fresh, *]; done)))
    · skip
      exact Tr.endH [.yes, .run 2, .no] (cs := [(_, true), (_, false)]) (Prod.fst) (y := SV.agg   [SV.v (Value.bool m.s0.full), SV.v (Value.int IntKind.i64 m.s0.prio), SV.v (Value.int IntKind.i64 m.s0.tries),     SV.v (Value.bool m.s0.ok), SV.v (Value.int IntKind.i64 m.s0.ver), SV.v (Value.int IntKind.i64 m.s0.roll),     SV.v (Value.bool m.s1.full), SV.v (Value.int IntKind.i64 m.s1.prio), SV.v (Value.int IntKind.i64 m.s1.tries),     SV.v (Value.bool m.s1.ok), SV.v (Value.int IntKind.i64 m.s1.ver), SV.v (Value.int IntKind.i64 m.s1.roll),     SV.v (Value.int IntKind.i64 m.roll)]) (by kernel_rfl) ⟨g0, g1, trivial⟩ (fun a ha => ha.trans (by (try simp only [Meta.upd, Meta.bad, Meta.off, Meta.well, Slot.good, Meta.least, Slot.least, Slot.yield, Slot.first, Meta.first, Meta.fresh, *, if_true, if_false, ↓reduceIte, Bool.false_eq_true]); first | rfl | (simp [Meta.sv, Slot.cells, b, i, Meta.upd, Meta.bad, Meta.off, Meta.well, Slot.good, Meta.least, Slot.least, Slot.yield, Slot.first, Meta.first, Meta.fresh, *]; done)))
  · skip
    exact Tr.endH [.no, .run 3] (cs := [(_, false)]) (Prod.fst) (y := SV.agg   [SV.v (Value.bool m.s0.full), SV.v (Value.int IntKind.i64 m.s0.prio), SV.v (Value.int IntKind.i64 m.s0.tries),     SV.v (Value.bool m.s0.ok), SV.v (Value.int IntKind.i64 m.s0.ver), SV.v (Value.int IntKind.i64 m.s0.roll),     SV.v (Value.bool m.s1.full), SV.v (Value.int IntKind.i64 m.s1.prio), SV.v (Value.int IntKind.i64 m.s1.tries),     SV.v (Value.bool m.s1.ok), SV.v (Value.int IntKind.i64 m.s1.ver), SV.v (Value.int IntKind.i64 m.s1.roll),     SV.v (Value.int IntKind.i64 m.roll)]) (by kernel_rfl) ⟨g0, trivial⟩ (fun a ha => ha.trans (by (try simp only [Meta.upd, Meta.bad, Meta.off, Meta.well, Slot.good, Meta.least, Slot.least, Slot.yield, Slot.first, Meta.first, Meta.fresh, *, if_true, if_false, ↓reduceIte, Bool.false_eq_true]); first | rfl | (simp [Meta.sv, Slot.cells, b, i, Meta.upd, Meta.bad, Meta.off, Meta.well, Slot.good, Meta.least, Slot.least, Slot.yield, Slot.first, Meta.first, Meta.fresh, *]; done)))
def badF : List SV → Option SV := fun args => match args with | [x, y] => (metaOf x).bind fun m => (intOf' y).map fun k => (m.bad k).sv | _ => none
def eBad : Entry := pureE 26 badF
theorem bad_ok : EntryOK Try.prog eBad :=
  pureE_ok hng hmix (l := []) (cut := noCut) (wr := noWr) (by simp) 400 26 Try.func26 rfl (by simp) (pure2 metaOf_some intOf'_some fun m k => ⟨rfl, rfl, (bad_tree m k).out⟩)
theorem off_tree (m : Meta) (k : Int) : (callX Try.prog (Env.of [] noCut noWr) 400 31 [m.sv, i k] [] fin).Holds fun r => r.1 = (m.off k).sv := by
  rcases Bool.eq_false_or_eq_true (decide (k ≥ (0 : Int))) with g0 | g0
  · skip
    rcases Bool.eq_false_or_eq_true (decide (k < (2 : Int))) with g1 | g1
    · skip
      rcases Bool.eq_false_or_eq_true (decide (k = (0 : Int))) with g2 | g2
      · skip
        exact Tr.endH [.yes, .run 2, .yes, .yes] (cs := [(_, true), (_, true), (_, true)]) (Prod.fst) (y := SV.agg   [SV.v (Value.bool m.s0.full), SV.v (Value.int IntKind.i64 (0 : Int)), SV.v (Value.int IntKind.i64 m.s0.tries),     SV.v (Value.bool false), SV.v (Value.int IntKind.i64 m.s0.ver), SV.v (Value.int IntKind.i64 m.s0.roll),     SV.v (Value.bool m.s1.full), SV.v (Value.int IntKind.i64 m.s1.prio), SV.v (Value.int IntKind.i64 m.s1.tries),     SV.v (Value.bool m.s1.ok), SV.v (Value.int IntKind.i64 m.s1.ver), SV.v (Value.int IntKind.i64 m.s1.roll),     SV.v (Value.int IntKind.i64 m.roll)]) (by kernel_rfl) ⟨g0, g1, g2, trivial⟩ (fun a ha => ha.trans (by (try simp only [Meta.upd, Meta.bad, Meta.off, Meta.well, Slot.good, Meta.least, Slot.least, Slot.yield, Slot.first, Meta.first, Meta.fresh, *, if_true, if_false, ↓reduceIte, Bool.false_eq_true]); first | rfl | (simp [Meta.sv, Slot.cells, b, i, Meta.upd, Meta.bad, Meta.off, Meta.well, Slot.good, Meta.least, Slot.least, Slot.yield, Slot.first, Meta.first, Meta.fresh, *]; done)))
      · skip
        have g3 : (decide (k = (1 : Int))) = true := by (first | (simp_all; done) | (simp only [decide_eq_true_eq, decide_eq_false_iff_not, beq_iff_eq, beq_eq_false_iff_ne, ne_eq, bne_iff_ne, Bool.not_eq_true', Bool.not_eq_false', ge_iff_le, gt_iff_lt] at *; omega))
        exact Tr.endH [.yes, .run 2, .yes, .no, .yes] (cs := [(_, true), (_, true), (_, false), (_, true)]) (Prod.fst) (y := SV.agg   [SV.v (Value.bool m.s0.full), SV.v (Value.int IntKind.i64 m.s0.prio), SV.v (Value.int IntKind.i64 m.s0.tries),     SV.v (Value.bool m.s0.ok), SV.v (Value.int IntKind.i64 m.s0.ver), SV.v (Value.int IntKind.i64 m.s0.roll),     SV.v (Value.bool m.s1.full), SV.v (Value.int IntKind.i64 (0 : Int)), SV.v (Value.int IntKind.i64 m.s1.tries),     SV.v (Value.bool false), SV.v (Value.int IntKind.i64 m.s1.ver), SV.v (Value.int IntKind.i64 m.s1.roll),     SV.v (Value.int IntKind.i64 m.roll)]) (by kernel_rfl) ⟨g0, g1, g2, g3, trivial⟩ (fun a ha => ha.trans (by (try simp only [Meta.upd, Meta.bad, Meta.off, Meta.well, Slot.good, Meta.least, Slot.least, Slot.yield, Slot.first, Meta.first, Meta.fresh, *, if_true, if_false, ↓reduceIte, Bool.false_eq_true]); first | rfl | (simp [Meta.sv, Slot.cells, b, i, Meta.upd, Meta.bad, Meta.off, Meta.well, Slot.good, Meta.least, Slot.least, Slot.yield, Slot.first, Meta.first, Meta.fresh, *]; done)))
    · skip
      exact Tr.endH [.yes, .run 2, .no] (cs := [(_, true), (_, false)]) (Prod.fst) (y := SV.agg   [SV.v (Value.bool m.s0.full), SV.v (Value.int IntKind.i64 m.s0.prio), SV.v (Value.int IntKind.i64 m.s0.tries),     SV.v (Value.bool m.s0.ok), SV.v (Value.int IntKind.i64 m.s0.ver), SV.v (Value.int IntKind.i64 m.s0.roll),     SV.v (Value.bool m.s1.full), SV.v (Value.int IntKind.i64 m.s1.prio), SV.v (Value.int IntKind.i64 m.s1.tries),     SV.v (Value.bool m.s1.ok), SV.v (Value.int IntKind.i64 m.s1.ver), SV.v (Value.int IntKind.i64 m.s1.roll),     SV.v (Value.int IntKind.i64 m.roll)]) (by kernel_rfl) ⟨g0, g1, trivial⟩ (fun a ha => ha.trans (by (try simp only [Meta.upd, Meta.bad, Meta.off, Meta.well, Slot.good, Meta.least, Slot.least, Slot.yield, Slot.first, Meta.first, Meta.fresh, *, if_true, if_false, ↓reduceIte, Bool.false_eq_true]); first | rfl | (simp [Meta.sv, Slot.cells, b, i, Meta.upd, Meta.bad, Meta.off, Meta.well, Slot.good, Meta.least, Slot.least, Slot.yield, Slot.first, Meta.first, Meta.fresh, *]; done)))
  · skip
    exact Tr.endH [.no, .run 3] (cs := [(_, false)]) (Prod.fst) (y := SV.agg   [SV.v (Value.bool m.s0.full), SV.v (Value.int IntKind.i64 m.s0.prio), SV.v (Value.int IntKind.i64 m.s0.tries),     SV.v (Value.bool m.s0.ok), SV.v (Value.int IntKind.i64 m.s0.ver), SV.v (Value.int IntKind.i64 m.s0.roll),     SV.v (Value.bool m.s1.full), SV.v (Value.int IntKind.i64 m.s1.prio), SV.v (Value.int IntKind.i64 m.s1.tries),     SV.v (Value.bool m.s1.ok), SV.v (Value.int IntKind.i64 m.s1.ver), SV.v (Value.int IntKind.i64 m.s1.roll),     SV.v (Value.int IntKind.i64 m.roll)]) (by kernel_rfl) ⟨g0, trivial⟩ (fun a ha => ha.trans (by (try simp only [Meta.upd, Meta.bad, Meta.off, Meta.well, Slot.good, Meta.least, Slot.least, Slot.yield, Slot.first, Meta.first, Meta.fresh, *, if_true, if_false, ↓reduceIte, Bool.false_eq_true]); first | rfl | (simp [Meta.sv, Slot.cells, b, i, Meta.upd, Meta.bad, Meta.off, Meta.well, Slot.good, Meta.least, Slot.least, Slot.yield, Slot.first, Meta.first, Meta.fresh, *]; done)))
def offF : List SV → Option SV := fun args => match args with | [x, y] => (metaOf x).bind fun m => (intOf' y).map fun k => (m.off k).sv | _ => none
def eOff : Entry := pureE 31 offF
theorem off_ok : EntryOK Try.prog eOff :=
  pureE_ok hng hmix (l := []) (cut := noCut) (wr := noWr) (by simp) 400 31 Try.func31 rfl (by simp) (pure2 metaOf_some intOf'_some fun m k => ⟨rfl, rfl, (off_tree m k).out⟩)
theorem fresh_tree (m : Meta) (k t v n : Int) : (callX Try.prog (Env.of [] noCut noWr) 400 28 [m.sv, i k, i t, i v, i n] [] fin).Holds fun r => r.1 = (m.fresh k t v n).sv := by
  rcases Bool.eq_false_or_eq_true (decide (IntKind.wrap IntKind.i64 ((1 : Int) - k) ≥ (0 : Int))) with g0 | g0
  · skip
    rcases Bool.eq_false_or_eq_true (decide (IntKind.wrap IntKind.i64 ((1 : Int) - k) < (2 : Int))) with g1 | g1
    · skip
      rcases Bool.eq_false_or_eq_true (decide (IntKind.wrap IntKind.i64 ((1 : Int) - k) = (0 : Int))) with g2 | g2
      · skip
        rcases Bool.eq_false_or_eq_true (decide (m.s0.prio < (15 : Int))) with g3 | g3
        · skip
          rcases Bool.eq_false_or_eq_true (decide (k ≥ (0 : Int))) with g4 | g4
          · skip
            rcases Bool.eq_false_or_eq_true (decide (k < (2 : Int))) with g5 | g5
            · skip
              rcases Bool.eq_false_or_eq_true (decide (k = (0 : Int))) with g6 | g6
              · skip
                exact Tr.endH [.yes, .run 2, .yes, .yes, .yes, .yes, .run 2, .yes, .yes] (cs := [(_, true), (_, true), (_, true), (_, true), (_, true), (_, true), (_, true)]) (Prod.fst) (y := SV.agg   [SV.v (Value.bool true), SV.v (Value.int IntKind.i64 (IntKind.wrap IntKind.i64 (m.s0.prio + (1 : Int)))),     SV.v       (Value.int IntKind.i64         (if (if (7 : Int) < t then (7 : Int) else t) > (1 : Int) then if (7 : Int) < t then (7 : Int) else t         else (1 : Int))),     SV.v (Value.bool false), SV.v (Value.int IntKind.i64 v), SV.v (Value.int IntKind.i64 n),     SV.v (Value.bool m.s1.full), SV.v (Value.int IntKind.i64 m.s1.prio), SV.v (Value.int IntKind.i64 m.s1.tries),     SV.v (Value.bool m.s1.ok), SV.v (Value.int IntKind.i64 m.s1.ver), SV.v (Value.int IntKind.i64 m.s1.roll),     SV.v (Value.int IntKind.i64 m.roll)]) (by kernel_rfl) ⟨g0, g1, g2, g3, g4, g5, g6, trivial⟩ (fun a ha => ha.trans (by (try simp only [Meta.upd, Meta.bad, Meta.off, Meta.well, Slot.good, Meta.least, Slot.least, Slot.yield, Slot.first, Meta.first, Meta.fresh, *, if_true, if_false, ↓reduceIte, Bool.false_eq_true]); first | rfl | (simp [Meta.sv, Slot.cells, b, i, Meta.upd, Meta.bad, Meta.off, Meta.well, Slot.good, Meta.least, Slot.least, Slot.yield, Slot.first, Meta.first, Meta.fresh, *]; done)))
              · skip
                have g7 : (decide (k = (1 : Int))) = true := by (first | (simp_all; done) | (simp only [decide_eq_true_eq, decide_eq_false_iff_not, beq_iff_eq, beq_eq_false_iff_ne, ne_eq, bne_iff_ne, Bool.not_eq_true', Bool.not_eq_false', ge_iff_le, gt_iff_lt] at *; omega))
                exact Tr.endH [.yes, .run 2, .yes, .yes, .yes, .yes, .run 2, .yes, .no, .yes] (cs := [(_, true), (_, true), (_, true), (_, true), (_, true), (_, true), (_, false), (_, true)]) (Prod.fst) (y := SV.agg   [SV.v (Value.bool m.s0.full), SV.v (Value.int IntKind.i64 m.s0.prio), SV.v (Value.int IntKind.i64 m.s0.tries),     SV.v (Value.bool m.s0.ok), SV.v (Value.int IntKind.i64 m.s0.ver), SV.v (Value.int IntKind.i64 m.s0.roll),     SV.v (Value.bool true), SV.v (Value.int IntKind.i64 (IntKind.wrap IntKind.i64 (m.s0.prio + (1 : Int)))),     SV.v       (Value.int IntKind.i64         (if (if (7 : Int) < t then (7 : Int) else t) > (1 : Int) then if (7 : Int) < t then (7 : Int) else t         else (1 : Int))),     SV.v (Value.bool false), SV.v (Value.int IntKind.i64 v), SV.v (Value.int IntKind.i64 n),     SV.v (Value.int IntKind.i64 m.roll)]) (by kernel_rfl) ⟨g0, g1, g2, g3, g4, g5, g6, g7, trivial⟩ (fun a ha => ha.trans (by (try simp only [Meta.upd, Meta.bad, Meta.off, Meta.well, Slot.good, Meta.least, Slot.least, Slot.yield, Slot.first, Meta.first, Meta.fresh, *, if_true, if_false, ↓reduceIte, Bool.false_eq_true]); first | rfl | (simp [Meta.sv, Slot.cells, b, i, Meta.upd, Meta.bad, Meta.off, Meta.well, Slot.good, Meta.least, Slot.least, Slot.yield, Slot.first, Meta.first, Meta.fresh, *]; done)))
            · skip
              exact Tr.endH [.yes, .run 2, .yes, .yes, .yes, .yes, .run 2, .no] (cs := [(_, true), (_, true), (_, true), (_, true), (_, true), (_, false)]) (Prod.fst) (y := SV.agg   [SV.v (Value.bool m.s0.full), SV.v (Value.int IntKind.i64 m.s0.prio), SV.v (Value.int IntKind.i64 m.s0.tries),     SV.v (Value.bool m.s0.ok), SV.v (Value.int IntKind.i64 m.s0.ver), SV.v (Value.int IntKind.i64 m.s0.roll),     SV.v (Value.bool m.s1.full), SV.v (Value.int IntKind.i64 m.s1.prio), SV.v (Value.int IntKind.i64 m.s1.tries),     SV.v (Value.bool m.s1.ok), SV.v (Value.int IntKind.i64 m.s1.ver), SV.v (Value.int IntKind.i64 m.s1.roll),     SV.v (Value.int IntKind.i64 m.roll)]) (by kernel_rfl) ⟨g0, g1, g2, g3, g4, g5, trivial⟩ (fun a ha => ha.trans (by (try simp only [Meta.upd, Meta.bad, Meta.off, Meta.well, Slot.good, Meta.least, Slot.least, Slot.yield, Slot.first, Meta.first, Meta.fresh, *, if_true, if_false, ↓reduceIte, Bool.false_eq_true]); first | rfl | (simp [Meta.sv, Slot.cells, b, i, Meta.upd, Meta.bad, Meta.off, Meta.well, Slot.good, Meta.least, Slot.least, Slot.yield, Slot.first, Meta.first, Meta.fresh, *]; done)))
          · skip
            exact Tr.endH [.yes, .run 2, .yes, .yes, .yes, .no, .run 3] (cs := [(_, true), (_, true), (_, true), (_, true), (_, false)]) (Prod.fst) (y := SV.agg   [SV.v (Value.bool m.s0.full), SV.v (Value.int IntKind.i64 m.s0.prio), SV.v (Value.int IntKind.i64 m.s0.tries),     SV.v (Value.bool m.s0.ok), SV.v (Value.int IntKind.i64 m.s0.ver), SV.v (Value.int IntKind.i64 m.s0.roll),     SV.v (Value.bool m.s1.full), SV.v (Value.int IntKind.i64 m.s1.prio), SV.v (Value.int IntKind.i64 m.s1.tries),     SV.v (Value.bool m.s1.ok), SV.v (Value.int IntKind.i64 m.s1.ver), SV.v (Value.int IntKind.i64 m.s1.roll),     SV.v (Value.int IntKind.i64 m.roll)]) (by kernel_rfl) ⟨g0, g1, g2, g3, g4, trivial⟩ (fun a ha => ha.trans (by (try simp only [Meta.upd, Meta.bad, Meta.off, Meta.well, Slot.good, Meta.least, Slot.least, Slot.yield, Slot.first, Meta.first, Meta.fresh, *, if_true, if_false, ↓reduceIte, Bool.false_eq_true]); first | rfl | (simp [Meta.sv, Slot.cells, b, i, Meta.upd, Meta.bad, Meta.off, Meta.well, Slot.good, Meta.least, Slot.least, Slot.yield, Slot.first, Meta.first, Meta.fresh, *]; done)))
        · skip
          rcases Bool.eq_false_or_eq_true (decide (k ≥ (0 : Int))) with g8 | g8
          · skip
            rcases Bool.eq_false_or_eq_true (decide (k < (2 : Int))) with g9 | g9
            · skip
              rcases Bool.eq_false_or_eq_true (decide (k = (0 : Int))) with g10 | g10
              · skip
                exact Tr.endH [.yes, .run 2, .yes, .yes, .no, .yes, .run 2, .yes, .yes] (cs := [(_, true), (_, true), (_, true), (_, false), (_, true), (_, true), (_, true)]) (Prod.fst) (y := SV.agg   [SV.v (Value.bool true), SV.v (Value.int IntKind.i64 (15 : Int)),     SV.v       (Value.int IntKind.i64         (if (if (7 : Int) < t then (7 : Int) else t) > (1 : Int) then if (7 : Int) < t then (7 : Int) else t         else (1 : Int))),     SV.v (Value.bool false), SV.v (Value.int IntKind.i64 v), SV.v (Value.int IntKind.i64 n),     SV.v (Value.bool m.s1.full), SV.v (Value.int IntKind.i64 m.s1.prio), SV.v (Value.int IntKind.i64 m.s1.tries),     SV.v (Value.bool m.s1.ok), SV.v (Value.int IntKind.i64 m.s1.ver), SV.v (Value.int IntKind.i64 m.s1.roll),     SV.v (Value.int IntKind.i64 m.roll)]) (by kernel_rfl) ⟨g0, g1, g2, g3, g8, g9, g10, trivial⟩ (fun a ha => ha.trans (by (try simp only [Meta.upd, Meta.bad, Meta.off, Meta.well, Slot.good, Meta.least, Slot.least, Slot.yield, Slot.first, Meta.first, Meta.fresh, *, if_true, if_false, ↓reduceIte, Bool.false_eq_true]); first | rfl | (simp [Meta.sv, Slot.cells, b, i, Meta.upd, Meta.bad, Meta.off, Meta.well, Slot.good, Meta.least, Slot.least, Slot.yield, Slot.first, Meta.first, Meta.fresh, *]; done)))
              · skip
                have g11 : (decide (k = (1 : Int))) = true := by (first | (simp_all; done) | (simp only [decide_eq_true_eq, decide_eq_false_iff_not, beq_iff_eq, beq_eq_false_iff_ne, ne_eq, bne_iff_ne, Bool.not_eq_true', Bool.not_eq_false', ge_iff_le, gt_iff_lt] at *; omega))
                exact Tr.endH [.yes, .run 2, .yes, .yes, .no, .yes, .run 2, .yes, .no, .yes] (cs := [(_, true), (_, true), (_, true), (_, false), (_, true), (_, true), (_, false), (_, true)]) (Prod.fst) (y := SV.agg   [SV.v (Value.bool m.s0.full), SV.v (Value.int IntKind.i64 (14 : Int)), SV.v (Value.int IntKind.i64 m.s0.tries),     SV.v (Value.bool m.s0.ok), SV.v (Value.int IntKind.i64 m.s0.ver), SV.v (Value.int IntKind.i64 m.s0.roll),     SV.v (Value.bool true), SV.v (Value.int IntKind.i64 (15 : Int)),     SV.v       (Value.int IntKind.i64         (if (if (7 : Int) < t then (7 : Int) else t) > (1 : Int) then if (7 : Int) < t then (7 : Int) else t         else (1 : Int))),     SV.v (Value.bool false), SV.v (Value.int IntKind.i64 v), SV.v (Value.int IntKind.i64 n),     SV.v (Value.int IntKind.i64 m.roll)]) (by kernel_rfl) ⟨g0, g1, g2, g3, g8, g9, g10, g11, trivial⟩ (fun a ha => ha.trans (by (try simp only [Meta.upd, Meta.bad, Meta.off, Meta.well, Slot.good, Meta.least, Slot.least, Slot.yield, Slot.first, Meta.first, Meta.fresh, *, if_true, if_false, ↓reduceIte, Bool.false_eq_true]); first | rfl | (simp [Meta.sv, Slot.cells, b, i, Meta.upd, Meta.bad, Meta.off, Meta.well, Slot.good, Meta.least, Slot.least, Slot.yield, Slot.first, Meta.first, Meta.fresh, *]; done)))
            · skip
              exact Tr.endH [.yes, .run 2, .yes, .yes, .no, .yes, .run 2, .no] (cs := [(_, true), (_, true), (_, true), (_, false), (_, true), (_, false)]) (Prod.fst) (y := SV.agg   [SV.v (Value.bool m.s0.full), SV.v (Value.int IntKind.i64 (14 : Int)), SV.v (Value.int IntKind.i64 m.s0.tries),     SV.v (Value.bool m.s0.ok), SV.v (Value.int IntKind.i64 m.s0.ver), SV.v (Value.int IntKind.i64 m.s0.roll),     SV.v (Value.bool m.s1.full), SV.v (Value.int IntKind.i64 m.s1.prio), SV.v (Value.int IntKind.i64 m.s1.tries),     SV.v (Value.bool m.s1.ok), SV.v (Value.int IntKind.i64 m.s1.ver), SV.v (Value.int IntKind.i64 m.s1.roll),     SV.v (Value.int IntKind.i64 m.roll)]) (by kernel_rfl) ⟨g0, g1, g2, g3, g8, g9, trivial⟩ (fun a ha => ha.trans (by (try simp only [Meta.upd, Meta.bad, Meta.off, Meta.well, Slot.good, Meta.least, Slot.least, Slot.yield, Slot.first, Meta.first, Meta.fresh, *, if_true, if_false, ↓reduceIte, Bool.false_eq_true]); first | rfl | (simp [Meta.sv, Slot.cells, b, i, Meta.upd, Meta.bad, Meta.off, Meta.well, Slot.good, Meta.least, Slot.least, Slot.yield, Slot.first, Meta.first, Meta.fresh, *]; done)))
          · skip
            exact Tr.endH [.yes, .run 2, .yes, .yes, .no, .no, .run 3] (cs := [(_, true), (_, true), (_, true), (_, false), (_, false)]) (Prod.fst) (y := SV.agg   [SV.v (Value.bool m.s0.full), SV.v (Value.int IntKind.i64 (14 : Int)), SV.v (Value.int IntKind.i64 m.s0.tries),     SV.v (Value.bool m.s0.ok), SV.v (Value.int IntKind.i64 m.s0.ver), SV.v (Value.int IntKind.i64 m.s0.roll),     SV.v (Value.bool m.s1.full), SV.v (Value.int IntKind.i64 m.s1.prio), SV.v (Value.int IntKind.i64 m.s1.tries),     SV.v (Value.bool m.s1.ok), SV.v (Value.int IntKind.i64 m.s1.ver), SV.v (Value.int IntKind.i64 m.s1.roll),     SV.v (Value.int IntKind.i64 m.roll)]) (by kernel_rfl) ⟨g0, g1, g2, g3, g8, trivial⟩ (fun a ha => ha.trans (by (try simp only [Meta.upd, Meta.bad, Meta.off, Meta.well, Slot.good, Meta.least, Slot.least, Slot.yield, Slot.first, Meta.first, Meta.fresh, *, if_true, if_false, ↓reduceIte, Bool.false_eq_true]); first | rfl | (simp [Meta.sv, Slot.cells, b, i, Meta.upd, Meta.bad, Meta.off, Meta.well, Slot.good, Meta.least, Slot.least, Slot.yield, Slot.first, Meta.first, Meta.fresh, *]; done)))
      · skip
        have g12 : (decide (IntKind.wrap IntKind.i64 ((1 : Int) - k) = (1 : Int))) = true := by (first | (simp_all; done) | (simp only [decide_eq_true_eq, decide_eq_false_iff_not, beq_iff_eq, beq_eq_false_iff_ne, ne_eq, bne_iff_ne, Bool.not_eq_true', Bool.not_eq_false', ge_iff_le, gt_iff_lt] at *; omega))
        rcases Bool.eq_false_or_eq_true (decide (m.s1.prio < (15 : Int))) with g13 | g13
        · skip
          rcases Bool.eq_false_or_eq_true (decide (k ≥ (0 : Int))) with g14 | g14
          · skip
            rcases Bool.eq_false_or_eq_true (decide (k < (2 : Int))) with g15 | g15
            · skip
              rcases Bool.eq_false_or_eq_true (decide (k = (0 : Int))) with g16 | g16
              · skip
                exact Tr.endH [.yes, .run 2, .yes, .no, .yes, .yes, .yes, .run 2, .yes, .yes] (cs := [(_, true), (_, true), (_, false), (_, true), (_, true), (_, true), (_, true), (_, true)]) (Prod.fst) (y := SV.agg   [SV.v (Value.bool true), SV.v (Value.int IntKind.i64 (IntKind.wrap IntKind.i64 (m.s1.prio + (1 : Int)))),     SV.v       (Value.int IntKind.i64         (if (if (7 : Int) < t then (7 : Int) else t) > (1 : Int) then if (7 : Int) < t then (7 : Int) else t         else (1 : Int))),     SV.v (Value.bool false), SV.v (Value.int IntKind.i64 v), SV.v (Value.int IntKind.i64 n),     SV.v (Value.bool m.s1.full), SV.v (Value.int IntKind.i64 m.s1.prio), SV.v (Value.int IntKind.i64 m.s1.tries),     SV.v (Value.bool m.s1.ok), SV.v (Value.int IntKind.i64 m.s1.ver), SV.v (Value.int IntKind.i64 m.s1.roll),     SV.v (Value.int IntKind.i64 m.roll)]) (by kernel_rfl) ⟨g0, g1, g2, g12, g13, g14, g15, g16, trivial⟩ (fun a ha => ha.trans (by (try simp only [Meta.upd, Meta.bad, Meta.off, Meta.well, Slot.good, Meta.least, Slot.least, Slot.yield, Slot.first, Meta.first, Meta.fresh, *, if_true, if_false, ↓reduceIte, Bool.false_eq_true]); first | rfl | (simp [Meta.sv, Slot.cells, b, i, Meta.upd, Meta.bad, Meta.off, Meta.well, Slot.good, Meta.least, Slot.least, Slot.yield, Slot.first, Meta.first, Meta.fresh, *]; done)))
              · skip
                have g17 : (decide (k = (1 : Int))) = true := by (first | (simp_all; done) | (simp only [decide_eq_true_eq, decide_eq_false_iff_not, beq_iff_eq, beq_eq_false_iff_ne, ne_eq, bne_iff_ne, Bool.not_eq_true', Bool.not_eq_false', ge_iff_le, gt_iff_lt] at *; omega))
                exact Tr.endH [.yes, .run 2, .yes, .no, .yes, .yes, .yes, .run 2, .yes, .no, .yes] (cs := [(_, true), (_, true), (_, false), (_, true), (_, true), (_, true), (_, true), (_, false), (_, true)]) (Prod.fst) (y := SV.agg   [SV.v (Value.bool m.s0.full), SV.v (Value.int IntKind.i64 m.s0.prio), SV.v (Value.int IntKind.i64 m.s0.tries),     SV.v (Value.bool m.s0.ok), SV.v (Value.int IntKind.i64 m.s0.ver), SV.v (Value.int IntKind.i64 m.s0.roll),     SV.v (Value.bool true), SV.v (Value.int IntKind.i64 (IntKind.wrap IntKind.i64 (m.s1.prio + (1 : Int)))),     SV.v       (Value.int IntKind.i64         (if (if (7 : Int) < t then (7 : Int) else t) > (1 : Int) then if (7 : Int) < t then (7 : Int) else t         else (1 : Int))),     SV.v (Value.bool false), SV.v (Value.int IntKind.i64 v), SV.v (Value.int IntKind.i64 n),     SV.v (Value.int IntKind.i64 m.roll)]) (by kernel_rfl) ⟨g0, g1, g2, g12, g13, g14, g15, g16, g17, trivial⟩ (fun a ha => ha.trans (by (try simp only [Meta.upd, Meta.bad, Meta.off, Meta.well, Slot.good, Meta.least, Slot.least, Slot.yield, Slot.first, Meta.first, Meta.fresh, *, if_true, if_false, ↓reduceIte, Bool.false_eq_true]); first | rfl | (simp [Meta.sv, Slot.cells, b, i, Meta.upd, Meta.bad, Meta.off, Meta.well, Slot.good, Meta.least, Slot.least, Slot.yield, Slot.first, Meta.first, Meta.fresh, *]; done)))
            · skip
              exact Tr.endH [.yes, .run 2, .yes, .no, .yes, .yes, .yes, .run 2, .no] (cs := [(_, true), (_, true), (_, false), (_, true), (_, true), (_, true), (_, false)]) (Prod.fst) (y := SV.agg   [SV.v (Value.bool m.s0.full), SV.v (Value.int IntKind.i64 m.s0.prio), SV.v (Value.int IntKind.i64 m.s0.tries),     SV.v (Value.bool m.s0.ok), SV.v (Value.int IntKind.i64 m.s0.ver), SV.v (Value.int IntKind.i64 m.s0.roll),     SV.v (Value.bool m.s1.full), SV.v (Value.int IntKind.i64 m.s1.prio), SV.v (Value.int IntKind.i64 m.s1.tries),     SV.v (Value.bool m.s1.ok), SV.v (Value.int IntKind.i64 m.s1.ver), SV.v (Value.int IntKind.i64 m.s1.roll),     SV.v (Value.int IntKind.i64 m.roll)]) (by kernel_rfl) ⟨g0, g1, g2, g12, g13, g14, g15, trivial⟩ (fun a ha => ha.trans (by (try simp only [Meta.upd, Meta.bad, Meta.off, Meta.well, Slot.good, Meta.least, Slot.least, Slot.yield, Slot.first, Meta.first, Meta.fresh, *, if_true, if_false, ↓reduceIte, Bool.false_eq_true]); first | rfl | (simp [Meta.sv, Slot.cells, b, i, Meta.upd, Meta.bad, Meta.off, Meta.well, Slot.good, Meta.least, Slot.least, Slot.yield, Slot.first, Meta.first, Meta.fresh, *]; done)))
          · skip
            exact Tr.endH [.yes, .run 2, .yes, .no, .yes, .yes, .no, .run 3] (cs := [(_, true), (_, true), (_, false), (_, true), (_, true), (_, false)]) (Prod.fst) (y := SV.agg   [SV.v (Value.bool m.s0.full), SV.v (Value.int IntKind.i64 m.s0.prio), SV.v (Value.int IntKind.i64 m.s0.tries),     SV.v (Value.bool m.s0.ok), SV.v (Value.int IntKind.i64 m.s0.ver), SV.v (Value.int IntKind.i64 m.s0.roll),     SV.v (Value.bool m.s1.full), SV.v (Value.int IntKind.i64 m.s1.prio), SV.v (Value.int IntKind.i64 m.s1.tries),     SV.v (Value.bool m.s1.ok), SV.v (Value.int IntKind.i64 m.s1.ver), SV.v (Value.int IntKind.i64 m.s1.roll),     SV.v (Value.int IntKind.i64 m.roll)]) (by kernel_rfl) ⟨g0, g1, g2, g12, g13, g14, trivial⟩ (fun a ha => ha.trans (by (try simp only [Meta.upd, Meta.bad, Meta.off, Meta.well, Slot.good, Meta.least, Slot.least, Slot.yield, Slot.first, Meta.first, Meta.fresh, *, if_true, if_false, ↓reduceIte, Bool.false_eq_true]); first | rfl | (simp [Meta.sv, Slot.cells, b, i, Meta.upd, Meta.bad, Meta.off, Meta.well, Slot.good, Meta.least, Slot.least, Slot.yield, Slot.first, Meta.first, Meta.fresh, *]; done)))
        · skip
          rcases Bool.eq_false_or_eq_true (decide (k ≥ (0 : Int))) with g18 | g18
          · skip
            rcases Bool.eq_false_or_eq_true (decide (k < (2 : Int))) with g19 | g19
            · skip
              rcases Bool.eq_false_or_eq_true (decide (k = (0 : Int))) with g20 | g20
              · skip
                exact Tr.endH [.yes, .run 2, .yes, .no, .yes, .no, .yes, .run 2, .yes, .yes] (cs := [(_, true), (_, true), (_, false), (_, true), (_, false), (_, true), (_, true), (_, true)]) (Prod.fst) (y := SV.agg   [SV.v (Value.bool true), SV.v (Value.int IntKind.i64 (15 : Int)),     SV.v       (Value.int IntKind.i64         (if (if (7 : Int) < t then (7 : Int) else t) > (1 : Int) then if (7 : Int) < t then (7 : Int) else t         else (1 : Int))),     SV.v (Value.bool false), SV.v (Value.int IntKind.i64 v), SV.v (Value.int IntKind.i64 n),     SV.v (Value.bool m.s1.full), SV.v (Value.int IntKind.i64 (14 : Int)), SV.v (Value.int IntKind.i64 m.s1.tries),     SV.v (Value.bool m.s1.ok), SV.v (Value.int IntKind.i64 m.s1.ver), SV.v (Value.int IntKind.i64 m.s1.roll),     SV.v (Value.int IntKind.i64 m.roll)]) (by kernel_rfl) ⟨g0, g1, g2, g12, g13, g18, g19, g20, trivial⟩ (fun a ha => ha.trans (by (try simp only [Meta.upd, Meta.bad, Meta.off, Meta.well, Slot.good, Meta.least, Slot.least, Slot.yield, Slot.first, Meta.first, Meta.fresh, *, if_true, if_false, ↓reduceIte, Bool.false_eq_true]); first | rfl | (simp [Meta.sv, Slot.cells, b, i, Meta.upd, Meta.bad, Meta.off, Meta.well, Slot.good, Meta.least, Slot.least, Slot.yield, Slot.first, Meta.first, Meta.fresh, *]; done)))
              · skip
                have g21 : (decide (k = (1 : Int))) = true := by (first | (simp_all; done) | (simp only [decide_eq_true_eq, decide_eq_false_iff_not, beq_iff_eq, beq_eq_false_iff_ne, ne_eq, bne_iff_ne, Bool.not_eq_true', Bool.not_eq_false', ge_iff_le, gt_iff_lt] at *; omega))
                exact Tr.endH [.yes, .run 2, .yes, .no, .yes, .no, .yes, .run 2, .yes, .no, .yes] (cs := [(_, true), (_, true), (_, false), (_, true), (_, false), (_, true), (_, true), (_, false), (_, true)]) (Prod.fst) (y := SV.agg   [SV.v (Value.bool m.s0.full), SV.v (Value.int IntKind.i64 m.s0.prio), SV.v (Value.int IntKind.i64 m.s0.tries),     SV.v (Value.bool m.s0.ok), SV.v (Value.int IntKind.i64 m.s0.ver), SV.v (Value.int IntKind.i64 m.s0.roll),     SV.v (Value.bool true), SV.v (Value.int IntKind.i64 (15 : Int)),     SV.v       (Value.int IntKind.i64         (if (if (7 : Int) < t then (7 : Int) else t) > (1 : Int) then if (7 : Int) < t then (7 : Int) else t         else (1 : Int))),     SV.v (Value.bool false), SV.v (Value.int IntKind.i64 v), SV.v (Value.int IntKind.i64 n),     SV.v (Value.int IntKind.i64 m.roll)]) (by kernel_rfl) ⟨g0, g1, g2, g12, g13, g18, g19, g20, g21, trivial⟩ (fun a ha => ha.trans (by (try simp only [Meta.upd, Meta.bad, Meta.off, Meta.well, Slot.good, Meta.least, Slot.least, Slot.yield, Slot.first, Meta.first, Meta.fresh, *, if_true, if_false, ↓reduceIte, Bool.false_eq_true]); first | rfl | (simp [Meta.sv, Slot.cells, b, i, Meta.upd, Meta.bad, Meta.off, Meta.well, Slot.good, Meta.least, Slot.least, Slot.yield, Slot.first, Meta.first, Meta.fresh, *]; done)))
            · skip
              exact Tr.endH [.yes, .run 2, .yes, .no, .yes, .no, .yes, .run 2, .no] (cs := [(_, true), (_, true), (_, false), (_, true), (_, false), (_, true), (_, false)]) (Prod.fst) (y := SV.agg   [SV.v (Value.bool m.s0.full), SV.v (Value.int IntKind.i64 m.s0.prio), SV.v (Value.int IntKind.i64 m.s0.tries),     SV.v (Value.bool m.s0.ok), SV.v (Value.int IntKind.i64 m.s0.ver), SV.v (Value.int IntKind.i64 m.s0.roll),     SV.v (Value.bool m.s1.full), SV.v (Value.int IntKind.i64 (14 : Int)), SV.v (Value.int IntKind.i64 m.s1.tries),     SV.v (Value.bool m.s1.ok), SV.v (Value.int IntKind.i64 m.s1.ver), SV.v (Value.int IntKind.i64 m.s1.roll),     SV.v (Value.int IntKind.i64 m.roll)]) (by kernel_rfl) ⟨g0, g1, g2, g12, g13, g18, g19, trivial⟩ (fun a ha => ha.trans (by (try simp only [Meta.upd, Meta.bad, Meta.off, Meta.well, Slot.good, Meta.least, Slot.least, Slot.yield, Slot.first, Meta.first, Meta.fresh, *, if_true, if_false, ↓reduceIte, Bool.false_eq_true]); first | rfl | (simp [Meta.sv, Slot.cells, b, i, Meta.upd, Meta.bad, Meta.off, Meta.well, Slot.good, Meta.least, Slot.least, Slot.yield, Slot.first, Meta.first, Meta.fresh, *]; done)))
          · skip
            exact Tr.endH [.yes, .run 2, .yes, .no, .yes, .no, .no, .run 3] (cs := [(_, true), (_, true), (_, false), (_, true), (_, false), (_, false)]) (Prod.fst) (y := SV.agg   [SV.v (Value.bool m.s0.full), SV.v (Value.int IntKind.i64 m.s0.prio), SV.v (Value.int IntKind.i64 m.s0.tries),     SV.v (Value.bool m.s0.ok), SV.v (Value.int IntKind.i64 m.s0.ver), SV.v (Value.int IntKind.i64 m.s0.roll),     SV.v (Value.bool m.s1.full), SV.v (Value.int IntKind.i64 (14 : Int)), SV.v (Value.int IntKind.i64 m.s1.tries),     SV.v (Value.bool m.s1.ok), SV.v (Value.int IntKind.i64 m.s1.ver), SV.v (Value.int IntKind.i64 m.s1.roll),     SV.v (Value.int IntKind.i64 m.roll)]) (by kernel_rfl) ⟨g0, g1, g2, g12, g13, g18, trivial⟩ (fun a ha => ha.trans (by (try simp only [Meta.upd, Meta.bad, Meta.off, Meta.well, Slot.good, Meta.least, Slot.least, Slot.yield, Slot.first, Meta.first, Meta.fresh, *, if_true, if_false, ↓reduceIte, Bool.false_eq_true]); first | rfl | (simp [Meta.sv, Slot.cells, b, i, Meta.upd, Meta.bad, Meta.off, Meta.well, Slot.good, Meta.least, Slot.least, Slot.yield, Slot.first, Meta.first, Meta.fresh, *]; done)))
    · skip
      rcases Bool.eq_false_or_eq_true (decide (k ≥ (0 : Int))) with g22 | g22
      · skip
        rcases Bool.eq_false_or_eq_true (decide (k < (2 : Int))) with g23 | g23
        · skip
          rcases Bool.eq_false_or_eq_true (decide (k = (0 : Int))) with g24 | g24
          · skip
            exact Tr.endH [.yes, .run 2, .no, .yes, .run 2, .yes, .yes] (cs := [(_, true), (_, false), (_, true), (_, true), (_, true)]) (Prod.fst) (y := SV.agg   [SV.v (Value.bool true), SV.v (Value.int IntKind.i64 (15 : Int)),     SV.v       (Value.int IntKind.i64         (if (if (7 : Int) < t then (7 : Int) else t) > (1 : Int) then if (7 : Int) < t then (7 : Int) else t         else (1 : Int))),     SV.v (Value.bool false), SV.v (Value.int IntKind.i64 v), SV.v (Value.int IntKind.i64 n),     SV.v (Value.bool m.s1.full), SV.v (Value.int IntKind.i64 m.s1.prio), SV.v (Value.int IntKind.i64 m.s1.tries),     SV.v (Value.bool m.s1.ok), SV.v (Value.int IntKind.i64 m.s1.ver), SV.v (Value.int IntKind.i64 m.s1.roll),     SV.v (Value.int IntKind.i64 m.roll)]) (by kernel_rfl) ⟨g0, g1, g22, g23, g24, trivial⟩ (fun a ha => ha.trans (by (try simp only [Meta.upd, Meta.bad, Meta.off, Meta.well, Slot.good, Meta.least, Slot.least, Slot.yield, Slot.first, Meta.first, Meta.fresh, *, if_true, if_false, ↓reduceIte, Bool.false_eq_true]); first | rfl | (simp [Meta.sv, Slot.cells, b, i, Meta.upd, Meta.bad, Meta.off, Meta.well, Slot.good, Meta.least, Slot.least, Slot.yield, Slot.first, Meta.first, Meta.fresh, *]; done)))
          · skip
            have g25 : (decide (k = (1 : Int))) = true := by (first | (simp_all; done) | (simp only [decide_eq_true_eq, decide_eq_false_iff_not, beq_iff_eq, beq_eq_false_iff_ne, ne_eq, bne_iff_ne, Bool.not_eq_true', Bool.not_eq_false', ge_iff_le, gt_iff_lt] at *; omega))
            exact Tr.endH [.yes, .run 2, .no, .yes, .run 2, .yes, .no, .yes] (cs := [(_, true), (_, false), (_, true), (_, true), (_, false), (_, true)]) (Prod.fst) (y := SV.agg   [SV.v (Value.bool m.s0.full), SV.v (Value.int IntKind.i64 m.s0.prio), SV.v (Value.int IntKind.i64 m.s0.tries),     SV.v (Value.bool m.s0.ok), SV.v (Value.int IntKind.i64 m.s0.ver), SV.v (Value.int IntKind.i64 m.s0.roll),     SV.v (Value.bool true), SV.v (Value.int IntKind.i64 (15 : Int)),     SV.v       (Value.int IntKind.i64         (if (if (7 : Int) < t then (7 : Int) else t) > (1 : Int) then if (7 : Int) < t then (7 : Int) else t         else (1 : Int))),     SV.v (Value.bool false), SV.v (Value.int IntKind.i64 v), SV.v (Value.int IntKind.i64 n),     SV.v (Value.int IntKind.i64 m.roll)]) (by kernel_rfl) ⟨g0, g1, g22, g23, g24, g25, trivial⟩ (fun a ha => ha.trans (by (try simp only [Meta.upd, Meta.bad, Meta.off, Meta.well, Slot.good, Meta.least, Slot.least, Slot.yield, Slot.first, Meta.first, Meta.fresh, *, if_true, if_false, ↓reduceIte, Bool.false_eq_true]); first | rfl | (simp [Meta.sv, Slot.cells, b, i, Meta.upd, Meta.bad, Meta.off, Meta.well, Slot.good, Meta.least, Slot.least, Slot.yield, Slot.first, Meta.first, Meta.fresh, *]; done)))
        · skip
          exact Tr.endH [.yes, .run 2, .no, .yes, .run 2, .no] (cs := [(_, true), (_, false), (_, true), (_, false)]) (Prod.fst) (y := SV.agg   [SV.v (Value.bool m.s0.full), SV.v (Value.int IntKind.i64 m.s0.prio), SV.v (Value.int IntKind.i64 m.s0.tries),     SV.v (Value.bool m.s0.ok), SV.v (Value.int IntKind.i64 m.s0.ver), SV.v (Value.int IntKind.i64 m.s0.roll),     SV.v (Value.bool m.s1.full), SV.v (Value.int IntKind.i64 m.s1.prio), SV.v (Value.int IntKind.i64 m.s1.tries),     SV.v (Value.bool m.s1.ok), SV.v (Value.int IntKind.i64 m.s1.ver), SV.v (Value.int IntKind.i64 m.s1.roll),     SV.v (Value.int IntKind.i64 m.roll)]) (by kernel_rfl) ⟨g0, g1, g22, g23, trivial⟩ (fun a ha => ha.trans (by (try simp only [Meta.upd, Meta.bad, Meta.off, Meta.well, Slot.good, Meta.least, Slot.least, Slot.yield, Slot.first, Meta.first, Meta.fresh, *, if_true, if_false, ↓reduceIte, Bool.false_eq_true]); first | rfl | (simp [Meta.sv, Slot.cells, b, i, Meta.upd, Meta.bad, Meta.off, Meta.well, Slot.good, Meta.least, Slot.least, Slot.yield, Slot.first, Meta.first, Meta.fresh, *]; done)))
      · skip
        exact Tr.endH [.yes, .run 2, .no, .no, .run 3] (cs := [(_, true), (_, false), (_, false)]) (Prod.fst) (y := SV.agg   [SV.v (Value.bool m.s0.full), SV.v (Value.int IntKind.i64 m.s0.prio), SV.v (Value.int IntKind.i64 m.s0.tries),     SV.v (Value.bool m.s0.ok), SV.v (Value.int IntKind.i64 m.s0.ver), SV.v (Value.int IntKind.i64 m.s0.roll),     SV.v (Value.bool m.s1.full), SV.v (Value.int IntKind.i64 m.s1.prio), SV.v (Value.int IntKind.i64 m.s1.tries),     SV.v (Value.bool m.s1.ok), SV.v (Value.int IntKind.i64 m.s1.ver), SV.v (Value.int IntKind.i64 m.s1.roll),     SV.v (Value.int IntKind.i64 m.roll)]) (by kernel_rfl) ⟨g0, g1, g22, trivial⟩ (fun a ha => ha.trans (by (try simp only [Meta.upd, Meta.bad, Meta.off, Meta.well, Slot.good, Meta.least, Slot.least, Slot.yield, Slot.first, Meta.first, Meta.fresh, *, if_true, if_false, ↓reduceIte, Bool.false_eq_true]); first | rfl | (simp [Meta.sv, Slot.cells, b, i, Meta.upd, Meta.bad, Meta.off, Meta.well, Slot.good, Meta.least, Slot.least, Slot.yield, Slot.first, Meta.first, Meta.fresh, *]; done)))
  · skip
    rcases Bool.eq_false_or_eq_true (decide (k ≥ (0 : Int))) with g26 | g26
    · skip
      rcases Bool.eq_false_or_eq_true (decide (k < (2 : Int))) with g27 | g27
      · skip
        rcases Bool.eq_false_or_eq_true (decide (k = (0 : Int))) with g28 | g28
        · skip
          exact Tr.endH [.no, .run 3, .yes, .run 2, .yes, .yes] (cs := [(_, false), (_, true), (_, true), (_, true)]) (Prod.fst) (y := SV.agg   [SV.v (Value.bool true), SV.v (Value.int IntKind.i64 (15 : Int)),     SV.v       (Value.int IntKind.i64         (if (if (7 : Int) < t then (7 : Int) else t) > (1 : Int) then if (7 : Int) < t then (7 : Int) else t         else (1 : Int))),     SV.v (Value.bool false), SV.v (Value.int IntKind.i64 v), SV.v (Value.int IntKind.i64 n),     SV.v (Value.bool m.s1.full), SV.v (Value.int IntKind.i64 m.s1.prio), SV.v (Value.int IntKind.i64 m.s1.tries),     SV.v (Value.bool m.s1.ok), SV.v (Value.int IntKind.i64 m.s1.ver), SV.v (Value.int IntKind.i64 m.s1.roll),     SV.v (Value.int IntKind.i64 m.roll)]) (by kernel_rfl) ⟨g0, g26, g27, g28, trivial⟩ (fun a ha => ha.trans (by (try simp only [Meta.upd, Meta.bad, Meta.off, Meta.well, Slot.good, Meta.least, Slot.least, Slot.yield, Slot.first, Meta.first, Meta.fresh, *, if_true, if_false, ↓reduceIte, Bool.false_eq_true]); first | rfl | (simp [Meta.sv, Slot.cells, b, i, Meta.upd, Meta.bad, Meta.off, Meta.well, Slot.good, Meta.least, Slot.least, Slot.yield, Slot.first, Meta.first, Meta.fresh, *]; done)))
        · skip
          have g29 : (decide (k = (1 : Int))) = true := by (first | (simp_all; done) | (simp only [decide_eq_true_eq, decide_eq_false_iff_not, beq_iff_eq, beq_eq_false_iff_ne, ne_eq, bne_iff_ne, Bool.not_eq_true', Bool.not_eq_false', ge_iff_le, gt_iff_lt] at *; omega))
          exact Tr.endH [.no, .run 3, .yes, .run 2, .yes, .no, .yes] (cs := [(_, false), (_, true), (_, true), (_, false), (_, true)]) (Prod.fst) (y := SV.agg   [SV.v (Value.bool m.s0.full), SV.v (Value.int IntKind.i64 m.s0.prio), SV.v (Value.int IntKind.i64 m.s0.tries),     SV.v (Value.bool m.s0.ok), SV.v (Value.int IntKind.i64 m.s0.ver), SV.v (Value.int IntKind.i64 m.s0.roll),     SV.v (Value.bool true), SV.v (Value.int IntKind.i64 (15 : Int)),     SV.v       (Value.int IntKind.i64         (if (if (7 : Int) < t then (7 : Int) else t) > (1 : Int) then if (7 : Int) < t then (7 : Int) else t         else (1 : Int))),     SV.v (Value.bool false), SV.v (Value.int IntKind.i64 v), SV.v (Value.int IntKind.i64 n),     SV.v (Value.int IntKind.i64 m.roll)]) (by kernel_rfl) ⟨g0, g26, g27, g28, g29, trivial⟩ (fun a ha => ha.trans (by (try simp only [Meta.upd, Meta.bad, Meta.off, Meta.well, Slot.good, Meta.least, Slot.least, Slot.yield, Slot.first, Meta.first, Meta.fresh, *, if_true, if_false, ↓reduceIte, Bool.false_eq_true]); first | rfl | (simp [Meta.sv, Slot.cells, b, i, Meta.upd, Meta.bad, Meta.off, Meta.well, Slot.good, Meta.least, Slot.least, Slot.yield, Slot.first, Meta.first, Meta.fresh, *]; done)))
      · skip
        exact Tr.endH [.no, .run 3, .yes, .run 2, .no] (cs := [(_, false), (_, true), (_, false)]) (Prod.fst) (y := SV.agg   [SV.v (Value.bool m.s0.full), SV.v (Value.int IntKind.i64 m.s0.prio), SV.v (Value.int IntKind.i64 m.s0.tries),     SV.v (Value.bool m.s0.ok), SV.v (Value.int IntKind.i64 m.s0.ver), SV.v (Value.int IntKind.i64 m.s0.roll),     SV.v (Value.bool m.s1.full), SV.v (Value.int IntKind.i64 m.s1.prio), SV.v (Value.int IntKind.i64 m.s1.tries),     SV.v (Value.bool m.s1.ok), SV.v (Value.int IntKind.i64 m.s1.ver), SV.v (Value.int IntKind.i64 m.s1.roll),     SV.v (Value.int IntKind.i64 m.roll)]) (by kernel_rfl) ⟨g0, g26, g27, trivial⟩ (fun a ha => ha.trans (by (try simp only [Meta.upd, Meta.bad, Meta.off, Meta.well, Slot.good, Meta.least, Slot.least, Slot.yield, Slot.first, Meta.first, Meta.fresh, *, if_true, if_false, ↓reduceIte, Bool.false_eq_true]); first | rfl | (simp [Meta.sv, Slot.cells, b, i, Meta.upd, Meta.bad, Meta.off, Meta.well, Slot.good, Meta.least, Slot.least, Slot.yield, Slot.first, Meta.first, Meta.fresh, *]; done)))
    · skip
      exact Tr.endH [.no, .run 3, .no, .run 3] (cs := [(_, false), (_, false)]) (Prod.fst) (y := SV.agg   [SV.v (Value.bool m.s0.full), SV.v (Value.int IntKind.i64 m.s0.prio), SV.v (Value.int IntKind.i64 m.s0.tries),     SV.v (Value.bool m.s0.ok), SV.v (Value.int IntKind.i64 m.s0.ver), SV.v (Value.int IntKind.i64 m.s0.roll),     SV.v (Value.bool m.s1.full), SV.v (Value.int IntKind.i64 m.s1.prio), SV.v (Value.int IntKind.i64 m.s1.tries),     SV.v (Value.bool m.s1.ok), SV.v (Value.int IntKind.i64 m.s1.ver), SV.v (Value.int IntKind.i64 m.s1.roll),     SV.v (Value.int IntKind.i64 m.roll)]) (by kernel_rfl) ⟨g0, g26, trivial⟩ (fun a ha => ha.trans (by (try simp only [Meta.upd, Meta.bad, Meta.off, Meta.well, Slot.good, Meta.least, Slot.least, Slot.yield, Slot.first, Meta.first, Meta.fresh, *, if_true, if_false, ↓reduceIte, Bool.false_eq_true]); first | rfl | (simp [Meta.sv, Slot.cells, b, i, Meta.upd, Meta.bad, Meta.off, Meta.well, Slot.good, Meta.least, Slot.least, Slot.yield, Slot.first, Meta.first, Meta.fresh, *]; done)))
def freshF : List SV → Option SV := fun args => match args with | [x, .v (.int .i64 k), .v (.int .i64 t), .v (.int .i64 v), .v (.int .i64 n)] => (metaOf x).map fun m => (m.fresh k t v n).sv | _ => none
def eFresh : Entry := pureE 28 freshF
theorem fresh_ok : EntryOK Try.prog eFresh :=
  pureE_ok hng hmix (l := []) (cut := noCut) (wr := noWr) (by simp) 400 28 Try.func28 rfl (by simp) (by
    intro args s h
    unfold freshF at h
    split at h
    · rename_i x k t v n
      obtain ⟨m, hm, rfl⟩ := Option.map_eq_some_iff.1 h
      have e := metaOf_some hm
      subst e
      exact ⟨rfl, rfl, (fresh_tree m k t v n).out⟩
    · cases h)
theorem awake_tree : (callX Try.prog (Env.of [] noCut noWr) 400 8 [] [] fin).Holds fun r => r.1 = b true := by
  refine Tr.needH [.run 27] (cs := []) (p := True ∧ True ∧ (1 : Nat) ≤ (9223372036854775807 : Nat) ∧ (8 : Nat) ≤ (140737488355328 : Nat)) (by kernel_rfl) trivial (by (repeat' apply And.intro) <;> first | trivial | omega | (simp at *; omega)) ?_
  refine Tr.needH [.run 28] (cs := []) (p := (0 : Int) ≤ (0 : Int) ∧ (0 : Int) < (1 : Int)) (by kernel_rfl) trivial (by (repeat' apply And.intro) <;> first | trivial | omega | (simp at *; omega)) ?_
  refine Tr.needH [] (cs := []) (p := Int.toNat (0 : Int) < List.length ([] ++ [((0 : Int), ())])) (by kernel_rfl) trivial (by (repeat' apply And.intro) <;> first | trivial | omega | (simp at *; omega)) ?_
  refine Tr.needH [.run 78] (cs := []) (p := True ∧ True ∧ (1 : Nat) ≤ (9223372036854775807 : Nat) ∧ (8 : Nat) ≤ (140737488355328 : Nat)) (by kernel_rfl) trivial (by (repeat' apply And.intro) <;> first | trivial | omega | (simp at *; omega)) ?_
  refine Tr.needH [.run 27] (cs := []) (p := (1 : Nat) ≤ List.length ([] ++ [((0 : Int), ())]) ∧   True ∧ (2 : Nat) ≤ (9223372036854775807 : Nat) ∧ (16 : Nat) ≤ (140737488355328 : Nat)) (by kernel_rfl) trivial (by (repeat' apply And.intro) <;> first | trivial | omega | (simp at *; omega)) ?_
  refine Tr.needH [.run 4] (cs := []) (p := (0 : Int) ≤ (1 : Int) ∧ (1 : Int) < (2 : Int)) (by kernel_rfl) trivial (by (repeat' apply And.intro) <;> first | trivial | omega | (simp at *; omega)) ?_
  refine Tr.needH [] (cs := []) (p := Int.toNat (1 : Int) < List.length (List.take (1 : Nat) ([] ++ [((0 : Int), ())]) ++ [((1 : Int), ())])) (by kernel_rfl) trivial (by (repeat' apply And.intro) <;> first | trivial | omega | (simp at *; omega)) ?_
  refine Tr.needH [] (cs := []) (p := (0 : Int) ≤ (0 : Int) ∧ (0 : Int) < (2 : Int)) (by kernel_rfl) trivial (by (repeat' apply And.intro) <;> first | trivial | omega | (simp at *; omega)) ?_
  refine Tr.needH [] (cs := []) (p := Int.toNat (0 : Int) < List.length (List.take (1 : Nat) ([] ++ [((0 : Int), ())]) ++ [((1 : Int), ())])) (by kernel_rfl) trivial (by (repeat' apply And.intro) <;> first | trivial | omega | (simp at *; omega)) ?_
  refine Tr.needH [.run 10] (cs := []) (p := (0 : Int) ≤ (0 : Int) ∧ (0 : Int) < (2 : Int)) (by kernel_rfl) trivial (by (repeat' apply And.intro) <;> first | trivial | omega | (simp at *; omega)) ?_
  refine Tr.needH [] (cs := []) (p := (0 : Int) ≤ (1 : Int) ∧ (1 : Int) < (2 : Int)) (by kernel_rfl) trivial (by (repeat' apply And.intro) <;> first | trivial | omega | (simp at *; omega)) ?_
  refine Tr.alongH [] (cs := []) (by kernel_rfl) (by kernel_rfl) trivial (Tr.bothH ?_ ?_)
  · skip
    refine Tr.needH [] (cs := []) (p := Int.toNat (0 : Int) < List.length (List.take (1 : Nat) ([] ++ [((0 : Int), ())]) ++ [((1 : Int), ())])) (by kernel_rfl) trivial (by (repeat' apply And.intro) <;> first | trivial | omega | (simp at *; omega)) ?_
    refine Tr.needH [.run 1] (cs := []) (p := Int.toNat (1 : Int) < List.length (List.take (1 : Nat) ([] ++ [((0 : Int), ())]) ++ [((1 : Int), ())])) (by kernel_rfl) trivial (by (repeat' apply And.intro) <;> first | trivial | omega | (simp at *; omega)) ?_
    refine Tr.needH [.run 1] (cs := []) (p := (0 : Int) ≤ (1 : Int) ∧ (1 : Int) < (2 : Int)) (by kernel_rfl) trivial (by (repeat' apply And.intro) <;> first | trivial | omega | (simp at *; omega)) ?_
    refine Tr.needH [] (cs := []) (p := Int.toNat (1 : Int) < List.length (List.take (1 : Nat) ([] ++ [((0 : Int), ())]) ++ [((1 : Int), ())])) (by kernel_rfl) trivial (by (repeat' apply And.intro) <;> first | trivial | omega | (simp at *; omega)) ?_
    refine Tr.needH [.run 1] (cs := []) (p := (0 : Int) ≤ (0 : Int) ∧ (0 : Int) < (2 : Int)) (by kernel_rfl) trivial (by (repeat' apply And.intro) <;> first | trivial | omega | (simp at *; omega)) ?_
    refine Tr.needH [] (cs := []) (p := Int.toNat (0 : Int) <   List.length     (List.set (List.take (1 : Nat) ([] ++ [((0 : Int), ())]) ++ [((1 : Int), ())]) (Int.toNat (1 : Int))       ((0 : Int), ()))) (by kernel_rfl) trivial (by (repeat' apply And.intro) <;> first | trivial | omega | (simp at *; omega)) ?_
    refine Tr.needH [.run 7] (cs := []) (p := (0 : Int) ≤ (0 : Int) ∧ (0 : Int) < (2 : Int)) (by kernel_rfl) trivial (by (repeat' apply And.intro) <;> first | trivial | omega | (simp at *; omega)) ?_
    refine Tr.needH [] (cs := []) (p := Int.toNat (0 : Int) <   List.length     (List.set       (List.set (List.take (1 : Nat) ([] ++ [((0 : Int), ())]) ++ [((1 : Int), ())]) (Int.toNat (1 : Int))         ((0 : Int), ()))       (Int.toNat (0 : Int)) ((1 : Int), ()))) (by kernel_rfl) trivial (by (repeat' apply And.intro) <;> first | trivial | omega | (simp at *; omega)) ?_
    refine Tr.needH [.run 52] (cs := []) (p := True ∧ True ∧ (1 : Nat) ≤ (9223372036854775807 : Nat) ∧ (8 : Nat) ≤ (140737488355328 : Nat)) (by kernel_rfl) trivial (by (repeat' apply And.intro) <;> first | trivial | omega | (simp at *; omega)) ?_
    refine Tr.needH [.run 28] (cs := []) (p := (0 : Int) ≤ (0 : Int) ∧ (0 : Int) < (1 : Int)) (by kernel_rfl) trivial (by (repeat' apply And.intro) <;> first | trivial | omega | (simp at *; omega)) ?_
    refine Tr.needH [] (cs := []) (p := Int.toNat (0 : Int) < List.length ([] ++ [((0 : Int), ())])) (by kernel_rfl) trivial (by (repeat' apply And.intro) <;> first | trivial | omega | (simp at *; omega)) ?_
    exact Tr.endH [.run 142] (cs := []) (Prod.fst) (y := SV.v (Value.bool true)) (by kernel_rfl) trivial (fun a ha => ha.trans rfl)
  · skip
    refine Tr.needH [] (cs := []) (p := Int.toNat (1 : Int) < List.length (List.take (1 : Nat) ([] ++ [((0 : Int), ())]) ++ [((1 : Int), ())])) (by kernel_rfl) trivial (by (repeat' apply And.intro) <;> first | trivial | omega | (simp at *; omega)) ?_
    refine Tr.needH [.run 1] (cs := []) (p := Int.toNat (0 : Int) < List.length (List.take (1 : Nat) ([] ++ [((0 : Int), ())]) ++ [((1 : Int), ())])) (by kernel_rfl) trivial (by (repeat' apply And.intro) <;> first | trivial | omega | (simp at *; omega)) ?_
    refine Tr.needH [.run 1] (cs := []) (p := (0 : Int) ≤ (1 : Int) ∧ (1 : Int) < (2 : Int)) (by kernel_rfl) trivial (by (repeat' apply And.intro) <;> first | trivial | omega | (simp at *; omega)) ?_
    refine Tr.needH [] (cs := []) (p := Int.toNat (1 : Int) < List.length (List.take (1 : Nat) ([] ++ [((0 : Int), ())]) ++ [((1 : Int), ())])) (by kernel_rfl) trivial (by (repeat' apply And.intro) <;> first | trivial | omega | (simp at *; omega)) ?_
    refine Tr.needH [.run 1] (cs := []) (p := (0 : Int) ≤ (0 : Int) ∧ (0 : Int) < (2 : Int)) (by kernel_rfl) trivial (by (repeat' apply And.intro) <;> first | trivial | omega | (simp at *; omega)) ?_
    refine Tr.needH [] (cs := []) (p := Int.toNat (0 : Int) <   List.length     (List.set (List.take (1 : Nat) ([] ++ [((0 : Int), ())]) ++ [((1 : Int), ())]) (Int.toNat (1 : Int))       ((0 : Int), ()))) (by kernel_rfl) trivial (by (repeat' apply And.intro) <;> first | trivial | omega | (simp at *; omega)) ?_
    refine Tr.needH [.run 7] (cs := []) (p := (0 : Int) ≤ (0 : Int) ∧ (0 : Int) < (2 : Int)) (by kernel_rfl) trivial (by (repeat' apply And.intro) <;> first | trivial | omega | (simp at *; omega)) ?_
    refine Tr.needH [] (cs := []) (p := Int.toNat (0 : Int) <   List.length     (List.set       (List.set (List.take (1 : Nat) ([] ++ [((0 : Int), ())]) ++ [((1 : Int), ())]) (Int.toNat (1 : Int))         ((0 : Int), ()))       (Int.toNat (0 : Int)) ((1 : Int), ()))) (by kernel_rfl) trivial (by (repeat' apply And.intro) <;> first | trivial | omega | (simp at *; omega)) ?_
    refine Tr.needH [.run 52] (cs := []) (p := True ∧ True ∧ (1 : Nat) ≤ (9223372036854775807 : Nat) ∧ (8 : Nat) ≤ (140737488355328 : Nat)) (by kernel_rfl) trivial (by (repeat' apply And.intro) <;> first | trivial | omega | (simp at *; omega)) ?_
    refine Tr.needH [.run 28] (cs := []) (p := (0 : Int) ≤ (0 : Int) ∧ (0 : Int) < (1 : Int)) (by kernel_rfl) trivial (by (repeat' apply And.intro) <;> first | trivial | omega | (simp at *; omega)) ?_
    refine Tr.needH [] (cs := []) (p := Int.toNat (0 : Int) < List.length ([] ++ [((0 : Int), ())])) (by kernel_rfl) trivial (by (repeat' apply And.intro) <;> first | trivial | omega | (simp at *; omega)) ?_
    exact Tr.endH [.run 142] (cs := []) (Prod.fst) (y := SV.v (Value.bool true)) (by kernel_rfl) trivial (fun a ha => ha.trans rfl)
def awakeF : List SV → Option SV := fun args => match args with | [] => some (b true) | _ => none
def eAwake : Entry := pureE 8 awakeF
theorem awake_ok : EntryOK Try.prog eAwake :=
  pureE_ok hng hmix (l := []) (cut := noCut) (wr := noWr) (by simp) 400 8 Try.func8 rfl (by simp) (by
    intro args s h
    unfold awakeF at h
    split at h
    · cases h; exact ⟨rfl, rfl, awake_tree.out⟩
    · cases h)
def chooseI : List SV → Option Int := fun args => match args with | [x] => (metaOf x).map fun m => m.choose | _ => none
def targetI : List SV → Option Int := fun args => match args with | [x, y] => (metaOf x).bind fun m => (intOf' y).map fun k => m.target k | _ => none
theorem chooseI_map : (fun args => (chooseI args).map i) = chooseF := by
  funext args; unfold chooseI chooseF; split <;> simp [Function.comp_def]
theorem targetI_map : (fun args => (targetI args).map i) = targetF := by
  funext args; unfold targetI targetF; split <;> simp [Function.comp_def, Option.map_bind]
theorem chooseI_in (args : List SV) (v : Int) (h : chooseI args = some v) : v ∈ ([0, 1, -1] : List Int) := by
  unfold chooseI at h
  split at h
  · obtain ⟨m, _, rfl⟩ := Option.map_eq_some_iff.1 h; exact choose_in m
  · cases h
theorem targetI_in (args : List SV) (v : Int) (h : targetI args = some v) : v ∈ ([0, 1] : List Int) := by
  unfold targetI at h
  split at h
  · obtain ⟨m, _, h⟩ := Option.bind_eq_some_iff.1 h
    obtain ⟨k, _, rfl⟩ := Option.map_eq_some_iff.1 h
    exact target_in m k
  · cases h
def eChoose : Entry := pickE 12 chooseI [0, 1, -1]
def eRChoose : Entry := pickE 7 chooseI [0, 1, -1]
def eTarget : Entry := pickE 27 targetI [0, 1]
theorem pickChoose_ok : EntryOK Try.prog eChoose := pickE_ok (by rw [chooseI_map]; exact choose_ok) chooseI_in
theorem pickRChoose_ok : EntryOK Try.prog eRChoose := pickE_ok (by rw [chooseI_map]; exact rChoose_ok) chooseI_in
theorem pickTarget_ok : EntryOK Try.prog eTarget := pickE_ok (by rw [targetI_map]; exact target_ok) targetI_in
end Go.Proofs.Ytkidiijpbfgnnaa
