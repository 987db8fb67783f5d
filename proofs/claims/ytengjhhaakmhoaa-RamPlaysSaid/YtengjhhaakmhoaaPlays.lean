/-
  Whatever is laid, read and cleared, the memory is the document's (postilionlaw07.RamPlays): for every input the law returns true.
-/
import Derived.Test.YtengjhhaakmhoaaPlaysO
import Derived.Test.YtengjhhaakmhoaaPlaysN
import Derived.Test.YtengjhhaakmhoaaPlaysOC
import Derived.Test.YtengjhhaakmhoaaPlaysNC
set_option linter.unusedVariables false
set_option linter.unusedSimpArgs false
namespace Go.Proofs.Ytengjhhaakmhoaa
open Sx
set_option maxRecDepth 100000
set_option maxHeartbeats 4000000
theorem pl_loop (l : List (RowT actK)) (ask : List (RowT spanK)) (hlen : l.length ≤ 20) (hask : ask.length ≤ 8) (hw : ∀ r ∈ l, RowWF actK r) (hok : okSpans ask) : LoopFrom Try.prog (loopOf Try.prog 4 6) 7 (pS l ask (PX.old ⟨0, zeros, [], []⟩)) PY (pP l) (pO l ask) :=
  loopFromH hng hmix (Γ := plEnv) (EnvOK.of plEntries_ok) 400 4 (PI l) (pS l ask) (fun x => l.length - x.z.j) 7 (PX.old ⟨0, zeros, [], []⟩) ⟨Nat.zero_le _, Nat.le_refl _, RI.zero⟩ fun x hx => by
    have hj := hx.j
    have hf := hx.few
    have hg := hx.good
    have ha : -9223372036854775808 ≤ ((List.getD l x.z.j (RowT.dflt actK)).2.1 : Int) ∧ ((List.getD l x.z.j (RowT.dflt actK)).2.1 : Int) ≤ 9223372036854775807 := by
      by_cases hj : x.z.j < l.length
      · have h := (hw _ (List.mem_of_getElem? (getD_some hj))).2.1
        simp [CK.wf, Lit.wf, IntKind.min, IntKind.max, IntKind.signed, IntKind.bits] at h
        exact h
      · rw [List.getD_eq_getElem?_getD, List.getElem?_eq_none (by omega)]
        exact ⟨by decide, by decide⟩
    have hwr := wrapSucc (n := x.z.j) (by omega)
    have hrp := hg.pre (by omega)
    have hrd := hg.read (List.getD l x.z.j (RowT.dflt actK)).2.1 (List.getD l x.z.j (RowT.dflt actK)).2.2.1
    have hl := hg.length
    have hS := hg.len
    by_cases hk : ((List.getD l x.z.j (RowT.dflt actK)).1 : Int) = 3
    · cases x with
      | old z => exact p_OC l ask z.j z.all z.sp z.S _ _ _ _ hj hlen hask hok hl (by simp only [PX.z] at *; omega) hS rfl rfl rfl rfl ha.1 ha.2 hrp hrd hwr hk (fun _ h => ⟨h, Nat.zero_le _, RI.zero⟩) (fun h => by have e : l.length = z.j := Nat.le_antisymm h hj; rw [e]; exact hx)
      | new z => exact p_NC l ask z.j z.all z.sp z.S _ _ _ _ hj hlen hask hok hl (by simp only [PX.z] at *; omega) hS rfl rfl rfl rfl ha.1 ha.2 hrp hrd hwr hk (fun _ h => ⟨h, Nat.zero_le _, RI.zero⟩) (fun h => by have e : l.length = z.j := Nat.le_antisymm h hj; rw [e]; exact hx)
    · cases x with
      | old z => exact p_O l ask z.j z.all z.sp z.S _ _ _ _ hj hlen hask hok hl (by simp only [PX.z] at *; omega) hS rfl rfl rfl rfl ha.1 ha.2 hrp hrd hwr hk (fun hs h => by obtain ⟨q1, q2, q3⟩ := PI.step hg hf (List.getD l z.j (RowT.dflt actK)).1 (a := (List.getD l z.j (RowT.dflt actK)).2.1) hs h; exact ⟨q1, q2, q3⟩) (fun h => by have e : l.length = z.j := Nat.le_antisymm h hj; rw [e]; exact hx)
      | new z => exact p_N l ask z.j z.all z.sp z.S _ _ _ _ hj hlen hask hok hl (by simp only [PX.z] at *; omega) hS rfl rfl rfl rfl ha.1 ha.2 hrp hrd hwr hk (fun hs h => by obtain ⟨q1, q2, q3⟩ := PI.step hg hf (List.getD l z.j (RowT.dflt actK)).1 (a := (List.getD l z.j (RowT.dflt actK)).2.1) hs h; exact ⟨q1, q2, q3⟩) (fun h => by have e : l.length = z.j := Nat.le_antisymm h hj; rw [e]; exact hx)
def plEnvC : Env := Env.of plEntries (fun f q => f == 4 && q == 6) plWr
theorem pl_full (l : List (RowT actK)) (ask : List (RowT spanK)) (hw : ∀ r ∈ l, RowWF actK r) (hok : okSpans ask) : (callX Try.prog plEnvC 400 4 [.oslc 0 4 0 l.length, .oslc 1 2 0 ask.length] [⟨false, .rows actK l⟩, ⟨false, .rows spanK ask⟩] fin).Holds fun r => r.1 = b true := by
  rcases Bool.eq_false_or_eq_true (decide ((↑(List.length l) : Int) > (20 : Int))) with g0 | g0
  · skip
    exact Tr.endH [.yes, .run 4] (cs := [(_, true)]) (Prod.fst) (y := SV.v (Value.bool true)) (by kernel_rfl) ⟨g0, trivial⟩ (fun a ha => ha)
  · skip
    rcases Bool.eq_false_or_eq_true (decide ((↑(List.length ask) : Int) > (8 : Int))) with g1 | g1
    · skip
      exact Tr.endH [.no, .run 3, .yes] (cs := [(_, false), (_, true)]) (Prod.fst) (y := SV.v (Value.bool true)) (by kernel_rfl) ⟨g0, g1, trivial⟩ (fun a ha => ha)
    · skip
      refine Tr.loopH [.no, .run 3, .no] (cs := [(_, false), (_, false)]) (by kernel_rfl) ⟨g0, g1, trivial⟩ (b := loopOf Try.prog 4 6) (by kernel_rfl) (st1 := pS l ask (PX.old ⟨0, zeros, [], []⟩)) (by kernel_rfl) [0, 1, 2, 3, 4, 5, 6, 7, 8, 9, 10] (by kernel_rfl) (q := ((0 : Nat), (4 : Nat), (0 : Nat), List.length l) = ((0 : Nat), (4 : Nat), (0 : Nat), List.length l) ∧ ((1 : Nat), (2 : Nat), (0 : Nat), List.length ask) = ((1 : Nat), (2 : Nat), (0 : Nat), List.length ask) ∧ ((2 : Nat), (0 : Nat)) = ((2 : Nat), (0 : Nat)) ∧ ((4 : Nat), (0 : Nat)) = ((4 : Nat), (0 : Nat)) ∧ ((6 : Nat), (0 : Nat), (2 : Nat), (2 : Nat)) = ((6 : Nat), (0 : Nat), (2 : Nat), (2 : Nat)) ∧ Value.int IntKind.i64 (0 : Int) = Value.int IntKind.i64 (0 : Int) ∧ Body.rows actK l = Body.rows actK l ∧ false = false ∧ Body.rows spanK ask = Body.rows spanK ask ∧ false = false ∧ true = true ∧ ((3 : Nat), (1 : Nat), (0 : Nat), (65536 : Nat)) = ((3 : Nat), (1 : Nat), (0 : Nat), (65536 : Nat)) ∧ (none : Option Addr) = none ∧ ((0 : Nat), (0 : Nat)) = ((0 : Nat), (0 : Nat)) ∧ ((0 : Nat), (0 : Nat)) = ((0 : Nat), (0 : Nat)) ∧ Body.own (5 : TypeId) byteK (List.replicate (65536 : Nat) zeroB) = Body.own (5 : TypeId) byteK zeros ∧ true = true ∧ true = true ∧ (none : Option Addr) = none ∧ ((0 : Nat), (0 : Nat)) = ((0 : Nat), (0 : Nat)) ∧ ((0 : Nat), (0 : Nat)) = ((0 : Nat), (0 : Nat)) ∧ (none : Option Addr) = none ∧ ((0 : Nat), (0 : Nat)) = ((0 : Nat), (0 : Nat)) ∧ ((0 : Nat), (0 : Nat)) = ((0 : Nat), (0 : Nat)) ∧ true = true ∧ Value.slice none (0 : Nat) (0 : Nat) = Value.slice none (0 : Nat) (0 : Nat) ∧ Value.slice none (0 : Nat) (0 : Nat) = Value.slice none (0 : Nat) (0 : Nat) ∧ true = true ∧ Value.pointer none = Value.pointer none ∧ ((5 : Nat), (0 : Nat)) = ((5 : Nat), (0 : Nat)) ∧ [] = nilRows spanK ∧ [] = nilRows spanK ∧ [] = nilRows strK ∧ True) (by kernel_rfl) (by (repeat' apply And.intro) <;> first | rfl | exact True.intro | (simp; done)) (pl_loop l ask (by simp at *; omega) (by simp at *; omega) hw hok) ?_
      intro y2 hy2
      rcases y2 with (z | z) | _
      · skip
        exact Tr.endH [] (cs := []) (Prod.fst) (y := SV.v (Value.bool true)) (by kernel_rfl) trivial (fun a ha => ha)
      · skip
        exact Tr.endH [] (cs := []) (Prod.fst) (y := SV.v (Value.bool true)) (by kernel_rfl) trivial (fun a ha => ha)
      · skip
        exact Tr.endH [] (cs := []) (Prod.fst) (y := SV.v (Value.bool true)) (by kernel_rfl) trivial (fun a ha => ha)
theorem look {ks : List CK} {W : World} {a : Option Addr} {len cap : Nat} (h : Sx.RowsIn ks W a len cap) : ∃ (l : List (RowT ks)) (r : Sx.Place), len = l.length ∧ (∀ x ∈ l, RowWF ks x) ∧ RowsOK W false r ks l ∧ (0 < l.length → r.1 < W.heap.size) ∧ ∀ (ρ : Sx.Loc) (j : Nat), ρ j = some r → Rel ρ (.oslc j ks.length 0 l.length) (.slice a len cap) := by
  rcases h.list with ⟨rfl, rfl⟩ | ⟨bl, o, l, rfl, rfl, h1, h2, h3, h4, h5⟩
  · refine ⟨[], ⟨0, 0, a, 0⟩, rfl, by simp, fun k x hk => by simp at hk, fun h => absurd h (Nat.lt_irrefl _), fun ρ j hj => ?_⟩
    simp only [Rel]
    exact ⟨_, hj, by simp, fun h => absurd h (Nat.lt_irrefl _)⟩
  · refine ⟨l, ⟨bl, o, some ⟨bl, o, none⟩, cap⟩, rfl, h4, h5, fun _ => h3, fun ρ j hj => ?_⟩
    simp only [Rel]
    refine ⟨_, hj, ?_, fun _ => ⟨rfl, by show 0 + l.length ≤ cap; omega⟩⟩
    by_cases hc : cap = 0 <;> simp [hc, Addr.add]
theorem look2 {W : World} {X : Nat → Prop} {k1 k2 : List CK} {l1 : List (RowT k1)} {l2 : List (RowT k2)} {r1 r2 : Sx.Place} (h1 : RowsOK W false r1 k1 l1) (g1 : 0 < l1.length → r1.1 < W.heap.size) (h2 : RowsOK W false r2 k2 l2) (g2 : 0 < l2.length → r2.1 < W.heap.size) : MemOK (fun i => ([r1, r2] : List Sx.Place)[i]?) W X [⟨false, .rows k1 l1⟩, ⟨false, .rows k2 l2⟩] W := by
  refine ⟨fun i c hi => ?_, fun i hi => by simp at hi ⊢; omega, fun i j bi bj ri rj _ hbi _ hrw => ?_⟩
  · match i, hi with
    | 0, hi => simp at hi; subst hi; exact ⟨r1, rfl, h1, fun h => ⟨g1 h, fun e => by cases e⟩⟩
    | 1, hi => simp at hi; subst hi; exact ⟨r2, rfl, h2, fun h => ⟨g2 h, fun e => by cases e⟩⟩
    | i + 2, hi => simp at hi
  · match i, hbi with
    | 0, hbi => simp at hbi; subst hbi; cases hrw
    | 1, hbi => simp at hbi; subst hbi; cases hrw
    | i + 2, hbi => simp at hbi
theorem ramPlays_walk (W : World) (a : Option Addr) (len cap : Nat) (h : Sx.RowsIn actK W a len cap) (a2 : Option Addr) (len2 cap2 : Nat) (h2 : Sx.RowsIn spanK W a2 len2 cap2) : Calls Try.prog 4 #[.slice a len cap, .slice a2 len2 cap2] W fun e w' => e = .returned (.bool true) ∧ RowKit.Below W.heap.size W w' := by
  have hno : ∀ e ∈ plEntries, e.1 ≠ 4 := by simp [plEntries, awakeE, eNew, eLoadN, eReadN, eSpansN, eCheck, eCheck0, eClearN, eXCheck, eXCheck0, eXLoad, eXLoad0, eXRead, eXRead0, eSame, eMeet, altE, pureE, padE, frameE, toldE]
  obtain ⟨l, r, rfl, hw, h3, h4, h5⟩ := look h
  obtain ⟨ask, r2, rfl, hw2, k3, k4, k5⟩ := look h2
  refine law_calls hng hmix (Γ := plEnvC) (EnvOK.of plEntries_ok) 400 4 (fn := Try.f4) (by kernel_rfl) (by kernel_rfl) (lookE_none hno) (args := [.oslc 0 4 0 l.length, .oslc 1 2 0 ask.length]) (mem := [⟨false, .rows actK l⟩, ⟨false, .rows spanK ask⟩]) (ρ := fun i => ([r, r2] : List Sx.Place)[i]?)
    (look2 h3 h4 k3 k4) (.cons (h5 _ 0 rfl) (.cons (k5 _ 1 rfl) .nil)) (pl_full l ask hw fun x hx => ?_)
  have h := (hw2 x hx).1
  simp [CK.wf, Lit.wf, IntKind.min, IntKind.max, IntKind.signed, IntKind.bits] at h
  exact h
end Go.Proofs.Ytengjhhaakmhoaa
