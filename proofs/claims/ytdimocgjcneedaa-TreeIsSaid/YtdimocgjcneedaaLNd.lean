/-
  Trees that come in: a node's value is a tree whose slices stay as they are.
-/
import Derived.Test.YtdimocgjcneedaaLOf
import Derived.Deep.Slices
import Derived.WideShapes
set_option linter.unusedVariables false
set_option linter.unusedSimpArgs false
namespace Go.Proofs.Ytdimocgjcneedaa
open Sx
set_option maxRecDepth 100000
set_option maxHeartbeats 4000000
theorem flatMap_at {X : Type} {f : X → List Value} {k : Nat} (hk : ∀ x, (f x).length = k) (hpos : 0 < k) : ∀ (l : List X) (j : Nat) (v : Value), (l.flatMap f)[j]? = some v → ∃ i x, l[i]? = some x ∧ j = i * k + j % k ∧ (f x)[j % k]? = some v
  | [], j, v, h => by simp at h
  | x :: l, j, v, h => by
    rw [List.flatMap_cons] at h
    by_cases hj : j < k
    · rw [List.getElem?_append_left (by rw [hk]; exact hj)] at h
      exact ⟨0, x, rfl, by rw [Nat.mod_eq_of_lt hj]; omega, by rw [Nat.mod_eq_of_lt hj]; exact h⟩
    · rw [List.getElem?_append_right (by rw [hk]; omega), hk] at h
      obtain ⟨i, y, h1, h2, h3⟩ := flatMap_at hk hpos l (j - k) v h
      have e : (j - k) % k = j % k := by
        rw [Nat.mod_eq_sub_mod (show j ≥ k by omega)]
      rw [e] at h2 h3
      refine ⟨i + 1, y, by simpa using h1, ?_, h3⟩
      rw [Nat.succ_mul]; omega
/-- a slice's elements, as they stay -/
theorem slice_stay {X : Type} {f : X → List Value} {k : Nat} (hk : ∀ x, (f x).length = k) (hpos : 0 < k) {W : World} {a : Addr} {len cap base : Nat} (hl : len ≤ cap) {Q : X → Prop} (h : ∀ i, i < len → ∃ x, W.cells? base (a.add (i * k)) k = some (f x) ∧ Q x) :
    ∃ l : List X, l.length = len ∧ (∀ x ∈ l, Q x) ∧ SlcIs (World.stay W) (.slice (some a) len cap) l.length (l.flatMap f) := by
  rcases Nat.eq_zero_or_pos len with h0 | h0
  · subst h0
    exact ⟨[], rfl, fun x hx => (by cases hx), ⟨some a, cap, rfl, Nat.zero_le _, fun h => absurd h (Nat.lt_irrefl _)⟩⟩
  · have hspot : a.spot = none := by
      obtain ⟨x, h1, _⟩ := h 0 h0
      obtain ⟨_, hlen, hc⟩ := World.cells?_some h1
      have h2 := hc 0 hpos
      rw [List.getElem?_eq_getElem (by omega)] at h2
      have := World.cell?_spot h2
      simpa [Addr.add] using this
    obtain ⟨b, o, spot⟩ := a
    simp only at hspot
    subst hspot
    let g : Nat → X := fun i => if hi : i < len then Classical.choose (h i hi) else Classical.choose (h 0 h0)
    have hg : ∀ i, i < len → W.cells? base (Addr.add ⟨b, o, none⟩ (i * k)) k = some (f (g i)) ∧ Q (g i) := fun i hi => by
      simp only [g, hi, dif_pos]; exact Classical.choose_spec (h i hi)
    refine ⟨(List.range len).map g, by simp, fun x hx => ?_, ⟨some ⟨b, o, none⟩, cap, by simp, by simpa using hl, fun _ => ⟨b, o, rfl, fun j v hj => ?_⟩⟩⟩
    · obtain ⟨i, hi, rfl⟩ := List.mem_map.1 hx
      exact (hg i (by simpa using hi)).2
    · obtain ⟨i, x, h1, h2, h3⟩ := flatMap_at hk hpos _ _ _ hj
      obtain ⟨i', hi', rfl⟩ := List.mem_map.1 (List.mem_of_getElem? h1)
      have hil : i < len := by have := (List.getElem?_eq_some_iff.1 h1).1; simpa using this
      rw [List.getElem?_map, List.getElem?_range hil, Option.map_some, Option.some.injEq] at h1
      rw [← h1] at h3
      obtain ⟨_, _, hc⟩ := World.cells?_some (hg i hil).1
      have h4 := hc (j % k) (Nat.mod_lt _ hpos)
      rw [addr_add, addr_add, h3] at h4
      refine stay_cell ?_
      rw [← h4]; congr 2; omega
theorem propV_len (x : PropR) : (rowV propK x).length = 2 := rfl
theorem nodeV_len (n : PNode) : n.rowV.length = 3 := rfl
theorem nil_stay (W : World) : SlcIs (World.stay W) nilV 0 [] := ⟨none, 0, rfl, Nat.le_refl _, fun h => absurd h (Nat.lt_irrefl _)⟩
theorem goodL_of {B : Base} : ∀ {l : List PNode}, (∀ n ∈ l, n.good B) → goodL B l
  | [], _ => trivial
  | n :: l, h => ⟨h n (by simp), goodL_of fun m hm => h m (by simp [hm])⟩
theorem open_prop {H : Type} {enc : TypeId × Value → H} {W : World} {base : Nat} {spare : Nat → Bool} {held : Bool} {fuel : Nat} {cs : List Value} {x : DataW H × List MemPlace} (h : DataW.trod enc Try.prog W base spare held fuel 50 cs = some x) : ∃ r : PropR, cs = rowV propK r := by
  obtain ⟨r, hr, _⟩ := flat_typed (ks := propK) 6 (by kernel_rfl) h
  exact ⟨r, hr⟩
theorem open_node {H : Type} {enc : TypeId × Value → H} {W : World} {base : Nat} {spare : Nat → Bool} {held : Bool} : ∀ (N : Nat) {fuel : Nat} {cs : List Value} {x : DataW H × List MemPlace}, fuel ≤ N → DataW.trod enc Try.prog W base spare held fuel 28 cs = some x → ∃ n : PNode, cs = n.rowV ∧ n.good (World.stay W)
  | 0, fuel, cs, x, hN, h => by
    obtain ⟨xs, n, e, _⟩ := DataW.trod_struct Try.underlying28 h
    omega
  | N + 1, fuel, cs, x, hN, h => by
    obtain ⟨xs, n, rfl, _, hl, hxl, hf⟩ := DataW.trod_struct Try.underlying28 h
    have hl3 : cs.length = 3 := by rw [hl]; kernel_rfl
    have e0 : Try.prog.cellsOf 9 = 1 := by kernel_rfl
    have e1 : Try.prog.cellsOf 25 = 1 := by kernel_rfl
    have e2 : Try.prog.cellsOf 26 = 1 := by kernel_rfl
    have e50 : Try.prog.cellsOf 50 = 2 := by kernel_rfl
    have e28 : Try.prog.cellsOf 28 = 3 := by kernel_rfl
    have g0 : DataW.trod enc Try.prog W base spare held n 9 ((cs.drop 0).take (Try.prog.cellsOf 9)) = xs[0]? := hf 0 _ rfl
    have g1 : DataW.trod enc Try.prog W base spare held n 25 ((cs.drop 1).take (Try.prog.cellsOf 25)) = xs[1]? := hf 1 _ rfl
    have g2 : DataW.trod enc Try.prog W base spare held n 26 ((cs.drop 2).take (Try.prog.cellsOf 26)) = xs[2]? := hf 2 _ rfl
    rw [e0] at g0; rw [e1] at g1; rw [e2] at g2
    have hx3 : xs.length = 3 := hxl
    match cs, hl3 with
    | [c0, c1, c2], _ =>
    have g0 : DataW.trod enc Try.prog W base spare held n 9 [c0] = xs[0]? := g0
    have g1 : DataW.trod enc Try.prog W base spare held n 25 [c1] = xs[1]? := g1
    have g2 : DataW.trod enc Try.prog W base spare held n 26 [c2] = xs[2]? := g2
    rw [List.getElem?_eq_getElem (by omega)] at g0 g1 g2
    obtain ⟨s, hs, _⟩ := DataW.trod_string Try.underlying9 g0
    have P1 : ∃ ps : List PropR, SlcIs (World.stay W) c1 ps.length (rowsV propK ps) := by
      rcases DataW.trod_slice Try.underlying25 g1 with ⟨hc, _⟩ | ⟨a, len, cap, elems, rest, m, _, hc, _, _, hle, _, hlen, hel, _, _⟩
      · simp only [List.cons.injEq, and_true] at hc
        subst hc
        exact ⟨[], nil_stay W⟩
      · simp only [List.cons.injEq, and_true] at hc
        subst hc
        rw [e50] at hel
        obtain ⟨l, h1, _, h3⟩ := slice_stay (X := PropR) (f := rowV propK) (Q := fun _ => True) propV_len (by decide) (W := W) (a := a) (base := base) hle (fun i hi => by
          have := hel i hi
          rw [List.getElem?_eq_getElem (by omega)] at this
          obtain ⟨cs', k1, k2⟩ := Option.bind_eq_some_iff.1 this
          obtain ⟨r, rfl⟩ := open_prop k2
          exact ⟨r, k1, trivial⟩)
        exact ⟨l, h3⟩
    have P2 : ∃ ks : List PNode, SlcIs (World.stay W) c2 ks.length (nodesV ks) ∧ goodL (World.stay W) ks := by
      rcases DataW.trod_slice Try.underlying26 g2 with ⟨hc, _⟩ | ⟨a, len, cap, elems, rest, m, hm, hc, _, _, hle, _, hlen, hel, _, _⟩
      · simp only [List.cons.injEq, and_true] at hc
        subst hc
        exact ⟨[], nil_stay W, trivial⟩
      · simp only [List.cons.injEq, and_true] at hc
        subst hc
        rw [e28] at hel
        obtain ⟨l, h1, h2, h3⟩ := slice_stay (X := PNode) (f := PNode.rowV) (Q := fun n => n.good (World.stay W)) nodeV_len (by decide) (W := W) (a := a) (base := base) hle (fun i hi => by
          have := hel i hi
          rw [List.getElem?_eq_getElem (by omega)] at this
          obtain ⟨cs', k1, k2⟩ := Option.bind_eq_some_iff.1 this
          obtain ⟨r, rfl, hr⟩ := open_node N (by omega) k2
          exact ⟨r, k1, hr⟩)
        exact ⟨l, h3, goodL_of h2⟩
    obtain ⟨ps, hps⟩ := P1
    obtain ⟨ks, hks, hgk⟩ := P2
    simp only [List.cons.injEq, and_true] at hs
    subst hs
    exact ⟨.mk s c1 ps c2 ks, rfl, hps, hks, hgk⟩
/-- a node that comes in -/
def NodeIn (W : World) (v : Value) : Prop := ∃ n : PNode, Rel ⟨fun _ => none, World.stay W⟩ (nodeSV n) v
theorem nodeSV_rel {ρ : Sx.Loc} {n : PNode} (h : n.good ρ.base) : Rel ρ (nodeSV n) (.agg n.rowV.toArray) := by
  cases n with
  | mk nm pv ps kv ks =>
    obtain ⟨h1, h2, h3⟩ := h
    show Rel ρ (.agg _) _
    simp only [Rel]
    refine ⟨_, ?_, rfl⟩
    refine RelL.cons (by simp only [Rel, PNode.name]) (RelL.cons (by simp only [Rel]; exact ⟨rfl, h1, fun r _ => ⟨trivial, trivial, trivial⟩⟩) (RelL.cons (by simp only [Rel]; exact ⟨rfl, h2, h3⟩) .nil))
theorem node_in {H : Type} {enc : TypeId × Value → H} {W : World} {base b0 : Nat} {held : Bool} {r : Reach} {v : Value} {dd : DataW H} {ps : List MemPlace} (hval : Value.okWide Try.prog W r b0 28 v) (h : DataW.Trod enc Try.prog W base (fun _ => true) held 28 v dd ps) : NodeIn W v := by
  obtain ⟨cs, rfl, _⟩ := WideShapes.okWide_struct Try.underlying28 hval
  obtain ⟨fuel, hf⟩ := h
  obtain ⟨n, hn, hg⟩ := open_node fuel (Nat.le_refl _) hf
  refine ⟨n, ?_⟩
  have e : (Value.agg cs) = .agg n.rowV.toArray := by
    simp only [Value.cells] at hn
    rw [← hn]
  rw [e]
  exact nodeSV_rel hg
end Go.Proofs.Ytdimocgjcneedaa
