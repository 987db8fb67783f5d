/-
  What a builder of a tree has, without memory; what becomes of it by a token.
-/
import Derived.Test.YtdimocgjcneedaaPop
set_option linter.unusedVariables false
set_option linter.unusedSimpArgs false
namespace Go.Proofs.Ytdimocgjcneedaa
open Sx
set_option maxRecDepth 100000
set_option maxHeartbeats 4000000
/-- a tree, without memory -/
inductive PT where
  | mk (nm : ByteArray) (ps : List PropR) (ks : List PT)
mutual
def erase : PNode → PT
  | .mk nm _ ps _ ks => .mk nm ps (eraseL ks)
def eraseL : List PNode → List PT
  | [] => []
  | n :: l => erase n :: eraseL l
end
theorem eraseL_map : ∀ l : List PNode, eraseL l = l.map erase
  | [] => rfl
  | n :: l => by rw [eraseL, eraseL_map l]; rfl
theorem erase_eq (n : PNode) : erase n = .mk n.name n.props (n.kids.map erase) := by cases n; rw [erase, eraseL_map]; rfl
mutual
def okP : PT → Prop
  | .mk _ ps ks => ps.length ≤ 1000 ∧ ks.length ≤ 1000 ∧ okPL ks
def okPL : List PT → Prop
  | [] => True
  | n :: l => okP n ∧ okPL l
end
theorem okPL_iff : ∀ l : List PT, okPL l ↔ ∀ n ∈ l, okP n
  | [] => by simp [okPL]
  | n :: l => by simp [okPL, okPL_iff l]
mutual
theorem okT_erase : ∀ n : PNode, okT n ↔ okP (erase n)
  | .mk _ _ ps _ ks => by
    simp only [okT, erase, okP]
    rw [okL_erase ks, eraseL_map, List.length_map]
theorem okL_erase : ∀ l : List PNode, okL l ↔ okPL (eraseL l)
  | [] => by simp [okL, eraseL, okPL]
  | n :: l => by simp only [okL, eraseL, okPL]; rw [okT_erase n, okL_erase l]
end
/-- the same trees are the same, of so many levels -/
theorem sameL_of {f : PNode → PNode → Bool} (hf : ∀ a c, erase a = erase c → f a c = true) : ∀ (l m : List PNode), l.map erase = m.map erase → sameL f l m = true
  | [], [], _ => rfl
  | [], _ :: _, h => by simp at h
  | _ :: _, [], h => by simp at h
  | a :: l, c :: m, h => by
    simp only [List.map_cons, List.cons.injEq] at h
    simp only [sameL, hf a c h.1, sameL_of hf l m h.2, Bool.and_self]
theorem erase_parts {a c : PNode} (h : erase a = erase c) : a.name = c.name ∧ a.props = c.props ∧ a.kids.map erase = c.kids.map erase := by
  rw [erase_eq, erase_eq] at h
  injection h with h1 h2 h3
  exact ⟨h1, h2, h3⟩
theorem sameF_of : ∀ (lv : Nat) (a c : PNode), erase a = erase c → sameF lv a c = true
  | 0, _, _, _ => rfl
  | lv + 1, a, c, h => by
    obtain ⟨h1, h2, h3⟩ := erase_parts h
    have h4 : a.kids.length = c.kids.length := by simpa using congrArg List.length h3
    simp only [sameF, samePs, decide_eq_true h1, decide_eq_true h2, decide_eq_true h4, sameL_of (sameF_of lv) _ _ h3, Bool.and_self]
/-! ### the builder -/
abbrev ARow := ByteArray × List PropR × List PT
def absRow (r : RowT openK) : ARow := (r.1, r.2.1.2.2, (r.2.2.1.2.2.map PNode.ofRow).map erase)
def rowOK (r : RowT openK) : Prop := r.2.1.2.1 = true ∧ r.2.2.1.2.1 = true
def nodeT (r : ARow) : PT := .mk r.1 r.2.1 r.2.2
structure AB where
  st : List ARow
  d : Bool
  rt : PT
  ns : Int
  ps : Int
def aStep (a : AB) (kd : Int) (nm vl : ByteArray) : Int × AB :=
  if kd = 4 then (0, a)
  else if kd < 1 ∨ 3 < kd ∨ a.d = true then (6, a)
  else if kd = 1 then
    if a.st.length = 8 then (13, a) else if a.ns = 64 then (7, a) else (0, { a with st := (nm, [], []) :: a.st, ns := a.ns + 1 })
  else match a.st with
    | [] => (6, a)
    | r :: rs => if kd = 3 then (if r.2.2.length ≠ 0 then (6, a) else if a.ps = 256 then (7, a) else (0, { a with st := (r.1, r.2.1 ++ [(nm, vl, ())], r.2.2) :: rs, ps := a.ps + 1 }))
      else match rs with
        | [] => (0, { a with st := [], d := true, rt := nodeT r })
        | q :: qs => (0, { a with st := (q.1, q.2.1, q.2.2 ++ [nodeT r]) :: qs })
structure AOK (a : AB) : Prop where
  len : a.st.length ≤ 8
  ns : 0 ≤ a.ns ∧ a.ns ≤ 64
  ps : 0 ≤ a.ps ∧ a.ps ≤ 256
  rows : ∀ r ∈ a.st, (r.2.1.length : Int) ≤ a.ps ∧ ∀ c ∈ r.2.2, okP c
  sum : (((a.st.map fun r => r.2.2.length + 1).sum : Nat) : Int) ≤ a.ns
  rt : okP a.rt
theorem AOK.kids {a : AB} (h : AOK a) {r : ARow} (hr : r ∈ a.st) : r.2.2.length ≤ 64 := by
  have key : ∀ (l : List ARow), r ∈ l → r.2.2.length + 1 ≤ (l.map fun r => r.2.2.length + 1).sum := by
    intro l hl
    induction l with
    | nil => cases hl
    | cons x l ih =>
      simp only [List.map_cons, List.sum_cons]
      rcases List.mem_cons.1 hl with rfl | hl
      · omega
      · have := ih hl; omega
  have := key _ hr
  have := h.sum
  have := h.ns
  omega
theorem okP_node {a : AB} (h : AOK a) {r : ARow} (hr : r ∈ a.st) : okP (nodeT r) := by
  have h1 := (h.rows r hr).1
  have h2 := h.kids hr
  have h3 := h.ps
  exact ⟨by omega, by omega, (okPL_iff _).2 (h.rows r hr).2⟩
theorem aStep_ok {a : AB} (h : AOK a) (kd : Int) (nm vl : ByteArray) : AOK (aStep a kd nm vl).2 := by
  unfold aStep
  split
  · exact h
  · split
    · exact h
    · split
      · split
        · exact h
        · split
          · exact h
          · have := h.len; have := h.ns; have := h.sum
            refine ⟨by simp only [List.length_cons]; omega, by simp only; omega, h.ps, fun r hr => ?_, ?_, h.rt⟩
            · rcases List.mem_cons.1 hr with rfl | hr
              · exact ⟨by have := h.ps.1; simpa using this, fun c hc => by cases hc⟩
              · exact h.rows r hr
            · simp only [List.map_cons, List.sum_cons, List.length_nil]; omega
      · split
        · exact h
        · rename_i r rs hst
          have hr : r ∈ a.st := by rw [hst]; simp
          have hrs : ∀ x ∈ rs, x ∈ a.st := fun x hx => by rw [hst]; simp [hx]
          have hl := h.len; have hs := h.sum
          rw [hst] at hl hs
          split
          · split
            · exact h
            · split
              · exact h
              · have := h.ps
                refine ⟨hl, h.ns, by simp only; omega, fun x hx => ?_, hs, h.rt⟩
                rcases List.mem_cons.1 hx with rfl | hx
                · have := (h.rows r hr).1
                  exact ⟨by simp only [List.length_append, List.length_cons, List.length_nil]; omega, (h.rows r hr).2⟩
                · have := (h.rows x (hrs x hx)).1
                  exact ⟨by simp only; omega, (h.rows x (hrs x hx)).2⟩
          · split
            · exact ⟨by simp, h.ns, h.ps, fun x hx => (by cases hx), (by have := h.ns.1; simpa using this), okP_node h hr⟩
            · rename_i q qs
              simp only [List.length_cons] at hl
              simp only [List.map_cons, List.sum_cons] at hs
              refine ⟨by simp only [List.length_cons]; omega, h.ns, h.ps, fun x hx => ?_, ?_, h.rt⟩
              · rcases List.mem_cons.1 hx with rfl | hx
                · have hq := h.rows q (hrs q (by simp))
                  refine ⟨hq.1, fun c hc => ?_⟩
                  rcases List.mem_append.1 hc with hc | hc
                  · exact hq.2 c hc
                  · simp at hc; subst hc; exact okP_node h hr
                · exact h.rows x (hrs x (by simp [hx]))
              · simp only [List.map_cons, List.sum_cons, List.length_append, List.length_cons, List.length_nil]; omega
def absZ (z : BZ) : AB := ⟨((z.l.take z.k).reverse).map absRow, z.d, .mk z.rn z.rp.2.2 ((z.rk.2.2.map PNode.ofRow).map erase), z.ns, z.ps⟩
structure BOK (z : BZ) : Prop where
  k : z.k ≤ z.l.length
  a : AOK (absZ z)
  fl : ∀ r ∈ z.l.take z.k, rowOK r
  rt : z.d = true → 0 < z.l.length ∧ z.l.getD 0 (RowT.dflt openK) = oRow z.rn z.rp z.rk ∧ rowOK (oRow z.rn z.rp z.rk)
theorem BOK.k8 {z : BZ} (h : BOK z) : z.k ≤ 8 := by
  have h1 := h.a.len
  have h2 := h.k
  simp only [absZ, List.length_map, List.length_reverse, List.length_take] at h1
  omega
def stepP (z : BZ) (kd : Int) (nm vl : ByteArray) (z' : BZ) : Prop := BOK z' ∧ absZ z' = (aStep (absZ z) kd nm vl).2
theorem take_at {α : Type} {l : List α} {m : Nat} (d : α) (h : m < l.length) : l.take (m + 1) = l.take m ++ [l.getD m d] := by
  rw [List.take_add_one, List.getD_eq_getElem?_getD, List.getElem?_eq_getElem h]; rfl
theorem absZ_st {z : BZ} {m : Nat} (hk : z.k = m + 1) (h : m < z.l.length) : (absZ z).st = absRow (z.l.getD m (RowT.dflt openK)) :: ((z.l.take m).reverse).map absRow := by
  simp only [absZ, hk]
  rw [take_at (RowT.dflt openK) h, List.reverse_append, List.reverse_cons, List.reverse_nil, List.nil_append, List.map_append, List.map_cons, List.map_nil]; rfl
theorem absZ_len {z : BZ} (h : z.k ≤ z.l.length) : (absZ z).st.length = z.k := by
  simp only [absZ, List.length_map, List.length_reverse, List.length_take]; omega
theorem row_parts {r : RowT openK} (h : rowOK r) : r = oRow r.1 (r.2.1.1, true, r.2.1.2.2) (r.2.2.1.1, true, r.2.2.1.2.2) := by
  obtain ⟨a, ⟨p1, p2, p3⟩, ⟨q1, q2, q3⟩, _⟩ := r
  obtain ⟨h1, h2⟩ := h
  simp only at h1 h2
  subst h1; subst h2; rfl
theorem wrapPred {m : Nat} (h : m ≤ 1000) : IntKind.i64.wrap (((m + 1 : Nat) : Int) - 1) = (m : Int) := by
  rw [show (((m + 1 : Nat) : Int) - 1) = (m : Int) by omega]; exact wrapId (by omega) (by omega)
theorem wrapP1 {n : Int} (h : 0 ≤ n ∧ n ≤ 1000) : IntKind.i64.wrap (n + 1) = n + 1 := wrapId (by omega) (by omega)
theorem wk2_eq {m : Nat} (h : m ≤ 900) : wk2 m = ((m + 1 : Nat) : Int) := wrapPred (m := m + 1) (by omega)
theorem wk3_eq {m : Nat} (h : m ≤ 900) : wk3 m = (m : Int) := by
  show IntKind.i64.wrap (wk2 m - 1) = _
  rw [wk2_eq h]; exact wrapPred (by omega)
/-- the rows ahead of the last one -/
theorem mem_take_le {α : Type} {l : List α} {a b : Nat} (h : a ≤ b) {x : α} (hx : x ∈ l.take a) : x ∈ l.take b := by
  have : l.take a = (l.take b).take a := by rw [List.take_take, Nat.min_eq_left h]
  rw [this] at hx; exact List.mem_of_mem_take hx
theorem getD_mem_take {α : Type} {l : List α} {m : Nat} (d : α) (h : m < l.length) : l.getD m d ∈ l.take (m + 1) := by rw [take_at d h]; simp
theorem stepP_same {z : BZ} (h : BOK z) {kd : Int} {nm vl : ByteArray} (e : (aStep (absZ z) kd nm vl).2 = absZ z) : stepP z kd nm vl z := ⟨h, e.symm⟩
end Go.Proofs.Ytdimocgjcneedaa
