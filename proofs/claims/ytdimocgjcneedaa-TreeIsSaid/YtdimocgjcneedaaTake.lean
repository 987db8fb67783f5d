/-
  The builders take a token: what becomes of them.
-/
import Derived.Test.YtdimocgjcneedaaAbs
set_option linter.unusedVariables false
set_option linter.unusedSimpArgs false
namespace Go.Proofs.Ytdimocgjcneedaa
open Sx
set_option maxRecDepth 100000
set_option maxHeartbeats 4000000
theorem Sx.Tr.Holds.mono {α : Type} {Q Q' : α → Prop} {t : Sx.Tr α} (h : t.Holds Q) (hq : ∀ a, Q a → Q' a) : t.Holds Q' := ⟨Sx.Tr.holds.mono hq t h.out⟩
theorem nRow_erase (on : ByteArray) (pv : Value) (pl : List (RowT propK)) (kv : Value) (kl kl2 : List (RowT nodeK)) : List.map erase (List.map PNode.ofRow (kl2 ++ [nRow on pv pl kv kl])) = List.map erase (List.map PNode.ofRow kl2) ++ [.mk on pl (List.map erase (List.map PNode.ofRow kl))] := by
  rw [List.map_append, List.map_append]
  congr 1
  show [erase (.mk on pv pl kv (kl.map PNode.ofRow))] = _
  rw [erase_eq]; rfl
theorem begin_take {k : Nat} {l : List (RowT openK)} (h : k ≤ l.length) (x : RowT openK) : (l.take k ++ [x]).take (k + 1) = l.take k ++ [x] := List.take_of_length_le (by simp only [List.length_append, List.length_take, List.length_cons, List.length_nil]; omega)
theorem set_take {m : Nat} {l : List (RowT openK)} (h : m < l.length) (x : RowT openK) : (l.set m x).take (m + 1) = l.take m ++ [x] := by
  rw [take_at x (by simpa using h), getD_set h, List.take_set]
  rw [List.set_eq_of_length_le (by rw [List.length_take]; omega)]
theorem take_all (z : BZ) (kd : Int) (nm vl : ByteArray) (h : BOK z) : (callX Try.prog (Env.of [] noCut bWr) 400 24 [.ptr 0 0, tokV kd nm vl] (bldM z) fin).Holds (Post 2 (.all BZ (stepP z kd nm vl) fun z' => .ok (bldO (aStep (absZ z) kd nm vl).1 z'))) := by
  have hk := h.k; have hk8 := h.k8; have hns := h.a.ns; have hps := h.a.ps; have hlen := absZ_len hk
  obtain ⟨k, l, rn, rp, rk, d, ns, ps⟩ := z
  have fin1 : ∀ (e : Int) (z' : BZ), (aStep (absZ ⟨k, l, rn, rp, rk, d, ns, ps⟩) kd nm vl).1 = e → stepP ⟨k, l, rn, rp, rk, d, ns, ps⟩ kd nm vl z' → ∀ r, Post 2 (.ok (bldO e z')) r → Post 2 (.all BZ (stepP ⟨k, l, rn, rp, rk, d, ns, ps⟩ kd nm vl) fun z' => .ok (bldO (aStep (absZ ⟨k, l, rn, rp, rk, d, ns, ps⟩) kd nm vl).1 z')) r := fun e z' he hz r hr => Post.all z' hz (by rw [he]; exact hr)
  have fin2 : ∀ Z : Value → BZ, (∀ v : Value, (aStep (absZ ⟨k, l, rn, rp, rk, d, ns, ps⟩) kd nm vl).1 = 0) → (∀ v, stepP ⟨k, l, rn, rp, rk, d, ns, ps⟩ kd nm vl (Z v)) → ∀ r, Post 2 (.all Value (fun _ => True) fun v => .ok (bldO 0 (Z v))) r → Post 2 (.all BZ (stepP ⟨k, l, rn, rp, rk, d, ns, ps⟩ kd nm vl) fun z' => .ok (bldO (aStep (absZ ⟨k, l, rn, rp, rk, d, ns, ps⟩) kd nm vl).1 z')) r := fun Z he hz r hr R hR => hr R fun v _ => by
    have q := hR (Z v) (hz v)
    rw [he v] at q; exact q
  simp only at hk hk8 hns hps hlen
  simp only [absZ] at hns hps
  by_cases h4 : kd = 4
  · have hs : aStep (absZ ⟨k, l, rn, rp, rk, d, ns, ps⟩) kd nm vl = (0, absZ ⟨k, l, rn, rp, rk, d, ns, ps⟩) := by unfold aStep; rw [if_pos h4]
    exact (tk_nop k l rn rp rk d ns ps kd nm vl hk hk8 hns hps h4).mono (fin1 _ _ (by rw [hs]) (stepP_same h (by rw [hs])))
  by_cases hd : d = true
  · have hs : aStep (absZ ⟨k, l, rn, rp, rk, d, ns, ps⟩) kd nm vl = (6, absZ ⟨k, l, rn, rp, rk, d, ns, ps⟩) := by unfold aStep; rw [if_neg h4, if_pos (.inr (.inr hd))]
    exact (tk_done k l rn rp rk d ns ps kd nm vl hk hk8 hns hps h4 hd).mono (fin1 _ _ (by rw [hs]) (stepP_same h (by rw [hs])))
  have hd : d = false := by simpa using hd
  by_cases h13 : kd < 1 ∨ 3 < kd
  · have hs : aStep (absZ ⟨k, l, rn, rp, rk, d, ns, ps⟩) kd nm vl = (6, absZ ⟨k, l, rn, rp, rk, d, ns, ps⟩) := by unfold aStep; rw [if_neg h4, if_pos (by rcases h13 with h | h; exact .inl h; exact .inr (.inl h))]
    exact (tk_form k l rn rp rk d ns ps kd nm vl hk hk8 hns hps hd ⟨h4, by omega, .inl (by omega), .inl (by omega)⟩).mono (fin1 _ _ (by rw [hs]) (stepP_same h (by rw [hs])))
  have hn : ¬ (kd < 1 ∨ 3 < kd ∨ (absZ ⟨k, l, rn, rp, rk, d, ns, ps⟩).d = true) := by
    rintro (h | h | h)
    · exact h13 (.inl h)
    · exact h13 (.inr h)
    · rw [show (absZ ⟨k, l, rn, rp, rk, d, ns, ps⟩).d = d from rfl, hd] at h; cases h
  by_cases h1 : kd = 1
  · by_cases h8 : k = 8
    · have hs : aStep (absZ ⟨k, l, rn, rp, rk, d, ns, ps⟩) kd nm vl = (13, absZ ⟨k, l, rn, rp, rk, d, ns, ps⟩) := by unfold aStep; rw [if_neg h4, if_neg hn, if_pos h1, if_pos (by rw [hlen]; exact h8)]
      exact (tk_deep k l rn rp rk d ns ps kd nm vl hk hk8 hns hps hd h1 h8).mono (fin1 _ _ (by rw [hs]) (stepP_same h (by rw [hs])))
    by_cases h9 : ns = 64
    · have hs : aStep (absZ ⟨k, l, rn, rp, rk, d, ns, ps⟩) kd nm vl = (7, absZ ⟨k, l, rn, rp, rk, d, ns, ps⟩) := by unfold aStep; rw [if_neg h4, if_neg hn, if_pos h1, if_neg (by rw [hlen]; exact h8), if_pos (show (absZ ⟨k, l, rn, rp, rk, d, ns, ps⟩).ns = 64 from h9)]
      exact (tk_many k l rn rp rk d ns ps kd nm vl hk hk8 hns hps hd h1 h8 h9).mono (fin1 _ _ (by rw [hs]) (stepP_same h (by rw [hs])))
    have hs : aStep (absZ ⟨k, l, rn, rp, rk, d, ns, ps⟩) kd nm vl = (0, absZ ⟨k + 1, l.take k ++ [oRow nm emptyP emptyN], rn, rp, rk, d, ns + 1, ps⟩) := by
      unfold aStep; rw [if_neg h4, if_neg hn, if_pos h1, if_neg (by rw [hlen]; exact h8), if_neg (show ¬ (absZ ⟨k, l, rn, rp, rk, d, ns, ps⟩).ns = 64 from h9)]
      simp only [absZ, begin_take hk, List.reverse_append, List.reverse_cons, List.reverse_nil, List.nil_append, List.map_append, List.map_cons, List.map_nil, List.cons_append]; rfl
    refine (tk_begin k l rn rp rk d ns ps kd nm vl hk hk8 hns hps hd h1 h8 h9 (wrapP1 (by omega))).mono (fin1 _ _ (by rw [hs]) ⟨⟨?_, ?_, fun r hr => ?_, fun h => ?_⟩, by rw [hs]⟩)
    · simp only [List.length_append, List.length_take, List.length_cons, List.length_nil]; omega
    · have := aStep_ok h.a kd nm vl; rw [hs] at this; exact this
    · simp only [begin_take hk] at hr
      rcases List.mem_append.1 hr with hr | hr
      · exact h.fl r hr
      · simp at hr; subst hr; exact ⟨rfl, rfl⟩
    · simp only [hd] at h; cases h
  -- a row is open
  cases k with
  | zero =>
    have hs : aStep (absZ ⟨0, l, rn, rp, rk, d, ns, ps⟩) kd nm vl = (6, absZ ⟨0, l, rn, rp, rk, d, ns, ps⟩) := by
      unfold aStep; rw [if_neg h4, if_neg hn, if_neg h1]
      have : (absZ ⟨0, l, rn, rp, rk, d, ns, ps⟩).st = [] := by simp [absZ]
      rw [this]
    exact (tk_form 0 l rn rp rk d ns ps kd nm vl hk hk8 hns hps hd ⟨h4, h1, .inr rfl, .inr rfl⟩).mono (fin1 _ _ (by rw [hs]) (stepP_same h (by rw [hs])))
  | succ m =>
    have hst := absZ_st (z := ⟨m + 1, l, rn, rp, rk, d, ns, ps⟩) rfl (show m < l.length by omega)
    simp only at hst
    have hmem : absRow (l.getD m (RowT.dflt openK)) ∈ (absZ ⟨m + 1, l, rn, rp, rk, d, ns, ps⟩).st := by rw [hst]; simp
    have hro := h.fl _ (getD_mem_take (RowT.dflt openK) (show m < l.length by omega))
    have e1 := row_parts hro
    have hkl := h.a.kids hmem
    have hpl0 := (h.a.rows _ hmem).1
    simp only [absRow, List.length_map] at hkl
    have hpl : (l.getD m (RowT.dflt openK)).2.1.2.2.length ≤ 256 := by have : ((l.getD m (RowT.dflt openK)).2.1.2.2.length : Int) ≤ ps := hpl0; omega
    clear hpl0
    generalize hrow : l.getD m (RowT.dflt openK) = row at *
    obtain ⟨on, ⟨pv, pb, pl⟩, ⟨kv, kb, kl⟩, _⟩ := row
    simp only at e1 hkl hpl
    have hb := hro.1; have hb2 := hro.2
    simp only at hb hb2
    subst hb; subst hb2
    rw [e1] at hrow
    by_cases h3 : kd = 3
    · by_cases h0 : kl.length = 0
      · by_cases h6 : ps = 256
        · have hs : aStep (absZ ⟨m + 1, l, rn, rp, rk, d, ns, ps⟩) kd nm vl = (7, absZ ⟨m + 1, l, rn, rp, rk, d, ns, ps⟩) := by
            unfold aStep; rw [if_neg h4, if_neg hn, if_neg h1, hst]
            simp only [if_pos h3, absRow, List.length_map]
            rw [if_neg (by simpa using h0), if_pos (show (absZ ⟨m + 1, l, rn, rp, rk, d, ns, ps⟩).ps = 256 from h6)]
          exact (tk_full m l rn rp rk d ns ps kd nm vl hk hk8 hns hps on pv kv pl kl hrow hpl hkl hd (wrapPred (by omega)) h3 h0 h6).mono (fin1 _ _ (by rw [hs]) (stepP_same h (by rw [hs])))
        · have hs : ∀ v, aStep (absZ ⟨m + 1, l, rn, rp, rk, d, ns, ps⟩) kd nm vl = (0, absZ ⟨m + 1, l.set m (oRow on (v, true, pl ++ [pRow nm vl]) (kv, true, kl)), rn, rp, rk, d, ns, ps + 1⟩) := by
            intro v
            unfold aStep; rw [if_neg h4, if_neg hn, if_neg h1, hst]
            simp only [if_pos h3]
            rw [if_neg (by simpa [absRow] using h0), if_neg (show ¬ (absZ ⟨m + 1, l, rn, rp, rk, d, ns, ps⟩).ps = 256 from h6)]
            simp only [absZ, set_take (show m < l.length by omega), List.reverse_append, List.reverse_cons, List.reverse_nil, List.nil_append, List.map_append, List.map_cons, List.map_nil, List.cons_append]; rfl
          refine (tk_prop m l rn rp rk d ns ps kd nm vl hk hk8 hns hps on pv kv pl kl hrow hpl hkl hd (wrapPred (by omega)) h3 h0 h6 (wrapP1 (by omega))).mono (fin2 _ (fun v => by rw [hs v]) fun v => ⟨⟨by simpa using hk, ?_, fun r hr => ?_, fun h => ?_⟩, by rw [hs v]⟩)
          · have := aStep_ok h.a kd nm vl; rw [hs v] at this; exact this
          · simp only [set_take (show m < l.length by omega)] at hr
            rcases List.mem_append.1 hr with hr | hr
            · exact h.fl r (mem_take_le (show m ≤ m + 1 by omega) hr)
            · simp at hr; subst hr; exact ⟨rfl, rfl⟩
          · simp only [hd] at h; cases h
      · have hs : aStep (absZ ⟨m + 1, l, rn, rp, rk, d, ns, ps⟩) kd nm vl = (6, absZ ⟨m + 1, l, rn, rp, rk, d, ns, ps⟩) := by
          unfold aStep; rw [if_neg h4, if_neg hn, if_neg h1, hst]
          simp only [if_pos h3, absRow, List.length_map]
          rw [if_pos (by simpa using h0)]
        exact (tk_kids m l rn rp rk d ns ps kd nm vl hk hk8 hns hps on pv kv pl kl hrow hpl hkl hd (wrapPred (by omega)) h3 h0).mono (fin1 _ _ (by rw [hs]) (stepP_same h (by rw [hs])))
    · have h2 : kd = 2 := by omega
      cases m with
      | zero =>
        have hs : aStep (absZ ⟨0 + 1, l, rn, rp, rk, d, ns, ps⟩) kd nm vl = (0, absZ ⟨0, l, on, (pv, true, pl), (kv, true, kl), true, ns, ps⟩) := by
          unfold aStep; rw [if_neg h4, if_neg hn, if_neg h1, hst]
          simp only [if_neg h3, List.take_zero, List.reverse_nil, List.map_nil]
          simp only [absZ, List.take_zero, List.reverse_nil, List.map_nil]; rfl
        refine (tk_root l rn rp rk d ns ps kd nm vl hk hk8 hns hps on pv kv pl kl hrow hpl hkl hd (wrapPred (m := 0) (by omega)) h2).mono (fin1 _ _ (by rw [hs]) ⟨⟨by simp, ?_, fun r hr => (by simp at hr), fun _ => ⟨(show 0 < l.length by omega), hrow, rfl, rfl⟩⟩, by rw [hs]⟩)
        have := aStep_ok h.a kd nm vl; rw [hs] at this; exact this
      | succ m =>
        have hm : m < l.length := by omega
        have hro2 := h.fl _ (mem_take_le (show m + 1 ≤ m + 1 + 1 by omega) (getD_mem_take (RowT.dflt openK) hm))
        have hmem2 : absRow (l.getD m (RowT.dflt openK)) ∈ (absZ ⟨m + 1 + 1, l, rn, rp, rk, d, ns, ps⟩).st := by
          rw [hst, take_at (RowT.dflt openK) hm, List.reverse_append]; simp
        have hkl2 := h.a.kids hmem2
        have e2 := row_parts hro2
        simp only [absRow, List.length_map] at hkl2
        generalize hrow2 : l.getD m (RowT.dflt openK) = row at *
        obtain ⟨on2, ⟨pv2, pb2, pl2⟩, ⟨kv2, kb2, kl2⟩, _⟩ := row
        simp only at e2 hkl2
        have hb := hro2.1; have hb2 := hro2.2
        simp only at hb hb2
        subst hb; subst hb2
        rw [e2] at hrow2
        have hs : ∀ v, aStep (absZ ⟨m + 1 + 1, l, rn, rp, rk, d, ns, ps⟩) kd nm vl = (0, absZ ⟨m + 1, (l.set (m + 1) (oRow on (pv, false, pl) (kv, false, kl))).set m (oRow on2 (pv2, true, pl2) (v, true, kl2 ++ [nRow on pv pl kv kl])), rn, rp, rk, d, ns, ps⟩) := by
          intro v
          unfold aStep; rw [if_neg h4, if_neg hn, if_neg h1, hst, take_at (RowT.dflt openK) hm, hrow2]
          simp only [if_neg h3, List.reverse_append, List.reverse_cons, List.reverse_nil, List.nil_append, List.map_append, List.map_cons, List.map_nil, List.cons_append]
          simp only [absZ, set_take (show m < (l.set (m + 1) (oRow on (pv, false, pl) (kv, false, kl))).length by simpa using hm), List.take_set, List.reverse_append, List.reverse_cons, List.reverse_nil, List.nil_append, List.map_append, List.map_cons, List.map_nil, List.cons_append]
          rw [List.set_eq_of_length_le (by rw [List.length_take]; omega)]
          simp only [absRow, oRow, nRow_erase, nodeT]
        refine (tk_pop m l rn rp rk d ns ps kd nm vl hk hk8 hns hps on pv kv pl kl hrow hpl hkl hd (wk2_eq (by omega)) (wrapPred (by omega)) (wk3_eq (by omega)) on2 pv2 kv2 pl2 kl2 hrow2 hkl2 h2).mono (fin2 _ (fun v => by rw [hs v]) fun v => ⟨⟨by simp only [List.length_set]; omega, ?_, fun r hr => ?_, fun h => ?_⟩, by rw [hs v]⟩)
        · have := aStep_ok h.a kd nm vl; rw [hs v] at this; exact this
        · simp only [set_take (show m < (l.set (m + 1) (oRow on (pv, false, pl) (kv, false, kl))).length by simpa using hm), List.take_set] at hr
          rw [List.set_eq_of_length_le (by rw [List.length_take]; omega)] at hr
          rcases List.mem_append.1 hr with hr | hr
          · exact h.fl r (mem_take_le (show m ≤ m + 1 + 1 by omega) hr)
          · simp at hr; subst hr; exact ⟨rfl, rfl⟩
        · simp only [hd] at h; cases h
end Go.Proofs.Ytdimocgjcneedaa
