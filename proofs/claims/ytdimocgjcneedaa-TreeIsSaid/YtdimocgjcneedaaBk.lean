/-
  Trees and their tokens, without memory: a tree that fits comes back from its tokens; what came of tokens has those, and fits.
-/
import Derived.Test.YtdimocgjcneedaaOf2
set_option linter.unusedVariables false
set_option linter.unusedSimpArgs false
namespace Go.Proofs.Ytdimocgjcneedaa
open Sx
set_option maxRecDepth 100000
set_option maxHeartbeats 4000000
mutual
/-- the tokens of a tree, however deep -/
def tkP : PT → List (RowT tokK)
  | .mk nm ps ks => tokR 1 nm ByteArray.empty :: (ps.map tokP ++ (tkPL ks ++ [tokR 2 ByteArray.empty ByteArray.empty]))
def tkPL : List PT → List (RowT tokK)
  | [] => []
  | n :: l => tkP n ++ tkPL l
end
mutual
def nsP : PT → Nat
  | .mk _ _ ks => 1 + nsPL ks
def nsPL : List PT → Nat
  | [] => 0
  | n :: l => nsP n + nsPL l
end
mutual
def ppP : PT → Nat
  | .mk _ ps ks => ps.length + ppPL ks
def ppPL : List PT → Nat
  | [] => 0
  | n :: l => ppP n + ppPL l
end
mutual
def dpP : PT → Nat
  | .mk _ _ ks => dpPL ks + 1
def dpPL : List PT → Nat
  | [] => 0
  | n :: l => max (dpP n) (dpPL l)
end
theorem toksL_tk {f : PNode → List (RowT tokK)} : ∀ (l : List PNode), (∀ k ∈ l, f k = tkP (erase k)) → toksL f l = tkPL (l.map erase)
  | [], _ => rfl
  | n :: l, h => by
    simp only [toksL, List.map_cons, tkPL]
    rw [h n (by simp), toksL_tk l fun k hk => h k (by simp [hk])]
theorem dpPL_mem : ∀ {l : List PT} {lv : Nat}, dpPL l ≤ lv → ∀ k ∈ l, dpP k ≤ lv
  | n :: l, lv, h, k, hk => by
    simp only [dpPL] at h
    rcases List.mem_cons.1 hk with rfl | hk
    · omega
    · exact dpPL_mem (by omega) k hk
theorem dpPL_of : ∀ {l : List PT} {lv : Nat}, (∀ k ∈ l, dpP k ≤ lv) → dpPL l ≤ lv
  | [], _, _ => Nat.zero_le _
  | n :: l, lv, h => by
    simp only [dpPL]
    have h1 := h n (by simp)
    have h2 := dpPL_of (l := l) fun k hk => h k (by simp [hk])
    omega
theorem dpP_erase (n : PNode) : dpP (erase n) = dpPL (n.kids.map erase) + 1 := by rw [erase_eq, dpP]
theorem nsP_erase (n : PNode) : nsP (erase n) = 1 + nsPL (n.kids.map erase) := by rw [erase_eq, nsP]
theorem ppP_erase (n : PNode) : ppP (erase n) = n.props.length + ppPL (n.kids.map erase) := by rw [erase_eq, ppP]
theorem toksF_tk : ∀ (lv : Nat) (n : PNode), dpP (erase n) ≤ lv → toksF lv n = tkP (erase n)
  | 0, n, h => by rw [dpP_erase] at h; omega
  | lv + 1, n, h => by
    rw [dpP_erase] at h
    rw [erase_eq, tkP, toksF, toksL_tk n.kids fun k hk => toksF_tk lv k (dpPL_mem (by omega) _ (List.mem_map_of_mem hk))]
theorem toksL_le {f : PNode → List (RowT tokK)} : ∀ (l : List PNode), (∀ k ∈ l, (f k).length ≤ 2 * nsP (erase k) + ppP (erase k)) → (toksL f l).length ≤ 2 * nsPL (l.map erase) + ppPL (l.map erase)
  | [], _ => Nat.zero_le _
  | n :: l, h => by
    have h1 := h n (by simp)
    have h2 := toksL_le l fun k hk => h k (by simp [hk])
    simp only [toksL, List.map_cons, nsPL, ppPL, List.length_append]
    omega
theorem toksF_le : ∀ (lv : Nat) (n : PNode), (toksF lv n).length ≤ 2 * nsP (erase n) + ppP (erase n)
  | 0, n => Nat.zero_le _
  | lv + 1, n => by
    have := toksL_le n.kids fun k _ => toksF_le lv k
    rw [nsP_erase, ppP_erase, toksF]
    simp only [List.length_cons, List.length_append, List.length_map, List.length_nil]
    omega
/-! ### low trees of few parts -/
theorem low_dp : ∀ (lv : Nat) (n : PNode), lowF lv n = true → dpP (erase n) ≤ lv
  | 0, n, h => by simp [lowF] at h
  | lv + 1, n, h => by
    simp only [lowF, Bool.and_eq_true, decide_eq_true_eq, List.all_eq_true] at h
    rw [dpP_erase]
    have := dpPL_of (l := n.kids.map erase) (lv := lv) fun k hk => by
      obtain ⟨m, hm, rfl⟩ := List.mem_map.1 hk
      exact low_dp lv m (h.2 m hm)
    omega
theorem w64_id {n : Int} (h : 0 ≤ n) (h1 : n ≤ 9000000000) : w64 n = n := wrapId (by omega) (by omega)
theorem szGo_bd {f : PNode → Int} {B : Int} (hB : 0 ≤ B ∧ B ≤ 1000000) : ∀ (l : List PNode) (out : Int), (∀ k ∈ l, 0 ≤ f k ∧ f k ≤ B) → 0 ≤ out → out ≤ 1001 + B → 0 ≤ szGo f out l ∧ szGo f out l ≤ 1001 + B
  | [], out, _, h1, h2 => ⟨h1, h2⟩
  | k :: l, out, h, h1, h2 => by
    have hk := h k (by simp)
    simp only [szGo]
    split
    · rw [w64_id (by omega) (by omega)]
      exact szGo_bd hB l _ (fun x hx => h x (by simp [hx])) (by omega) (by omega)
    · exact ⟨h1, h2⟩
theorem size_bd : ∀ (lv : Nat) (n : PNode), lv ≤ 20 → okT n → 0 ≤ sizeF lv n ∧ sizeF lv n ≤ 1001 * (lv : Int)
  | 0, n, _, _ => by simp [sizeF]
  | lv + 1, n, h, hn => by
    have h1 := okT_props hn
    have := szGo_bd (f := sizeF lv) (B := 1001 * (lv : Int)) ⟨by omega, by omega⟩ n.kids (w64 (1 + n.props.length)) (fun k hk => size_bd lv k (by omega) (okL_mem (okT_list hn) k hk)) (by rw [w64_id (by omega) (by omega)]; omega) (by rw [w64_id (by omega) (by omega)]; omega)
    rw [sizeF]
    omega
theorem szGo_le {f : PNode → Int} : ∀ (l : List PNode) (out : Int), (∀ k ∈ l, (0 ≤ f k ∧ f k ≤ 1000000) ∧ (f k ≤ 400 → (nsP (erase k) : Int) + ppP (erase k) ≤ f k)) → 0 ≤ out → out ≤ 2000000 → szGo f out l ≤ 400 → out + ((nsPL (l.map erase) : Nat) : Int) + ((ppPL (l.map erase) : Nat) : Int) ≤ szGo f out l
  | [], out, _, _, _, _ => by simp only [List.map_nil, nsPL, ppPL, szGo]; omega
  | k :: l, out, h, h1, h2, h3 => by
    have hk := h k (by simp)
    simp only [szGo] at h3 ⊢
    split at h3
    · rename_i hlt
      rw [if_pos hlt]
      rw [w64_id (by omega) (by omega)] at h3 ⊢
      have := szGo_le l (out + f k) (fun x hx => h x (by simp [hx])) (by omega) (by omega) h3
      have h4 := hk.2 (by omega)
      simp only [List.map_cons, nsPL, ppPL]
      omega
    · omega
theorem size_le : ∀ (lv : Nat) (n : PNode), lv ≤ 20 → lowF lv n = true → sizeF lv n ≤ 400 → (nsP (erase n) : Int) + ppP (erase n) ≤ sizeF lv n
  | 0, n, _, h, _ => by simp [lowF] at h
  | lv + 1, n, hlv, h, hs => by
    have hok := lowF_ok _ _ h
    have hp := okT_props hok
    simp only [lowF, Bool.and_eq_true, decide_eq_true_eq, List.all_eq_true] at h
    rw [sizeF] at hs ⊢
    rw [w64_id (by omega) (by omega)] at hs ⊢
    have := szGo_le (f := sizeF lv) n.kids (1 + n.props.length) (fun k hk => by
      have hb := size_bd lv k (by omega) (okL_mem (okT_list hok) k hk)
      exact ⟨by omega, size_le lv k (by omega) (h.2 k hk)⟩) (by omega) (by omega) hs
    rw [nsP_erase, ppP_erase]
    omega
/-- a low tree of few parts -/
structure Few (n : PNode) : Prop where
  ok : okT n
  dp : dpP (erase n) ≤ 12
  few : nsP (erase n) + ppP (erase n) ≤ 400
theorem few_of {n : PNode} (h : lowF 12 n = true) (hs : sizeF 12 n ≤ 400) : Few n := by
  have := size_le 12 n (by decide) h hs
  exact ⟨lowF_ok _ _ h, low_dp _ _ h, by omega⟩
theorem Few.len {n : PNode} (h : Few n) (lv : Nat) : (toksF lv n).length ≤ 1000 := by
  have := toksF_le lv n; have := h.few; omega
/-! ### what is counted -/
def cntSpec (lv : Nat) (r : Int × Int × Int) (a c d : Nat) : Prop := (0 ≤ r.1 ∧ r.1 ≤ a) ∧ (0 ≤ r.2.1 ∧ r.2.1 ≤ c) ∧ r.2.2 = min lv d ∧ (d ≤ lv → r.1 = a ∧ r.2.1 = c)
theorem cntGo_spec {lv : Nat} {f : PNode → Int × Int × Int} : ∀ (l : List PNode) (a0 c0 d0 : Int) (A C D : Nat), (∀ k ∈ l, cntSpec lv (f k) (nsP (erase k)) (ppP (erase k)) (dpP (erase k))) → A + nsPL (l.map erase) ≤ 1000000 → C + ppPL (l.map erase) ≤ 1000000 → cntSpec lv (a0, c0, d0) A C D → cntSpec lv (cntGo f (a0, c0, d0) l) (A + nsPL (l.map erase)) (C + ppPL (l.map erase)) (max D (dpPL (l.map erase)))
  | [], a0, c0, d0, A, C, D, _, _, _, h => by
    simp only [List.map_nil, nsPL, ppPL, dpPL, cntGo, Nat.add_zero, Nat.max_zero]; exact h
  | k :: l, a0, c0, d0, A, C, D, hf, hA, hC, h => by
    obtain ⟨k1, k2, k3, k4⟩ := hf k (by simp)
    obtain ⟨h1, h2, h3, h4⟩ := h
    simp only [List.map_cons, nsPL, ppPL, dpPL, cntGo] at *
    have e1 : w64 (a0 + (f k).1) = a0 + (f k).1 := w64_id (by omega) (by omega)
    have e2 : w64 (c0 + (f k).2.1) = c0 + (f k).2.1 := w64_id (by omega) (by omega)
    rw [e1, e2]
    have := cntGo_spec l (a0 + (f k).1) (c0 + (f k).2.1) (max d0 (f k).2.2) (A + nsP (erase k)) (C + ppP (erase k)) (max D (dpP (erase k))) (fun x hx => hf x (by simp [hx])) (by omega) (by omega) ⟨by simp only; omega, by simp only; omega, by simp only; omega, fun h => by simp only; have := h4 (by omega); have := k4 (by omega); omega⟩
    rw [show A + (nsP (erase k) + nsPL (l.map erase)) = A + nsP (erase k) + nsPL (l.map erase) by omega, show C + (ppP (erase k) + ppPL (l.map erase)) = C + ppP (erase k) + ppPL (l.map erase) by omega, show max D (max (dpP (erase k)) (dpPL (l.map erase))) = max (max D (dpP (erase k))) (dpPL (l.map erase)) by omega]
    exact this
theorem nsPL_mem : ∀ {l : List PT} {k : PT}, k ∈ l → nsP k ≤ nsPL l ∧ ppP k ≤ ppPL l
  | n :: l, k, h => by
    simp only [nsPL, ppPL]
    rcases List.mem_cons.1 h with rfl | h
    · omega
    · have := nsPL_mem h; omega
theorem cntF_spec : ∀ (lv : Nat) (n : PNode), lv ≤ 1000 → nsP (erase n) ≤ 1000000 → ppP (erase n) ≤ 1000000 → cntSpec lv (cntF lv n) (nsP (erase n)) (ppP (erase n)) (dpP (erase n))
  | 0, n, _, _, _ => by
    refine ⟨by simp [cntF], by simp [cntF], by simp [cntF], fun h => ?_⟩
    rw [dpP_erase] at h; omega
  | lv + 1, n, hlv, h1, h2 => by
    rw [nsP_erase] at h1; rw [ppP_erase] at h2
    have := cntGo_spec (lv := lv) (f := cntF lv) n.kids 1 (n.props.length : Int) 0 1 n.props.length 0 (fun k hk => by
      have hm := nsPL_mem (List.mem_map_of_mem (f := erase) hk)
      exact cntF_spec lv k (by omega) (by omega) (by omega)) h1 h2 ⟨by simp only; omega, by simp only; omega, by simp only; omega, fun _ => ⟨rfl, rfl⟩⟩
    rw [nsP_erase, ppP_erase, dpP_erase, cntF]
    obtain ⟨a1, a2, a3, a4⟩ := this
    simp only [Nat.zero_max] at a3 a4
    refine ⟨a1, a2, ?_, fun h => a4 (by omega)⟩
    simp only [cntEnd]
    rw [a3, w64_id (by omega) (by omega)]
    omega
def fitsF (n : PNode) : Bool := decide ((cntF 9 n).1 ≤ 64) && decide ((cntF 9 n).2.1 ≤ 256) && decide ((cntF 9 n).2.2 ≤ 8)
theorem fits_parts {n : PNode} (h1 : nsP (erase n) ≤ 1000000) (h2 : ppP (erase n) ≤ 1000000) : fitsF n = true ↔ nsP (erase n) ≤ 64 ∧ ppP (erase n) ≤ 256 ∧ dpP (erase n) ≤ 8 := by
  obtain ⟨a1, a2, a3, a4⟩ := cntF_spec 9 n (by decide) h1 h2
  simp only [fitsF, Bool.and_eq_true, decide_eq_true_eq]
  constructor
  · rintro ⟨⟨b1, b2⟩, b3⟩
    have := a4 (by omega)
    omega
  · rintro ⟨b1, b2, b3⟩
    have := a4 (by omega)
    omega
/-! ### a tree comes back from its tokens -/
theorem aRun_cons (t : RowT tokK) (ts : List (RowT tokK)) {a a' : AB} (h : aStepT a t = (0, a')) : aRun (t :: ts) a = aRun ts a' := by
  rw [aRun, h]; simp
theorem run_props (nm : ByteArray) (rs : List ARow) (rt : PT) (ns : Int) (rest : List (RowT tokK)) : ∀ (l p0 : List PropR) (ps : Int), ps + l.length ≤ 256 → aRun (l.map tokP ++ rest) ⟨(nm, p0, []) :: rs, false, rt, ns, ps⟩ = aRun rest ⟨(nm, p0 ++ l, []) :: rs, false, rt, ns, ps + l.length⟩
  | [], p0, ps, _ => by simp
  | x :: l, p0, ps, h => by
    simp only [List.length_cons] at h
    rw [List.map_cons, List.cons_append, aRun_cons (a' := ⟨(nm, p0 ++ [x], []) :: rs, false, rt, ns, ps + 1⟩)]
    · rw [run_props nm rs rt ns rest l (p0 ++ [x]) (ps + 1) (by omega)]
      simp only [List.append_assoc, List.singleton_append, List.length_cons]
      rw [show ps + 1 + (l.length : Int) = ps + ((l.length + 1 : Nat) : Int) by omega]
    · have hp : ¬ ps = 256 := by omega
      simp [aStepT, tokP, tokR, aStep, hp]
theorem step_end (r q : ARow) (rs : List ARow) (rt : PT) (ns ps : Int) : aStepT ⟨r :: q :: rs, false, rt, ns, ps⟩ (tokR 2 ByteArray.empty ByteArray.empty) = (0, ⟨(q.1, q.2.1, q.2.2 ++ [nodeT r]) :: rs, false, rt, ns, ps⟩) := by
  simp [aStepT, tokR, aStep]
theorem step_root (r : ARow) (rt : PT) (ns ps : Int) : aStepT ⟨[r], false, rt, ns, ps⟩ (tokR 2 ByteArray.empty ByteArray.empty) = (0, ⟨[], true, nodeT r, ns, ps⟩) := by
  simp [aStepT, tokR, aStep]
theorem step_begin (nm : ByteArray) (st : List ARow) (rt : PT) (ns ps : Int) (h : st.length < 8) (h2 : ns < 64) : aStepT ⟨st, false, rt, ns, ps⟩ (tokR 1 nm ByteArray.empty) = (0, ⟨(nm, [], []) :: st, false, rt, ns + 1, ps⟩) := by
  have h8 : ¬ st.length = 8 := by omega
  have h9 : ¬ ns = 64 := by omega
  simp [aStepT, tokR, aStep, h8, h9]
mutual
theorem run_kid : ∀ (p : PT) (r : ARow) (rs : List ARow) (rt : PT) (ns ps : Int) (rest : List (RowT tokK)), rs.length + 1 + dpP p ≤ 8 → ns + nsP p ≤ 64 → ps + ppP p ≤ 256 → aRun (tkP p ++ rest) ⟨r :: rs, false, rt, ns, ps⟩ = aRun rest ⟨(r.1, r.2.1, r.2.2 ++ [p]) :: rs, false, rt, ns + nsP p, ps + ppP p⟩
  | .mk nm pl ks, r, rs, rt, ns, ps, rest, h1, h2, h3 => by
    simp only [dpP, nsP, ppP] at h1 h2 h3
    simp only [tkP, nsP, ppP, List.cons_append, List.append_assoc]
    rw [aRun_cons _ _ (step_begin nm (r :: rs) rt ns ps (by simp only [List.length_cons]; omega) (by omega))]
    rw [run_props nm (r :: rs) rt (ns + 1) _ pl [] ps (by omega)]
    simp only [List.nil_append]
    rw [run_kids ks (nm, pl, []) (r :: rs) rt (ns + 1) (ps + pl.length) _ (by simp only [List.length_cons]; omega) (by omega) (by omega)]
    simp only [List.nil_append, List.cons_append]
    rw [aRun_cons _ _ (step_end _ _ _ _ _ _)]
    simp only [nodeT]
    rw [show ns + 1 + (nsPL ks : Int) = ns + ((1 + nsPL ks : Nat) : Int) by omega, show ps + (pl.length : Int) + (ppPL ks : Int) = ps + ((pl.length + ppPL ks : Nat) : Int) by omega]
theorem run_kids : ∀ (l : List PT) (r : ARow) (rs : List ARow) (rt : PT) (ns ps : Int) (rest : List (RowT tokK)), rs.length + 1 + dpPL l ≤ 8 → ns + nsPL l ≤ 64 → ps + ppPL l ≤ 256 → aRun (tkPL l ++ rest) ⟨r :: rs, false, rt, ns, ps⟩ = aRun rest ⟨(r.1, r.2.1, r.2.2 ++ l) :: rs, false, rt, ns + nsPL l, ps + ppPL l⟩
  | [], r, rs, rt, ns, ps, rest, _, _, _ => by simp [tkPL, nsPL, ppPL]
  | p :: l, r, rs, rt, ns, ps, rest, h1, h2, h3 => by
    simp only [dpPL, nsPL, ppPL] at h1 h2 h3
    simp only [tkPL, nsPL, ppPL, List.append_assoc]
    rw [run_kid p r rs rt ns ps _ (by omega) (by omega) (by omega)]
    rw [run_kids l _ rs rt _ _ rest (by omega) (by omega) (by omega)]
    simp only [List.append_assoc, List.singleton_append]
    rw [show ns + (nsP p : Int) + (nsPL l : Int) = ns + ((nsP p + nsPL l : Nat) : Int) by omega, show ps + (ppP p : Int) + (ppPL l : Int) = ps + ((ppP p + ppPL l : Nat) : Int) by omega]
end
theorem absZ_z0 : absZ z0 = ⟨[], false, .mk ByteArray.empty [] [], 0, 0⟩ := rfl
theorem run_root (p : PT) (h1 : dpP p ≤ 8) (h2 : nsP p ≤ 64) (h3 : ppP p ≤ 256) : aRun (tkP p) (absZ z0) = (0, ⟨[], true, p, nsP p, ppP p⟩) := by
  obtain ⟨nm, pl, ks⟩ := p
  simp only [dpP, nsP, ppP] at h1 h2 h3
  simp only [tkP, nsP, ppP]
  rw [absZ_z0, aRun_cons _ _ (step_begin nm [] _ 0 0 (by decide) (by decide))]
  rw [run_props nm [] _ _ _ pl [] 0 (by omega)]
  simp only [List.nil_append]
  rw [run_kids ks (nm, pl, []) [] _ _ _ _ (by simp only [List.length_nil]; omega) (by omega) (by omega)]
  rw [aRun_cons _ _ (step_root _ _ _ _)]
  simp only [nodeT, List.nil_append, aRun]
  rw [show (0 : Int) + 1 + (nsPL ks : Int) = ((1 + nsPL ks : Nat) : Int) by omega, show (0 : Int) + (pl.length : Int) + (ppPL ks : Int) = ((pl.length + ppPL ks : Nat) : Int) by omega]
theorem back_fits {n : PNode} (hf : Few n) (h : fitsF n = true) : ofE (toksF 8 n) = 0 ∧ ofR (toksF 8 n) = erase n := by
  have hw := hf.few
  obtain ⟨h1, h2, h3⟩ := (fits_parts (by omega) (by omega)).1 h
  rw [toksF_tk 8 n h3]
  unfold ofE ofR
  rw [run_root _ h3 h1 h2]
  exact ⟨rfl, rfl⟩
/-! ### what came of tokens has those -/
def bareK (kd : Int) (nm vl : ByteArray) : RowT tokK := if kd = 1 then tokR 1 nm ByteArray.empty else if kd = 3 then tokR kd nm vl else tokR kd ByteArray.empty ByteArray.empty
def bareA (kd : Int) (nm vl : ByteArray) : List (RowT tokK) := if kd = 4 then [] else [bareK kd nm vl]
def bareT (t : RowT tokK) : RowT tokK := bareK t.1 t.2.1 t.2.2.1
def bareL : List (RowT tokK) → List (RowT tokK)
  | [] => []
  | t :: ts => if t.1 = 4 then bareL ts else bareT t :: bareL ts
def rowTk (r : ARow) : List (RowT tokK) := tokR 1 r.1 ByteArray.empty :: (r.2.1.map tokP ++ tkPL r.2.2)
def stTk : List ARow → List (RowT tokK)
  | [] => []
  | r :: rs => stTk rs ++ rowTk r
def stNs : List ARow → Nat
  | [] => 0
  | r :: rs => stNs rs + (1 + nsPL r.2.2)
def stPs : List ARow → Nat
  | [] => 0
  | r :: rs => stPs rs + (r.2.1.length + ppPL r.2.2)
def stDp : List ARow → Prop
  | [] => True
  | r :: rs => dpPL r.2.2 + rs.length + 1 ≤ 8 ∧ stDp rs
structure Inv (a : AB) (T : List (RowT tokK)) : Prop where
  ns : a.ns ≤ 64
  ps : a.ps ≤ 256
  on : a.d = false → T = stTk a.st ∧ a.ns = stNs a.st ∧ a.ps = stPs a.st ∧ stDp a.st
  off : a.d = true → T = tkP a.rt ∧ a.ns = nsP a.rt ∧ a.ps = ppP a.rt ∧ dpP a.rt ≤ 8
theorem tkPL_append : ∀ l m : List PT, tkPL (l ++ m) = tkPL l ++ tkPL m
  | [], m => rfl
  | n :: l, m => by simp only [List.cons_append, tkPL, tkPL_append l m, List.append_assoc]
theorem nsPL_append : ∀ l m : List PT, nsPL (l ++ m) = nsPL l + nsPL m ∧ ppPL (l ++ m) = ppPL l + ppPL m ∧ dpPL (l ++ m) = max (dpPL l) (dpPL m)
  | [], m => by simp [nsPL, ppPL, dpPL]
  | n :: l, m => by
    have := nsPL_append l m
    simp only [List.cons_append, nsPL, ppPL, dpPL]; omega
theorem tkP_node (r : ARow) : tkP (nodeT r) = rowTk r ++ [tokR 2 ByteArray.empty ByteArray.empty] := by
  simp only [nodeT, tkP, rowTk, List.cons_append, List.append_assoc]
theorem inv_aStep {a : AB} {T : List (RowT tokK)} (h : Inv a T) (kd : Int) (nm vl : ByteArray) (h0 : (aStep a kd nm vl).1 = 0) : Inv (aStep a kd nm vl).2 (T ++ bareA kd nm vl) := by
  simp only [bareA, bareK]
  unfold aStep at h0 ⊢
  split at h0
  · rename_i h4
    simp only [if_pos h4, List.append_nil]
    exact h
  · rename_i h4
    split at h0
    · cases h0
    · rename_i hc
      simp only [not_or, Bool.not_eq_true] at hc
      obtain ⟨hk1, hk3, hd⟩ := hc
      rw [if_neg h4, if_neg (by simp [hk1, hk3, hd]), if_neg h4]
      obtain ⟨e1, e2, e3, e4⟩ := h.on hd
      have hns := h.ns; have hps := h.ps
      split at h0
      · rename_i hk
        split at h0
        · cases h0
        · rename_i h8
          split at h0
          · cases h0
          · rename_i h9
            rw [if_pos hk, if_neg h8, if_neg h9, if_pos hk]
            have hlen : a.st.length ≤ 7 ∨ 8 < a.st.length := by omega
            refine ⟨by simp only; omega, hps, fun _ => ⟨?_, ?_, ?_, ?_⟩, fun h => by simp only [hd] at h; cases h⟩
            · simp only [stTk, rowTk, List.map_nil, tkPL, List.append_nil]; rw [e1]
            · simp only [stNs, nsPL]; omega
            · simp only [stPs, ppPL, List.length_nil]; omega
            · simp only [stDp, dpPL]
              refine ⟨?_, e4⟩
              rcases hlen with h | h
              · omega
              · exfalso
                cases hst : a.st with
                | nil => rw [hst] at h; simp at h
                | cons r rs =>
                  rw [hst] at h e4
                  simp only [stDp, List.length_cons] at e4 h
                  omega
      · rename_i hk
        split at h0
        · cases h0
        · rename_i r rs hst
          rw [hst] at e1 e2 e3 e4
          simp only [stTk, stNs, stPs, stDp] at e1 e2 e3 e4
          simp only [if_neg hk]
          split at h0
          · rename_i h3
            split at h0
            · cases h0
            · rename_i h5
              split at h0
              · cases h0
              · rename_i h6
                rw [if_pos h3, if_neg h5, if_neg h6, if_pos h3]
                have h5 : r.2.2 = [] := by simpa using h5
                refine ⟨hns, by simp only; omega, fun _ => ⟨?_, ?_, ?_, ?_⟩, fun h => by simp only [hd] at h; cases h⟩
                · simp only [stTk, rowTk, e1, h5, tkPL, List.append_nil, List.map_append, List.map_cons, List.map_nil, List.append_assoc, List.cons_append, List.nil_append, tokP, tokR, h3]; rfl
                · simp only [stNs]; omega
                · simp only [stPs, List.length_append, List.length_cons, List.length_nil]; omega
                · simp only [stDp]; exact e4
          · rename_i h3
            have h2 : kd = 2 := by omega
            rw [if_neg h3]
            simp only [if_neg h3]
            subst h2
            split at h0
            · simp only [stTk, stNs, stPs, stDp, List.length_nil, List.nil_append] at e1 e2 e3 e4
              refine ⟨hns, hps, fun h => (by cases h), fun _ => ⟨?_, ?_, ?_, ?_⟩⟩
              · rw [e1]; exact (tkP_node r).symm
              · simp only [nodeT, nsP]; omega
              · simp only [nodeT, ppP]; omega
              · simp only [nodeT, dpP]; omega
            · rename_i q qs
              simp only [stTk, stNs, stPs, stDp, List.length_cons] at e1 e2 e3 e4
              have hap := nsPL_append q.2.2 [nodeT r]
              simp only [nsPL, ppPL, dpPL, nodeT, nsP, ppP, dpP] at hap
              refine ⟨hns, hps, fun _ => ⟨?_, ?_, ?_, ?_⟩, fun h => by simp only [hd] at h; cases h⟩
              · rw [e1]
                have := tkP_node r
                simp only [stTk, rowTk, tkPL_append, tkPL, List.append_nil, List.append_assoc, List.cons_append] at this ⊢
                rw [this]
              · simp only [stNs, nodeT]; omega
              · simp only [stPs, nodeT]; omega
              · simp only [stDp, nodeT]; exact ⟨by omega, e4.2.2⟩
theorem inv_step {a : AB} {T : List (RowT tokK)} (h : Inv a T) (t : RowT tokK) (h0 : (aStepT a t).1 = 0) : Inv (aStepT a t).2 (T ++ bareL [t]) := inv_aStep h t.1 t.2.1 t.2.2.1 h0
theorem bareL_cons (t : RowT tokK) (l : List (RowT tokK)) : bareL (t :: l) = bareL [t] ++ bareL l := by
  simp only [bareL]; split <;> rfl
theorem inv_run : ∀ (l : List (RowT tokK)) (a : AB) (T : List (RowT tokK)), Inv a T → (aRun l a).1 = 0 → Inv (aRun l a).2 (T ++ bareL l)
  | [], a, T, h, _ => by simpa [aRun, bareL] using h
  | t :: l, a, T, h, h0 => by
    rw [aRun] at h0 ⊢
    split at h0
    · rename_i hne; exact absurd h0 hne
    · rename_i he
      rw [if_neg he, bareL_cons, ← List.append_assoc]
      exact inv_run l _ _ (inv_step h t (by simpa using he)) h0
theorem inv0 : Inv (absZ z0) [] := ⟨by decide, by decide, fun _ => ⟨rfl, rfl, rfl, trivial⟩, fun h => by cases h⟩
theorem of_done {l : List (RowT tokK)} (h : ofE l = 0) {n : PNode} (hn : erase n = ofR l) : fitsF n = true ∧ toksF 8 n = bareL l := by
  unfold ofE at h
  split at h
  · rename_i hne; exact absurd h hne
  · rename_i h0
    split at h
    · rename_i hd
      have hi := inv_run l _ _ inv0 (by simpa using h0)
      obtain ⟨e1, e2, e3, e4⟩ := hi.off hd
      have h1 := hi.ns; have h2 := hi.ps
      unfold ofR at hn
      rw [← hn] at e1 e2 e3 e4
      refine ⟨(fits_parts (by omega) (by omega)).2 ⟨by omega, by omega, e4⟩, ?_⟩
      rw [toksF_tk 8 n e4, ← e1, List.nil_append]
    · cases h
theorem of_done_len {l : List (RowT tokK)} : (bareL l).length ≤ l.length := by
  induction l with
  | nil => exact Nat.le_refl _
  | cons t l ih =>
    rw [bareL]
    split
    · simp only [List.length_cons]; omega
    · simp only [List.length_cons]; omega
end Go.Proofs.Ytdimocgjcneedaa
