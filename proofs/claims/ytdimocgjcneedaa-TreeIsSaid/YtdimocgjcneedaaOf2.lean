/-
  The tree of tokens: the entries.
-/
import Derived.Test.YtdimocgjcneedaaOf
set_option linter.unusedVariables false
set_option linter.unusedSimpArgs false
namespace Go.Proofs.Ytdimocgjcneedaa
open Sx
set_option maxRecDepth 100000
set_option maxHeartbeats 4000000
/-- a call in an empty memory, of which nothing is kept -/
def emptyE (e : Entry) : Entry := (e.1, fun args mem => match loL 0 args with
  | true => (e.2 args []).map fun T => T.bind fun r => match r.1.lo 0 with
    | true => .ok (r.1, mem)
    | false => .fail 181
  | false => none)
theorem emptyE_ok {P : Program} {e : Entry} (he : EntryOK P e) : EntryOK P (emptyE e) := by
  intro args mem tr htr ρ w0 X w ys R hm hf hargs hR
  simp only [emptyE] at htr
  split at htr
  · rename_i hla
    obtain ⟨T, hT, rfl⟩ := Option.map_eq_some_iff.1 htr
    rw [Tr.holds_bind] at hR
    have hm0 : MemOK ⟨fun _ => none, ρ.base⟩ w ⟨fun _ => False, ρ.base⟩ [] w := ⟨fun i b hi => by simp at hi, fun _ _ => rfl, fun i j bi bj ri rj _ hi => by simp at hi, fun i b k hi => by simp at hi, fun i j bi bj rj k hi => by simp at hi, fun i j bi bj k _ hi => by simp at hi, hm.base, fun i b r hi => by simp at hi, fun k o hk => .inl hk⟩
    have hC := he args [] T hT ⟨fun _ => none, ρ.base⟩ w ⟨fun _ => False, ρ.base⟩ w ys _ hm0 (Frm.refl w _) (RelL.down (n := 0) (ρ' := ρ) (ρ := ⟨fun _ => none, ρ.base⟩) ⟨fun i hi => absurd hi (Nat.not_lt_zero _), Base.le_refl _⟩ args hla hargs) hR
    refine hC.mono ?_
    rintro e w' ⟨ρ', s, v, mem', rfl, he, hr, hmm, hfr, hs⟩
    simp only at hs
    split at hs
    · rename_i hlr
      have hl := hm.later (w' := w') (fun k hk => hfr.block k hk id) hfr.size
      have hnew : ∀ k, k < w.heap.size → ρ.base k = none → ρ'.base k = none := fun k hk hn => by
        cases hb : ρ'.base k with
        | none => rfl
        | some o =>
          rcases hmm.grow k o hb with h1 | h1 | h1
          · have h1 : ρ.base k = some o := h1
            rw [hn] at h1; cases h1
          · omega
          · exact h1.elim
      have he2 : Ext ρ ⟨ρ.at_, ρ'.base⟩ := ⟨fun _ _ h => h, he.base⟩
      have hm2 : MemOK ⟨ρ.at_, ρ'.base⟩ w0 X mem w' := by
        refine ⟨fun i b hi => ?_, hl.past, hl.apart, fun i b k hi hk => ?_, hl.moreA, hl.moreB, hmm.base, fun i b r hi hrw hr hh => ?_, fun k o hk => ?_⟩
        · obtain ⟨r, h1, h2, h3⟩ := hl.blk i b hi
          exact ⟨r, h1, h2.mono he2, h3⟩
        · have h1 := hl.more i b k hi hk
          exact ⟨h1.1, fun hrw => ⟨(h1.2 hrw).1, hnew k (hm.more i b k hi hk).1 (h1.2 hrw).2⟩⟩
        · obtain ⟨r', h1, _, h3⟩ := hm.blk i b hi
          rw [show ρ i = some r from hr] at h1; cases h1
          exact hnew _ (h3 hh).1 (hl.free i b r hi hrw hr hh)
        · rcases hmm.grow k o hk with h1 | h1 | h1
          · exact hm.grow k o h1
          · exact .inr (.inl (Nat.le_trans hf.size h1))
          · exact h1.elim
      refine ⟨⟨ρ.at_, ρ'.base⟩, s, v, mem, rfl, he2, Rel.down (n := 0) (ρ' := ρ') (ρ := ⟨ρ.at_, ρ'.base⟩) ⟨fun i hi => absurd hi (Nat.not_lt_zero _), Base.le_refl _⟩ s hlr hr, hm2, ⟨hfr.os.trans hf.os, hfr.tape.trans hf.tape, hfr.output.trans hf.output, Nat.le_trans hf.size hfr.size, fun k hk hx => ?_⟩, hs⟩
      rw [hfr.block k (Nat.lt_of_lt_of_le hk hf.size) id]; exact hf.block k hk hx
    · exact hs.elim
  · cases htr
/-- an entry, told in other words -/
theorem implE_ok {P : Program} {f : FuncId} {e : List SV → List Blk → Option (Tr (SV × List Blk))} {g : List SV → List Blk → Option (Tr (SV × List Blk))} (he : EntryOK P (f, e)) (h : ∀ args mem T, g args mem = some T → ∃ args' T0, (∀ (ρ : Sx.Loc) ys, RelL ρ args ys → RelL ρ args' ys) ∧ e args' mem = some T0 ∧ ∀ R, T.holds R → T0.holds R) : EntryOK P (f, g) := by
  intro args mem T hT ρ w0 X w ys R hm hf hargs hR
  obtain ⟨args', T0, h1, h2, h3⟩ := h args mem T hT
  exact he args' mem T0 h2 ρ w0 X w ys R hm hf (h1 ρ ys hargs) (h3 R hR)
/-! ### the tree of tokens -/
def ofE (l : List (RowT tokK)) : Int := if (aRun l (absZ z0)).1 ≠ 0 then (aRun l (absZ z0)).1 else if (aRun l (absZ z0)).2.d = true then 0 else 6
def ofR (l : List (RowT tokK)) : PT := (aRun l (absZ z0)).2.rt
def of0T (l : List (RowT tokK)) : Tr (SV × List Blk) := .br (decide (ofE l = 0)) (.all BZ (fun z => BOK z ∧ z.d = true ∧ aRun l (absZ z0) = (0, absZ z)) fun z => .ok (ofOk z)) (.ok (ofNo (ofE l)))
def of0G (args : List SV) (mem : List Blk) : Option (Tr (SV × List Blk)) := match args, mem with
  | [.sv (.sl [.int .i64, .str, .str]) (v, l)], [] => some (.need (l.length ≤ 10000000) (of0T l))
  | _, _ => none
theorem of0_cases {l : List (RowT tokK)} {r : SV × List Blk} {t : Tr (SV × List Blk)} (h1 : (aRun l (absZ z0)).1 ≠ 0 → t.Holds (Post 0 (.ok (ofNo (aRun l (absZ z0)).1)))) (h2 : (aRun l (absZ z0)).1 = 0 → (aRun l (absZ z0)).2.d = false → t.Holds (Post 0 (.ok (ofNo 6)))) (h3 : (aRun l (absZ z0)).1 = 0 → (aRun l (absZ z0)).2.d = true → t.Holds (Post 0 (.all BZ (fun z => BOK z ∧ z.d = true ∧ aRun l (absZ z0) = (0, absZ z)) fun z => .ok (ofOk z)))) : t.Holds (Post 0 (of0T l)) := by
  by_cases h : (aRun l (absZ z0)).1 = 0
  · cases hd : (aRun l (absZ z0)).2.d with
    | true => exact (h3 h hd).mono fun r hr => Post.yes (decide_eq_true (by unfold ofE; rw [if_neg (by simpa using h), if_pos hd])) hr
    | false =>
      have e : ofE l = 6 := by unfold ofE; rw [if_neg (by simpa using h), if_neg (by rw [hd]; decide)]
      exact (h2 h hd).mono fun r hr => Post.no (decide_eq_false (by rw [e]; decide)) (by rw [e]; exact hr)
  · have e : ofE l = (aRun l (absZ z0)).1 := by unfold ofE; rw [if_pos h]
    exact (h1 h).mono fun r hr => Post.no (decide_eq_false (by rw [e]; exact h)) (by rw [e]; exact hr)
theorem of0_ok : EntryOK Try.prog (toldE 8 of0G) := toldE_ok hng hmix (l := []) (cut := fun f _ => f == 8) (wr := noWr) (by simp) 400 8 Try.func8 (by kernel_rfl) (by simp) (by
  intro args mem T hT R hR
  unfold of0G at hT
  split at hT
  · rename_i v l
    cases hT
    have hl := hR.1
    exact (of0_cases (r := (.any, [])) (of_err v l hl) (of_form v l hl) (of_okay v l hl)).mono fun r h => Post.need h
  · cases hT)
def nodeZ : SV := .agg [.v (.string ByteArray.empty), .sv (.sl propK) (nilV, []), .sv .nodes (nilV, [])]
def ofT (l : List (RowT tokK)) (mem : List Blk) : Tr (SV × List Blk) := .need (l.length ≤ 10000000) (.br (decide (ofE l = 0)) (.all PNode (fun n => erase n = ofR l ∧ okT n) fun n => .ok (.tup [nodeSV n, i 0], mem)) (.ok (.tup [nodeZ, i (ofE l)], mem)))
def ofG (args : List SV) (mem : List Blk) : Option (Tr (SV × List Blk)) := match args with
  | [s] => (CK.of (.sl tokK) s).map fun x => ofT x.2 mem
  | _ => none
def rootN (z : BZ) : PNode := .mk z.rn z.rp.1 (z.rp.2.2.take z.rp.2.2.length) z.rk.1 ((z.rk.2.2.take z.rk.2.2.length).map PNode.ofRow)
theorem pt_take (nm : ByteArray) (ps : List (RowT propK)) (ks : List (RowT nodeK)) : PT.mk nm (ps.take ps.length) (((ks.take ks.length).map PNode.ofRow).map erase) = PT.mk nm ps ((ks.map PNode.ofRow).map erase) := by
  have h1 : ps.take ps.length = ps := List.take_length
  have h2 : ks.take ks.length = ks := List.take_length
  exact congr (congrArg (fun (a : List (RowT propK)) => PT.mk nm a) h1) (congrArg (fun (b : List (RowT nodeK)) => (b.map PNode.ofRow).map erase) h2)
theorem settle_of (z : BZ) : ∃ m, settleRes nodeK (ofOk z).1 (ofOk z).2 = Tr.need (0 < z.l.length ∧ cellAt 50 propK openK (z.l.getD 0 (RowT.dflt openK)) 1 = some z.rp ∧ z.rp.2.1 = true) (Tr.need (z.rp.2.2.length ≤ z.rp.2.2.length) (Tr.need (0 < (z.l.set 0 (holeAt openK (z.l.getD 0 (RowT.dflt openK)) 1)).length ∧ cellAt 28 nodeK openK ((z.l.set 0 (holeAt openK (z.l.getD 0 (RowT.dflt openK)) 1)).getD 0 (RowT.dflt openK)) 2 = some z.rk ∧ z.rk.2.1 = true) (Tr.need (z.rk.2.2.length ≤ z.rk.2.2.length) (Tr.ok (.tup [nodeSV (rootN z), i 0], m))))) := ⟨[ownB ((z.l.set 0 (holeAt openK (z.l.getD 0 (RowT.dflt openK)) 1)).set 0 (holeAt openK ((z.l.set 0 (holeAt openK (z.l.getD 0 (RowT.dflt openK)) 1)).getD 0 (RowT.dflt openK)) 2)), deadB, deadB], by kernel_rfl⟩
theorem settle_no (e : Int) : settleRes nodeK (ofNo e).1 (ofNo e).2 = .ok (.tup [nodeZ, i e], []) := by kernel_rfl
theorem of_impl {f : FuncId} (h0 : EntryOK Try.prog (toldE f of0G)) : EntryOK Try.prog (f, ofG) := by
  refine implE_ok (e := (emptyE (restE nodeK (toldE f of0G))).2) (emptyE_ok (restE_ok h0)) fun args mem T hT => ?_
  unfold ofG at hT
  split at hT
  · rename_i s
    obtain ⟨⟨v, l⟩, hx, rfl⟩ := Option.map_eq_some_iff.1 hT
    refine ⟨[.sv (.sl tokK) (v, l)], _, fun ρ ys hr => ?_, rfl, fun R hR => ?_⟩
    · obtain ⟨y, ys', rfl, h1, h2⟩ := hr.cons_inv
      exact .cons (CK.toSV_rel hx h1) h2
    · rw [Tr.holds_bind, Tr.holds_bind]
      obtain ⟨hl, hR⟩ := hR
      refine ⟨hl, fun _ => ?_⟩
      obtain ⟨hy, hn⟩ := hR hl
      refine ⟨fun hc z hz => ?_, fun hc => ?_⟩
      · obtain ⟨hB, hd, hrun⟩ := hz
        obtain ⟨r1, r2, r3⟩ := hB.rt hd
        obtain ⟨m, hm⟩ := settle_of z
        show (settleRes nodeK (ofOk z).1 (ofOk z).2).holds _
        rw [hm]
        have e1 : cellAt 50 propK openK (z.l.getD 0 (RowT.dflt openK)) 1 = some z.rp := by rw [r2]; rfl
        have e2 : cellAt 28 nodeK openK ((z.l.set 0 (holeAt openK (z.l.getD 0 (RowT.dflt openK)) 1)).getD 0 (RowT.dflt openK)) 2 = some z.rk := by rw [getD_set r1, r2]; rfl
        refine ⟨⟨r1, e1, r3.1⟩, fun _ => ⟨Nat.le_refl _, fun _ => ⟨⟨by simpa using r1, e2, r3.2⟩, fun _ => ⟨Nat.le_refl _, fun _ => ?_⟩⟩⟩⟩
        refine hy hc (rootN z) ?_
        have er : erase (rootN z) = ofR l := by
          unfold ofR; rw [hrun, erase_eq]
          exact pt_take _ _ _
        refine ⟨er, (okT_erase _).2 ?_⟩
        have := hB.a.rt
        rw [er]; unfold ofR; rw [hrun]; exact this
      · simp only [Tr.holds]
        rw [settle_no]
        exact hn hc
  · cases hT
def eOf : Entry := (8, ofG)
theorem of_ok : EntryOK Try.prog eOf := of_impl of0_ok
end Go.Proofs.Ytdimocgjcneedaa
