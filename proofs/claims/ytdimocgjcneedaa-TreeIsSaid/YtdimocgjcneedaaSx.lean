import Derived.Test.YtdimocgjcneedaaSw
set_option linter.unusedVariables false
set_option linter.unusedSimpArgs false
namespace Go.Proofs.Ytdimocgjcneedaa.Sx

/-! ## 8. The run is sound -/
section
variable {P : Program} {w0 : World} {X : Lim} {α : Type} {R : α → Prop}
def CallPost (ρ : Loc) (w0 : World) (X : Lim) (R : SV × List Blk → Prop) (e : Ending) (w' : World) : Prop :=
  ∃ ρ' s v mem', e = .returned v ∧ Ext ρ ρ' ∧ Rel ρ' s v ∧ MemOK ρ' w0 X mem' w' ∧ Frm w0 X w' ∧ R (s, mem')
/-- the environment's words are true -/
def EnvOK (P : Program) (Γ : Env) : Prop :=
  ∀ f args mem tr, Γ.call f args mem = some tr → ∀ (ρ : Loc) (w0 : World) (X : Lim) (w : World) (ys : List Value) (R : SV × List Blk → Prop), MemOK ρ w0 X mem w → Frm w0 X w → RelL ρ args ys → tr.holds R →
    Calls P f ys.toArray w (CallPost ρ w0 X R)
def NoNG (P : Program) : Prop := ∀ (f : Nat) fn, P.funcs[f]? = some fn → (fn.name == "runtime.NumGoroutine") = false
def CallFOK (P : Program) (w0 : World) (X : Lim) (R : α → Prop) (callF : CallF α) : Prop :=
  ∀ f args mem k' (ρ : Loc) (w : World) (ys : List Value), MemOK ρ w0 X mem w → Frm w0 X w → RelL ρ args ys → (callF f args mem k').holds R →
    (∃ fn c, P.funcs[f]? = some fn ∧ fn.body = some c) ∧ Calls P f ys.toArray w (CallPost ρ w0 X fun r => (k' r.1 r.2).holds R)
theorem run_callFunc (hng : NoNG P) {f : FuncId} {args : Array Value} {fn : Func} {c : Code} (hf : P.funcs[f]? = some fn) (hc : fn.body = some c) (w : World) :
    (callFunc f args).run P w = .ok (.enter f args) w := by
  have h := hng f fn hf
  simp only [callFunc, Sem.run_bind, run_program, Result.andThen_ok, hf, h, Bool.false_eq_true, if_false, hc, Option.isNone_some, Sem.run_pure]
theorem wp_value {o : Oper} {a : Act} {w : World} {next : Act → World → Prop} {Q : Exit → Act → World → Prop} {y : Value} (h : (execOp a.eval o).run P w = .ok (.value y) w) (hn : next (a.put o.dst y) w) : o.wp P a w next Q := by
  unfold Oper.wp; rw [h]; exact hn
theorem pickIdx_holds {i : Int} {k : Nat → Tr α} : ∀ (n j : Nat), (pickIdx i n j k).holds R → ∃ m, j ≤ m ∧ m < j + n ∧ i = (m : Int) ∧ (k m).holds R
  | 0, j, h => by simp [pickIdx, Tr.holds] at h
  | n + 1, j, h => by
    simp only [pickIdx, Tr.holds] at h
    by_cases hi : i = (j : Int)
    · exact ⟨j, Nat.le_refl _, by omega, hi, h.1 (by simpa using hi)⟩
    · obtain ⟨m, h1, h2, h3, h4⟩ := pickIdx_holds n (j + 1) (h.2 (by simpa using hi))
      exact ⟨m, by omega, by omega, h3, h4⟩
theorem withIdx_holds {i : Int} {len : Nat} {k : Nat → Tr α} (h : (withIdx i len k).holds R) : ∃ m, m < len ∧ i = (m : Int) ∧ (k m).holds R := by
  unfold withIdx at h
  split at h
  · obtain ⟨m, _, h2, h3, h4⟩ := pickIdx_holds _ _ h
    exact ⟨m, by omega, h3, h4⟩
  · split at h
    · rename_i n
      split at h
      · rename_i hn; exact ⟨n, hn, rfl, h⟩
      · exact h.elim
    · exact h.elim
theorem idxAddr_sound {ρ : Loc} {t : TypeId} {s i : SV} {k : SV → Tr α} {y yi : Value} (hs : Rel ρ s y) (hi : Rel ρ i yi) (h : (idxAddr P t s i k).holds R) :
    ∃ s' y', (∀ w, (Instr.indexAt t y yi).run P w = .ok y' w) ∧ Rel ρ s' y' ∧ (k s').holds R := by
  unfold idxAddr at h
  split at h
  · rename_i kd i
    simp only [Rel] at hi
    subst hi
    split at h
    · rename_i len e b off hu
      simp only [Rel] at hs
      obtain ⟨r, hr, rfl⟩ := hs
      split at h
      · rename_i sz hsz
        split at h
        · exact h.elim
        · rename_i hlen
          obtain ⟨m, hm, rfl, hk⟩ := withIdx_holds h
          refine ⟨_, .pointer (some ⟨r.1, r.2 + (off + m * sz), none⟩), fun w => ?_, by simp only [Rel]; exact ⟨r, hr, rfl⟩, hk⟩
          simp [Instr.indexAt, asIntOf, run_underlying hu, Instr.sureAddr, run_size hsz, addr_add, hm, hlen, Nat.add_assoc]
      · exact h.elim
    · rename_i len e b sz' k' j' hu
      simp only [Rel] at hs
      obtain ⟨r, hr, rfl⟩ := hs
      split at h
      · rename_i sz hsz
        split at h
        · exact h.elim
        · rename_i hlen
          obtain ⟨m, hm, rfl, hk⟩ := withIdx_holds h
          refine ⟨_, .pointer (some ⟨r.1, r.2 + (k' * sz' + (j' + m * sz)), none⟩), fun w => ?_, by simp only [Rel]; exact ⟨r, hr, rfl⟩, hk⟩
          simp [Instr.indexAt, asIntOf, run_underlying hu, Instr.sureAddr, run_size hsz, addr_add, hm, hlen, Nat.add_assoc]
      · exact h.elim
    · rename_i e b off len cap hu
      simp only [Rel] at hs
      obtain ⟨r, hr, rfl⟩ := hs
      split at h
      · rename_i sz hsz
        obtain ⟨m, hm, rfl, hk⟩ := withIdx_holds h
        refine ⟨_, .pointer (some ⟨r.1, r.2 + (off + m * sz), none⟩), fun w => ?_, by simp only [Rel]; exact ⟨r, hr, rfl⟩, hk⟩
        simp [Instr.indexAt, asIntOf, run_underlying hu, run_size hsz, addr_add, hm, Nat.add_assoc]
      · exact h.elim
    · rename_i e b sz k' len cap hu
      simp only [Rel] at hs
      obtain ⟨r, hr, rfl⟩ := hs
      split at h
      · rename_i hsz
        obtain ⟨hb, hk⟩ := h
        refine ⟨_, .pointer (some ⟨r.1, r.2 + (k' * sz + i.toNat * sz), none⟩), fun w => ?_, by simp only [Rel]; exact ⟨r, hr, by rw [nadd_eq, Nat.add_mul]; rfl⟩, hk hb⟩
        simp [Instr.indexAt, asIntOf, run_underlying hu, run_size hsz, addr_add, hb, Nat.add_assoc]
      · exact h.elim
    · rename_i e b sz k' len hu
      simp only [Rel] at hs
      obtain ⟨r, hr, rfl, hpos⟩ := hs
      split at h
      · rename_i hsz
        obtain ⟨hb, hk⟩ := h
        obtain ⟨hp, hc⟩ := hpos (by omega)
        refine ⟨_, .pointer (some ⟨r.1, r.2 + (k' * sz + i.toNat * sz), none⟩), fun w => ?_, by simp only [Rel]; exact ⟨r, hr, by rw [nadd_eq, Nat.add_mul]; rfl⟩, hk hb⟩
        rw [if_neg (by omega), hp]
        simp [Instr.indexAt, asIntOf, run_underlying hu, run_size hsz, addr_add, hb, Nat.add_assoc]
      · exact h.elim
    · rename_i e c x hu
      split at h
      · rename_i hc
        obtain ⟨hsz, hst⟩ := hc
        obtain ⟨hb, hk⟩ := h
        unfold Rel at hs
        obtain ⟨rfl, hg⟩ := hs
        obtain ⟨a, cap, e1, e2, e3⟩ := CK.stab_slc c x hst hg
        obtain ⟨b, o, rfl⟩ := e3 (by omega)
        refine ⟨_, .pointer (some ⟨b, o + i.toNat * stabSz c, none⟩), fun w => ?_, by unfold Rel; exact ⟨hg, b, o, cap, e1, by simp⟩, hk hb⟩
        rw [e1]
        simp [Instr.indexAt, asIntOf, run_underlying hu, run_size hsz, addr_add, hb, Nat.add_assoc]
      · exact h.elim
    · rename_i e b k' j e' ks x hu
      simp only [Rel] at hs
      obtain ⟨rfl, a, cap, e1, e3⟩ := hs
      split at h
      · rename_i hsz
        obtain ⟨hb, hk⟩ := h
        obtain ⟨b, o, rfl⟩ := e3 (by omega)
        refine ⟨_, .pointer (some ⟨b, o + i.toNat * ks.length, none⟩), fun w => ?_, by simp only [Rel]; exact ⟨b, o, cap, e1, by simp⟩, hk hb⟩
        rw [e1]
        simp [Instr.indexAt, asIntOf, run_underlying hu, run_size hsz, addr_add, hb, Nat.add_assoc]
      · exact h.elim
    · exact h.elim
  · exact h.elim
theorem bt_spec (s : ByteArray) {i : Int} (h0 : 0 ≤ i) (h1 : i < s.size) : s[i.toNat]? = some (s.data.toList.getD i.toNat 0) := by
  have hlt : i.toNat < s.size := by omega
  have hlt' : i.toNat < s.data.toList.length := by simpa using hlt
  rw [List.getD_eq_getElem?_getD, List.getElem?_eq_getElem hlt', Option.getD_some]
  show (if h : i.toNat < s.size then some s[i.toNat] else none) = _
  rw [dif_pos hlt]
  rfl
theorem idx_sound {ρ : Loc} {t : TypeId} {s i : SV} {k : SV → Tr α} {y yi : Value} (hs : Rel ρ s y) (hi : Rel ρ i yi) (h : (idx P t s i k).holds R) :
    ∃ s' y', (∀ w, (Instr.index t y yi).run P w = .ok y' w) ∧ Rel ρ s' y' ∧ (k s').holds R := by
  unfold idx at h
  split at h
  · rename_i kd i
    simp only [Rel] at hi
    subst hi
    split at h
    · rename_i len e cs hu
      simp only [Rel] at hs
      obtain ⟨ys, hys, rfl⟩ := hs
      split at h
      · rename_i sz hsz
        obtain ⟨m, hm, rfl, hk⟩ := withIdx_holds h
        split at hk
        · rename_i s' hp
          obtain ⟨y', hy', hr⟩ := part_sound hys hp
          refine ⟨s', y', fun w => ?_, hr, hk⟩
          have := hy' w
          simp [Instr.index, asIntOf, run_underlying hu, run_size hsz, hm, this]
        · exact hk.elim
      · exact h.elim
    · rename_i s0 hu
      simp only [Rel] at hs
      subst hs
      obtain ⟨hb, hk⟩ := h
      refine ⟨_, .int .u8 (bt s0 i.toNat), fun w => ?_, by simp [Rel], hk hb⟩
      simp only [Instr.index, asIntOf, Sem.run_bind, Sem.run_pure, Result.andThen_ok, run_underlying hu, hb.1, if_true, bt_spec s0 hb.1 hb.2, bt]
    · exact h.elim
  · exact h.elim
theorem withLo_holds {lo : Option Int} {d : Int} {k : Int → Tr α} (h : (withLo lo d k).holds R) : (k (lo.getD d)).holds R := by
  unfold withLo at h
  split at h <;> exact h
theorem optInt_spec {ρ : Loc} {st : St} {a : Act} (ht : RelL ρ st.tmps a.tmps.toList) {lo : Option Operand} {o : Option Int} (h : optInt st lo = some o) : (o = none ∧ lo.map a.eval = none) ∨ ∃ i kd, o = some i ∧ lo.map a.eval = some (.int kd i) := by
  unfold optInt at h
  split at h
  · cases h; exact .inl ⟨rfl, rfl⟩
  · rename_i x
    split at h
    · rename_i kd i hx
      cases h
      have := ev_rel ht x
      rw [hx] at this
      simp only [Rel] at this
      exact .inr ⟨i, kd, rfl, by simp [this]⟩
    · cases h
def IsInt (x : Option Value) (o : Option Int) : Prop := (o = none ∧ x = none) ∨ ∃ i kd, o = some i ∧ x = some (.int kd i)
theorem run_sliceBounds {isS : Bool} {len cap l h m : Nat} {lo hi mx : Option Value} {lo' hi' mx' : Option Int} (hlo : IsInt lo lo') (hhi : IsInt hi hi') (hmx : IsInt mx mx') (hn : mx = none ∨ hi.isSome = true)
    (el : lo'.getD 0 = (l : Int)) (eh : hi'.getD len = (h : Int)) (em : mx'.getD cap = (m : Int)) (h1 : l ≤ h) (h2 : h ≤ m) (h3 : m ≤ cap) (w : World) : (Instr.sliceBounds isS len cap lo hi mx).run P w = .ok (l, h, m) w := by
  have bd : ∀ (kd : IntKind) (i y : Nat) (c : BoundsCode), i ≤ y → (Instr.sliceBound (.int kd (i : Int)) y c).run P w = .ok i w := by
    intro kd i y c hi
    have h0 : (0 : Int) ≤ (i : Int) ∧ (i : Int) ≤ (y : Int) := ⟨by omega, by omega⟩
    simp [Instr.sliceBound, asIntOf, hi]
  rcases hmx with ⟨rfl, rfl⟩ | ⟨mi, mk, rfl, rfl⟩
  · simp only [Option.getD_none] at em
    have em : cap = m := by omega
    subst em
    rcases hhi with ⟨rfl, rfl⟩ | ⟨hh, hk, rfl, rfl⟩
    · simp only [Option.getD_none] at eh
      have eh : len = h := by omega
      subst eh
      rcases hlo with ⟨rfl, rfl⟩ | ⟨ll, lk, rfl, rfl⟩
      · simp only [Option.getD_none] at el
        have el : 0 = l := by omega
        subst el
        simp [Instr.sliceBounds]
      · simp only [Option.getD_some] at el
        subst el
        simp [Instr.sliceBounds, bd lk l _ _ h1]
    · simp only [Option.getD_some] at eh
      subst eh
      rcases hlo with ⟨rfl, rfl⟩ | ⟨ll, lk, rfl, rfl⟩
      · simp only [Option.getD_none] at el
        have el : 0 = l := by omega
        subst el
        simp [Instr.sliceBounds, bd hk h _ _ h2]
      · simp only [Option.getD_some] at el
        subst el
        simp [Instr.sliceBounds, bd hk h _ _ h2, bd lk l _ _ h1]
  · simp only [Option.getD_some] at em
    subst em
    rcases hhi with ⟨rfl, rfl⟩ | ⟨hh, hk, rfl, rfl⟩
    · simp at hn
    · simp only [Option.getD_some] at eh
      subst eh
      rcases hlo with ⟨rfl, rfl⟩ | ⟨ll, lk, rfl, rfl⟩
      · simp only [Option.getD_none] at el
        have el : 0 = l := by omega
        subst el
        simp [Instr.sliceBounds, bd hk h _ _ h2, bd mk m _ _ h3]
      · simp only [Option.getD_some] at el
        subst el
        simp [Instr.sliceBounds, bd hk h _ _ h2, bd lk l _ _ h1, bd mk m _ _ h3]
theorem run_slice {t e : TypeId} {sz : Nat} (hu : P.underlying t = some (.slice e)) (hsz : sizeT P e = some sz) {len cap l h m : Nat} {lo hi mx : Option Value} {lo' hi' mx' : Option Int} (hlo : IsInt lo lo') (hhi : IsInt hi hi') (hmx : IsInt mx mx') (hn : mx = none ∨ hi.isSome = true)
    (el : lo'.getD 0 = (l : Int)) (eh : hi'.getD len = (h : Int)) (em : mx'.getD cap = (m : Int)) (h1 : l ≤ h) (h2 : h ≤ m) (h3 : m ≤ cap) (base : Option Addr) (w : World) :
    (Instr.sliceAt t (.slice base len cap) lo hi mx).run P w = .ok (.slice (if m = l then base else base.map (·.add (l * sz))) (h - l) (m - l)) w := by
  have := run_sliceBounds (P := P) (isS := true) hlo hhi hmx hn el eh em h1 h2 h3 w
  simp only [Instr.sliceAt, Sem.run_bind, run_underlying hu, Result.andThen_ok, Instr.slice, this, run_size hsz, Sem.run_pure]
theorem sliceX_sound {ρ : Loc} {t : TypeId} {s : SV} {lo hi mx : Option Value} {lo' hi' mx' : Option Int} (hlo : IsInt lo lo') (hhi : IsInt hi hi') (hmx : IsInt mx mx') (hn : mx = none ∨ hi.isSome = true) {k : SV → Tr α} {y : Value} (hs : Rel ρ s y) (h : (sliceX P t s lo' hi' mx' k).holds R) :
    ∃ s' y', (∀ w, (Instr.sliceAt t y lo hi mx).run P w = .ok y' w) ∧ Rel ρ s' y' ∧ (k s').holds R := by
  have nat : ∀ {x : Int}, 0 ≤ x → ∃ n : Nat, x = (n : Int) := fun h => Int.eq_ofNat_of_zero_le h
  unfold sliceX at h
  split at h
  · rename_i b hu
    simp only [Rel] at hs
    subst hs
    split at h
    · rcases hmx with ⟨_, rfl⟩ | ⟨_, _, h', _⟩
      · obtain ⟨⟨h1, h2, h3⟩, hk⟩ := withLo_holds (withLo_holds h)
        obtain ⟨l, hl⟩ := nat h1
        obtain ⟨hh, hhh⟩ := nat (Int.le_trans h1 h2)
        have hk := hk ⟨h1, h2, h3⟩
        rw [hl, hhh] at h2 hk
        rw [hhh] at h3
        refine ⟨_, .string (b.extract l hh), fun w => ?_, by simp [Rel], hk⟩
        have := run_sliceBounds (P := P) (isS := false) (len := b.size) (cap := b.size) (m := b.size) hlo hhi (mx := none) (mx' := none) (.inl ⟨rfl, rfl⟩) (.inl rfl) hl hhh (by simp) (by omega) (by omega) (Nat.le_refl _) w
        simp only [Instr.sliceAt, Sem.run_bind, run_underlying hu, Result.andThen_ok, Instr.slice, Option.isSome_none, Bool.false_eq_true, if_false, this, Sem.run_pure]
      · cases h'
    · exact h.elim
  · rename_i n e b off hu
    simp only [Rel] at hs
    obtain ⟨r, hr, rfl⟩ := hs
    split at h
    · rcases hmx with ⟨_, rfl⟩ | ⟨_, _, h', _⟩
      · split at h
        · rename_i sz hsz
          obtain ⟨⟨h1, h2, h3⟩, hk⟩ := withLo_holds (withLo_holds h)
          obtain ⟨l, hl⟩ := nat h1
          obtain ⟨hh, hhh⟩ := nat (Int.le_trans h1 h2)
          have hk := hk ⟨h1, h2, h3⟩
          rw [hl, hhh] at h2 hk
          rw [hhh] at h3
          have hrun : ∀ w, (Instr.sliceAt t (.pointer (some ⟨r.1, r.2 + off, none⟩)) lo hi none).run P w = .ok (.slice (some (if n = l then ⟨r.1, r.2 + off, none⟩ else (⟨r.1, r.2 + off, none⟩ : Addr).add (l * sz))) (hh - l) (n - l)) w := by
            intro w
            have := run_sliceBounds (P := P) (isS := false) (len := n) (cap := n) (m := n) hlo hhi (mx := none) (mx' := none) (.inl ⟨rfl, rfl⟩) (.inl rfl) hl hhh (by simp) (by omega) (by omega) (Nat.le_refl _) w
            simp only [Instr.sliceAt, Sem.run_bind, run_underlying hu, Result.andThen_ok, Instr.sureAddr, Sem.run_pure, this, run_size hsz]
          by_cases hln : l = n
          · subst hln
            have : hh = l := by omega
            subst this
            refine ⟨_, _, hrun, ?_, hk.1 (by simp)⟩
            simp only [Rel]
            exact ⟨r, hr, by simp⟩
          · refine ⟨_, _, hrun, ?_, hk.2 (by simp; omega)⟩
            simp only [Rel]
            refine ⟨r, hr, ?_⟩
            rw [if_neg (fun e => hln e.symm), addr_add]
            simp [Nat.add_assoc]
        · exact h.elim
      · cases h'
    · exact h.elim
  · rename_i e a len cap hu
    simp only [Rel] at hs
    subst hs
    split at h
    · rename_i sz hsz
      obtain ⟨⟨h1, h2, h3⟩, hk⟩ := withLo_holds (withLo_holds (withLo_holds h))
      have hk := hk ⟨h1, h2, h3⟩
      refine ⟨_, _, run_slice hu hsz (l := 0) (h := 0) (m := 0) hlo hhi hmx hn h1 h2 h3 (by omega) (by omega) (by omega) a, by simp [Rel], hk⟩
    · exact h.elim
  · rename_i e b off len cap hu
    simp only [Rel] at hs
    obtain ⟨r, hr, rfl⟩ := hs
    split at h
    · rename_i sz hsz
      obtain ⟨⟨h1, h2, h3, h4⟩, hk⟩ := withLo_holds (withLo_holds (withLo_holds h))
      obtain ⟨l, hl⟩ := nat h1
      obtain ⟨hh, hhh⟩ := nat (Int.le_trans h1 h2)
      obtain ⟨m, hm⟩ := nat (Int.le_trans (Int.le_trans h1 h2) h3)
      have hk := hk ⟨h1, h2, h3, h4⟩
      rw [hl, hhh] at h2
      rw [hhh, hm] at h3
      rw [hm] at h4
      rw [hl, hhh, hm] at hk
      have hrun := run_slice hu hsz (len := len) (cap := cap) hlo hhi hmx hn hl hhh hm (by omega) (by omega) (by omega) (some ⟨r.1, r.2 + off, none⟩)
      by_cases hln : l = m
      · subst hln
        have : hh = l := by omega
        subst this
        refine ⟨_, _, hrun, ?_, hk.1 (by simp)⟩
        simp only [Rel]
        exact ⟨r, hr, by simp⟩
      · refine ⟨_, _, hrun, ?_, hk.2 (by simp; omega)⟩
        simp only [Rel]
        refine ⟨r, hr, ?_⟩
        rw [if_neg (fun e => hln e.symm)]
        simp [addr_add, Nat.add_assoc]
    · exact h.elim
  · rename_i e b sz k0 len cap hu
    simp only [Rel] at hs
    obtain ⟨r, hr, rfl⟩ := hs
    split at h
    · rename_i hsz
      obtain ⟨⟨h1, h2, h3, h4⟩, hk⟩ := withLo_holds (withLo_holds (withLo_holds h))
      obtain ⟨l, hl⟩ := nat h1
      obtain ⟨hh, hhh⟩ := nat (Int.le_trans h1 h2)
      obtain ⟨m, hm⟩ := nat (Int.le_trans (Int.le_trans h1 h2) h3)
      have hk := hk ⟨h1, h2, h3, h4⟩
      rw [hl, hhh] at h2
      rw [hhh, hm] at h3
      rw [hm] at h4
      rw [hl, hhh, hm] at hk
      have hrun := run_slice hu hsz (len := len) (cap := cap) hlo hhi hmx hn hl hhh hm (by omega) (by omega) (by omega) (some ⟨r.1, r.2 + k0 * sz, none⟩)
      by_cases hln : l = m
      · subst hln
        have : hh = l := by omega
        subst this
        refine ⟨_, _, hrun, ?_, hk.1 (by simp)⟩
        simp only [Rel]
        exact ⟨r, hr, by simp⟩
      · refine ⟨_, _, hrun, ?_, hk.2 (by simp; omega)⟩
        simp only [Rel]
        refine ⟨r, hr, ?_⟩
        rw [if_neg (fun e => hln e.symm)]
        simp [addr_add, nadd_eq, Nat.add_mul, Nat.add_assoc]
    · exact h.elim
  · rename_i e b sz k0 len hu
    simp only [Rel] at hs
    obtain ⟨r, hr, rfl, hpos⟩ := hs
    split at h
    · rename_i hc
      obtain ⟨hsz, rfl⟩ := hc
      split at h
      · rcases hmx with ⟨_, rfl⟩ | ⟨_, _, h', _⟩
        · obtain ⟨⟨h1, h2, h3⟩, hk⟩ := withLo_holds (withLo_holds h)
          obtain ⟨l, hl⟩ := nat h1
          obtain ⟨hh, hhh⟩ := nat (Int.le_trans h1 h2)
          have hk := hk ⟨h1, h2, h3⟩
          rw [hl, hhh] at h2
          rw [hhh] at h3
          rw [hl, hhh] at hk
          have hcap : hh ≤ r.cap := by
            by_cases h0 : 0 < len
            · have := (hpos h0).2; omega
            · omega
          have hrun := run_slice hu hsz (len := len) (cap := r.cap - 0) hlo hhi (mx := none) (mx' := none) (.inl ⟨rfl, rfl⟩) (.inl rfl) hl hhh (m := r.cap) (by simp) (by omega) (by omega) (by omega) (if r.cap = 0 then r.ptr else r.ptr.map (·.add (0 * sz)))
          refine ⟨_, _, hrun, ?_, hk⟩
          have hbase : (if r.cap = 0 then r.ptr else r.ptr.map (·.add (0 * sz))) = r.ptr := by
            split
            · rfl
            · simp [Addr.add]
          simp only [Rel]
          refine ⟨r, hr, by rw [hbase]; rfl, fun hp => ?_⟩
          have h0 : 0 < len := by simp at hp; omega
          exact ⟨(hpos h0).1, by have := (hpos h0).2; simp; omega⟩
        · cases h'
      · obtain ⟨⟨h1, h2, h3⟩, hk⟩ := withLo_holds (withLo_holds h)
        have hk := hk ⟨h1, h2, h3⟩
        have hbase : (if r.cap = 0 then r.ptr else r.ptr.map (·.add (0 * sz))) = r.ptr := by
          split
          · rfl
          · simp [Addr.add]
        refine ⟨_, _, run_slice hu hsz (l := 0) (h := 0) (m := 0) hlo hhi hmx hn h1 h2 (by simpa using h3) (by omega) (by omega) (by omega) _, ?_, hk⟩
        simp only [Rel]
        exact ⟨r, hr, by rw [hbase]; simp⟩
    · exact h.elim
  · rename_i e b hu
    simp only [Rel] at hs
    obtain ⟨r, hr, rfl⟩ := hs
    split at h
    · rename_i sz hsz
      obtain ⟨⟨h1, h2, h3⟩, hk⟩ := withLo_holds (withLo_holds (withLo_holds h))
      have hk := hk ⟨h1, h2, h3⟩
      refine ⟨_, _, run_slice hu hsz (l := 0) (h := 0) (m := 0) hlo hhi hmx hn h1 h2 h3 (by omega) (by omega) (by omega) _, ?_, hk⟩
      simp only [Rel]
      exact ⟨r, hr, by simp⟩
    · exact h.elim
  · exact h.elim
theorem nil_good (B : Base) (vs : List Value) : SlcIs B nilV 0 vs := ⟨none, 0, rfl, Nat.le_refl _, fun h => absurd h (Nat.lt_irrefl _)⟩
theorem CK.of_spec {ρ : Loc} : ∀ {k : CK} {s : SV} {x : k.T}, k.of s = some x → ∀ {y : Value}, Rel ρ s y → y = k.toV x ∧ k.good ρ.base x
  | .bool, s, x, h, y, hy => by
    simp only [CK.of] at h
    split at h
    · cases h; simp only [Rel] at hy; exact ⟨hy, trivial⟩
    · cases h
  | .int k, s, x, h, y, hy => by
    simp only [CK.of] at h
    split at h
    · split at h
      · rename_i e; subst e; cases h; simp only [Rel] at hy; exact ⟨hy, trivial⟩
      · cases h
    · cases h
  | .str, s, x, h, y, hy => by
    simp only [CK.of] at h
    split at h
    · cases h; simp only [Rel] at hy; exact ⟨hy, trivial⟩
    · cases h
  | .sl ks, s, x, h, y, hy => by
    simp only [CK.of] at h
    split at h
    · cases h; simp only [Rel] at hy; exact ⟨hy, nil_good _ _, fun r hr => by cases hr⟩
    · split at h
      · rename_i e; subst e; cases h; unfold Rel at hy; exact hy
      · cases h
    · cases h
  | .nodes, s, x, h, y, hy => by
    simp only [CK.of] at h
    split at h
    · cases h; simp only [Rel] at hy; exact ⟨hy, nil_good _ _, trivial⟩
    · split at h
      · rename_i e; subst e; cases h; unfold Rel at hy; exact hy
      · cases h
    · cases h
  | .osl _ ks, s, x, h, y, hy => by
    simp only [CK.of] at h
    split at h
    · split at h
      · cases h; simp only [Rel] at hy; exact ⟨hy, ⟨none, 0, rfl, fun h => absurd h (Nat.lt_irrefl _)⟩, fun r hr => nomatch hr⟩
      · cases h
    · cases h
theorem CK.of_own : ∀ {k : CK} {s : SV} {x : k.T}, k.of s = some x → k.owned x = [] ∧ ∀ w, k.oslOK w x
  | .bool, _, _, _ => ⟨rfl, fun _ => trivial⟩
  | .int _, _, _, _ => ⟨rfl, fun _ => trivial⟩
  | .str, _, _, _ => ⟨rfl, fun _ => trivial⟩
  | .sl _, _, _, _ => ⟨rfl, fun _ => trivial⟩
  | .nodes, _, _, _ => ⟨rfl, fun _ => trivial⟩
  | .osl _ ks, s, x, h => by
    simp only [CK.of] at h
    split at h
    · split at h
      · rename_i hk
        cases h
        exact ⟨rfl, fun w hl => ⟨fun k x hk => by simp at hk, ⟨Nat.le_refl _, Nat.zero_le _, fun h => absurd h (Nat.lt_irrefl _)⟩, hk⟩⟩
      · cases h
    · cases h
theorem toRow_own : ∀ {ks : List CK} {ss : List SV} {r : RowT ks}, toRow ks ss = some r → rowOwned ks r = [] ∧ ∀ w, rowOsl w ks r
  | [], _, _, _ => ⟨rfl, fun _ => trivial⟩
  | k :: ks, [], r, h => by simp [toRow] at h
  | k :: ks, s :: ss, r, h => by
    simp only [toRow] at h
    split at h
    · rename_i x r' h1 h2
      cases h
      obtain ⟨a1, a2⟩ := CK.of_own h1
      obtain ⟨b1, b2⟩ := toRow_own h2
      exact ⟨by simp only [rowOwned]; rw [a1, b1]; rfl, fun w => ⟨a2 w, b2 w⟩⟩
    · cases h
theorem toRows_own {ks : List CK} : ∀ {n : Nat} {ss : List SV} {l : List (RowT ks)}, toRows ks n ss = some l → rowsOwned ks l = [] ∧ ∀ w, RowsOsl w ks l
  | 0, [], l, h => by simp [toRows] at h; subst h; exact ⟨rfl, fun w r hr => by cases hr⟩
  | 0, _ :: _, l, h => by simp [toRows] at h
  | n + 1, ss, l, h => by
    simp only [toRows] at h
    split at h
    · rename_i r l' h1 h2
      cases h
      obtain ⟨a1, a2⟩ := toRow_own h1
      obtain ⟨b1, b2⟩ := toRows_own h2
      refine ⟨?_, fun w x hx => ?_⟩
      · simp only [rowsOwned, List.flatMap_cons] at b1 ⊢; rw [a1, b1]; rfl
      · rcases List.mem_cons.1 hx with rfl | hx
        · exact a2 w
        · exact b2 w x hx
    · cases h
theorem noOsl_row : ∀ {ks : List CK} (r : RowT ks), noOsl ks = true → rowOwned ks r = [] ∧ ∀ w, rowOsl w ks r
  | [], _, _ => ⟨rfl, fun _ => trivial⟩
  | .bool :: ks, r, h => let ⟨a, b⟩ := noOsl_row (ks := ks) r.2 h; ⟨a, fun w => ⟨trivial, b w⟩⟩
  | .int _ :: ks, r, h => let ⟨a, b⟩ := noOsl_row (ks := ks) r.2 h; ⟨a, fun w => ⟨trivial, b w⟩⟩
  | .str :: ks, r, h => let ⟨a, b⟩ := noOsl_row (ks := ks) r.2 h; ⟨a, fun w => ⟨trivial, b w⟩⟩
  | .sl _ :: ks, r, h => let ⟨a, b⟩ := noOsl_row (ks := ks) r.2 h; ⟨a, fun w => ⟨trivial, b w⟩⟩
  | .nodes :: ks, r, h => let ⟨a, b⟩ := noOsl_row (ks := ks) r.2 h; ⟨a, fun w => ⟨trivial, b w⟩⟩
  | .osl _ _ :: ks, r, h => by simp [noOsl] at h
theorem noOsl_rows {ks : List CK} (l : List (RowT ks)) (h : noOsl ks = true) : rowsOwned ks l = [] ∧ ∀ w, RowsOsl w ks l :=
  ⟨by simp only [rowsOwned, List.flatMap_eq_nil_iff]; exact fun r _ => (noOsl_row r h).1, fun w r _ => (noOsl_row r h).2 w⟩
theorem toRow_spec {ρ : Loc} : ∀ {ks : List CK} {ss : List SV} {r : RowT ks}, toRow ks ss = some r → ∀ {ys : List Value}, RelL ρ ss ys → ys = rowV ks r ∧ RowGood ρ.base ks r
  | [], [], r, h, ys, hy => by simp only [RelL] at hy; exact ⟨hy, trivial⟩
  | [], _ :: _, r, h, ys, hy => by simp [toRow] at h
  | k :: ks, [], r, h, ys, hy => by simp [toRow] at h
  | k :: ks, s :: ss, r, h, ys, hy => by
    simp only [toRow] at h
    split at h
    · rename_i x r' h1 h2
      cases h
      obtain ⟨y, ys', rfl, a1, a2⟩ := hy.cons_inv
      obtain ⟨b1, b2⟩ := CK.of_spec h1 a1
      obtain ⟨c1, c2⟩ := toRow_spec h2 a2
      exact ⟨by simp only [rowV]; rw [b1, c1], b2, c2⟩
    · cases h
theorem RowsGood.le {B B' : Base} (h : Base.le B B') {ks : List CK} {l : List (RowT ks)} (hl : RowsGood B ks l) : RowsGood B' ks l := fun r hr => RowGood.le h ks r (hl r hr)
theorem RowsGood.append {B : Base} {ks : List CK} {l l' : List (RowT ks)} (h : RowsGood B ks l) (h' : RowsGood B ks l') : RowsGood B ks (l ++ l') := fun r hr => (List.mem_append.1 hr).elim (h r) (h' r)
theorem RowsGood.take {B : Base} {ks : List CK} {l : List (RowT ks)} (h : RowsGood B ks l) (n : Nat) : RowsGood B ks (l.take n) := fun r hr => h r (List.mem_of_mem_take hr)
theorem RowsGood.drop {B : Base} {ks : List CK} {l : List (RowT ks)} (h : RowsGood B ks l) (n : Nat) : RowsGood B ks (l.drop n) := fun r hr => h r (List.mem_of_mem_drop hr)
theorem RowGood.dflt (B : Base) : ∀ ks : List CK, RowGood B ks (RowT.dflt ks)
  | [] => trivial
  | .bool :: ks => ⟨trivial, RowGood.dflt B ks⟩
  | .int _ :: ks => ⟨trivial, RowGood.dflt B ks⟩
  | .str :: ks => ⟨trivial, RowGood.dflt B ks⟩
  | .sl _ :: ks => ⟨⟨⟨none, 0, rfl, Nat.le_refl _, fun h => absurd h (Nat.lt_irrefl _)⟩, fun r hr => by cases hr⟩, RowGood.dflt B ks⟩
  | .nodes :: ks => ⟨⟨⟨none, 0, rfl, Nat.le_refl _, fun h => absurd h (Nat.lt_irrefl _)⟩, trivial⟩, RowGood.dflt B ks⟩
  | .osl _ _ :: ks => ⟨⟨⟨none, 0, rfl, fun h => absurd h (Nat.lt_irrefl _)⟩, fun r hr => nomatch hr⟩, RowGood.dflt B ks⟩
theorem RowsGood.getD {B : Base} {ks : List CK} {l : List (RowT ks)} (h : RowsGood B ks l) (k : Nat) : RowGood B ks (l.getD k (RowT.dflt ks)) := by
  rw [List.getD_eq_getElem?_getD]
  cases hk : l[k]? with
  | none => exact RowGood.dflt B ks
  | some r => exact h r (List.mem_of_getElem? hk)
theorem rowV_one {B : Base} : ∀ (ks : List CK) (r : RowT ks), RowGood B ks r → ∀ u ∈ rowV ks r, u.oneCell' = true
  | [], _, _, u, h => by simp [rowV] at h
  | k :: ks, r, hg, u, h => by
    simp only [rowV, List.mem_cons] at h
    rcases h with rfl | h
    · exact (CK.one k r.1 hg.1).1
    · exact rowV_one ks r.2 hg.2 u h
theorem rowsV_one {B : Base} {ks : List CK} {l : List (RowT ks)} (hg : RowsGood B ks l) : ∀ u ∈ rowsV ks l, u.oneCell' = true := by
  intro u h
  simp only [rowsV, List.mem_flatMap] at h
  obtain ⟨r, hr, h⟩ := h
  exact rowV_one ks r (hg r hr) u h
theorem rowsV_length {ks : List CK} (l : List (RowT ks)) : (rowsV ks l).length = l.length * ks.length := by
  induction l with
  | nil => simp [rowsV]
  | cons r l ih => simp only [rowsV, List.flatMap_cons, List.length_append, rowV_length, List.length_cons] at ih ⊢; rw [ih, Nat.add_mul]; omega
theorem rowsV_append {ks : List CK} (l l' : List (RowT ks)) : rowsV ks (l ++ l') = rowsV ks l ++ rowsV ks l' := by simp [rowsV]
theorem rowsV_at {ks : List CK} : ∀ (l : List (RowT ks)) (k j : Nat) (x : RowT ks), l[k]? = some x → j < ks.length → (rowsV ks l)[k * ks.length + j]? = (rowV ks x)[j]?
  | [], k, j, x, h, _ => by simp at h
  | r :: l, 0, j, x, h, hj => by
    simp at h; subst h
    simp only [rowsV, List.flatMap_cons, Nat.zero_mul, Nat.zero_add]
    rw [List.getElem?_append_left (by rw [rowV_length]; exact hj)]
  | r :: l, k + 1, j, x, h, hj => by
    have ih := rowsV_at l k j x (by simpa using h) hj
    simp only [rowsV, List.flatMap_cons] at ih ⊢
    rw [List.getElem?_append_right (by rw [rowV_length, Nat.add_mul]; omega), rowV_length, ← ih]
    congr 1
    rw [Nat.add_mul]; omega
/-- what the cells are, of rows -/
theorem RowsOK.iff {w : World} {rw : Bool} {r : Place} {ks : List CK} {l : List (RowT ks)} : RowsOK w rw r ks l ↔ ∀ j c, (rowsV ks l)[j]? = some c → w.cell? ⟨r.1, r.2 + j, none⟩ = some c ∧ (rw = true → w.frozen? ⟨r.1, r.2 + j, none⟩ = false) := by
  constructor
  · intro h j c hj
    have hlt := (List.getElem?_eq_some_iff.1 hj).1
    rw [rowsV_length] at hlt
    have hpos : 0 < ks.length := by
      rcases Nat.eq_zero_or_pos ks.length with h0 | h0
      · rw [h0] at hlt; omega
      · exact h0
    have hk : j / ks.length < l.length := Nat.div_lt_of_lt_mul (by rw [Nat.mul_comm]; exact hlt)
    have hm : j % ks.length < ks.length := Nat.mod_lt _ hpos
    have hx := List.getElem?_eq_getElem hk
    have e : j / ks.length * ks.length + j % ks.length = j := by rw [Nat.mul_comm]; exact Nat.div_add_mod j ks.length
    have hat := rowsV_at l _ _ _ hx hm
    rw [e, hj] at hat
    have := h _ _ hx _ _ hat.symm
    rw [e] at this
    exact this
  · intro h k x hk j c hj
    have hjl := (List.getElem?_eq_some_iff.1 hj).1
    rw [rowV_length] at hjl
    exact h _ c (by rw [rowsV_at l k j x hk hjl]; exact hj)
theorem toRows_spec {ks : List CK} : ∀ {n : Nat} {ss : List SV} {l : List (RowT ks)}, toRows ks n ss = some l → l.length = n ∧ ∀ {ρ : Loc} {ys : List Value}, RelL ρ ss ys → ys = rowsV ks l ∧ RowsGood ρ.base ks l
  | 0, [], l, h => by simp [toRows] at h; subst h; exact ⟨rfl, fun hr => by simp only [RelL] at hr; exact ⟨by simp [hr, rowsV], fun r hr => by cases hr⟩⟩
  | 0, _ :: _, l, h => by simp [toRows] at h
  | n + 1, ss, l, h => by
    simp only [toRows] at h
    split at h
    · rename_i r l' h1 h2
      cases h
      obtain ⟨e1, e2⟩ := toRows_spec h2
      refine ⟨by simp [e1], fun {ρ ys} hr => ?_⟩
      obtain ⟨a, ag⟩ := toRow_spec h1 (hr.take ks.length)
      obtain ⟨b, bg⟩ := e2 (hr.drop ks.length)
      refine ⟨?_, fun x hx => ?_⟩
      · rw [← List.take_append_drop ks.length ys, b, a]
        simp [rowsV]
      · rcases List.mem_cons.1 hx with rfl | hx
        · exact ag
        · exact bg x hx
    · cases h
theorem rowsV_sub {ks : List CK} {l : List (RowT ks)} {k m j : Nat} {v : Value} (h : (rowsV ks ((l.drop k).take m))[j]? = some v) : (rowsV ks l)[k * ks.length + j]? = some v := by
  by_cases hk : k ≤ l.length
  · have e : l = l.take k ++ ((l.drop k).take m ++ (l.drop k).drop m) := by rw [List.take_append_drop, List.take_append_drop]
    rw [e, rowsV_append, rowsV_append, List.getElem?_append_right (by rw [rowsV_length]; simp [hk]), rowsV_length]
    have : (l.take k).length = k := by simp [hk]
    rw [this, show k * ks.length + j - k * ks.length = j by omega, List.getElem?_append_left (List.getElem?_eq_some_iff.1 h).1]
    exact h
  · rw [List.drop_eq_nil_of_le (by omega)] at h
    simp [rowsV] at h
theorem PNode.rowV_row : ∀ n : PNode, Sx.rowV nodeK n.row = n.rowV
  | .mk _ _ _ _ _ => rfl
theorem nodes_rows (l : List PNode) : rowsV nodeK (l.map PNode.row) = nodesV l := by
  simp only [rowsV, nodesV, List.flatMap_map]
  rfl
theorem PNode.good_row {B : Base} : ∀ {n : PNode}, n.good B → RowGood B nodeK n.row
  | .mk _ _ ps _ ks, ⟨h1, h2, h3⟩ => ⟨trivial, ⟨h1, fun r _ => ⟨trivial, trivial, trivial⟩⟩, ⟨h2, h3⟩, trivial⟩
theorem nodes_good {B : Base} : ∀ {l : List PNode}, goodL B l → RowsGood B nodeK (l.map PNode.row)
  | [], _ => fun r hr => by cases hr
  | n :: l, ⟨h1, h2⟩ => fun r hr => by
    rcases List.mem_cons.1 hr with rfl | hr
    · exact PNode.good_row h1
    · exact nodes_good h2 r hr
theorem readRows_spec {bb : Bool} {mem : List Blk} {ks : List CK} {s : SV} {p : Prop} {m : Nat} {l : List (RowT ks)} (h : readRows mem ks s = some (p, m, l)) (hp : p) {ρ : Loc} {w : World} {y : Value} (hm : MemQ bb ρ mem w) (hs : Rel ρ s y) (hbb : s.stab = true → bb = true) :
    l.length = m ∧ ∃ base c, y = .slice base m c ∧ (m = 0 ∨ ∃ a, base = some a ∧ ∀ j v, (rowsV ks l)[j]? = some v → w.cell? (a.add j) = some v) := by
  have sub : ∀ {rw : Bool} {r : Place} {l : List (RowT ks)} {k m : Nat}, RowsOK w rw r ks l → ∀ j v, (rowsV ks ((l.drop k).take m))[j]? = some v → w.cell? ((⟨r.1, r.2 + k * ks.length, none⟩ : Addr).add j) = some v := by
    intro rw r l k m h j v hj
    rw [addr_add, Nat.add_assoc]
    exact (RowsOK.iff.1 h _ _ (rowsV_sub hj)).1
  unfold readRows at h
  split at h
  · rename_i a len cap
    split at h
    · rename_i h0
      cases h
      simp only [Rel] at hs
      subst hs; subst h0
      exact ⟨rfl, a, cap, rfl, .inl rfl⟩
    · cases h
  · cases h
    simp only [Rel] at hs
    obtain ⟨r, hr, rfl⟩ := hs
    exact ⟨rfl, r.ptr, 0, rfl, .inl rfl⟩
  · rename_i b off m' cap
    split at h
    · rename_i rw cs hb
      split at h
      · rename_i l' hl
        cases h
        obtain ⟨e1, e2⟩ := toRows_spec hl
        simp only [Rel] at hs
        obtain ⟨r, hr, rfl⟩ := hs
        obtain ⟨r', hr', hbody⟩ := hm b _ hb
        rw [hr] at hr'; cases hr'
        have hbody : ∀ j s, cs[j]? = some s → CellOK ρ w rw r j s := hbody
        obtain ⟨ys, h1, h2⟩ := load_cells (ρ := ρ) (w := w) r off ((cs.drop off).take (m * ks.length)) 0 (fun j s hj => by
          have hj' : cs[off + j]? = some s := by
            rw [List.getElem?_take] at hj
            split at hj
            · rwa [List.getElem?_drop] at hj
            · cases hj
          obtain ⟨y, hy, hr, _⟩ := hbody _ _ hj'
          exact ⟨y, by rw [Nat.zero_add, Nat.add_assoc]; exact hy, hr⟩)
        rw [(e2 h1).1] at h2
        exact ⟨e1, _, _, rfl, .inr ⟨_, rfl, fun j v hj => by have := h2 j v hj; simpa using this⟩⟩
      · cases h
    · cases h
  · rename_i b sz k m' cap
    split at h
    · rename_i rw ks' l' hb
      split at h
      · rename_i he
        subst he
        split at h
        · rename_i hsz
          obtain ⟨hsz, hos⟩ := hsz
          cases h
          subst hsz
          simp only [Rel] at hs
          obtain ⟨r, hr, rfl⟩ := hs
          obtain ⟨r', hr', hbody⟩ := hm b _ hb
          rw [hr] at hr'; cases hr'
          exact ⟨by simp; omega, _, _, rfl, .inr ⟨_, rfl, sub hbody.1⟩⟩
        · cases h
      · cases h
    · rename_i rw e' ks' l' hb
      split at h
      · rename_i he
        subst he
        split at h
        · rename_i hsz
          obtain ⟨hsz, hos⟩ := hsz
          cases h
          subst hsz
          simp only [Rel] at hs
          obtain ⟨r, hr, rfl⟩ := hs
          obtain ⟨r', hr', hbody⟩ := hm b _ hb
          rw [hr] at hr'; cases hr'
          exact ⟨by simp; omega, _, _, rfl, .inr ⟨_, rfl, sub hbody.1⟩⟩
        · cases h
      · cases h
    · cases h
  · rename_i b sz k m'
    split at h
    · rename_i rw ks' l' hb
      split at h
      · rename_i he
        subst he
        split at h
        · rename_i hsz
          obtain ⟨hsz, hos⟩ := hsz
          cases h
          subst hsz
          simp only [Rel] at hs
          obtain ⟨r, hr, rfl, hpos⟩ := hs
          obtain ⟨r', hr', hbody⟩ := hm b _ hb
          rw [hr] at hr'; cases hr'
          refine ⟨by simp; omega, _, _, rfl, ?_⟩
          rcases Nat.eq_zero_or_pos m with h0 | h0
          · exact .inl h0
          · obtain ⟨h1, h2⟩ := hpos h0
            exact .inr ⟨⟨r.1, r.2 + k * ks'.length, none⟩, by rw [if_neg (by omega), h1]; simp [addr_add], sub hbody.1⟩
        · cases h
      · cases h
    · rename_i rw e' ks' l' hb
      split at h
      · rename_i he
        subst he
        split at h
        · rename_i hsz
          obtain ⟨hsz, hos⟩ := hsz
          cases h
          subst hsz
          simp only [Rel] at hs
          obtain ⟨r, hr, rfl, hpos⟩ := hs
          obtain ⟨r', hr', hbody⟩ := hm b _ hb
          rw [hr] at hr'; cases hr'
          refine ⟨by simp; omega, _, _, rfl, ?_⟩
          rcases Nat.eq_zero_or_pos m with h0 | h0
          · exact .inl h0
          · obtain ⟨h1, h2⟩ := hpos h0
            exact .inr ⟨⟨r.1, r.2 + k * ks'.length, none⟩, by rw [if_neg (by omega), h1]; simp [addr_add], sub hbody.1⟩
        · cases h
      · cases h
    · cases h
  · rename_i ks' x
    split at h
    · rename_i he
      subst he
      split at h
      · cases h
        unfold Rel at hs
        obtain ⟨rfl, ⟨a, c, e1, e2, e3⟩, _⟩ := hs
        refine ⟨rfl, a, c, e1, ?_⟩
        rcases Nat.eq_zero_or_pos x.2.length with h0 | h0
        · exact .inl h0
        · obtain ⟨b, o, rfl, hc⟩ := e3 h0
          exact .inr ⟨_, rfl, fun j v hj => by rw [addr_add]; exact Base.cell_world (hm.base (hbb rfl)) (hc j v hj)⟩
      · cases h
    · cases h
  · rename_i x
    split at h
    · rename_i he
      subst he
      cases h
      unfold Rel at hs
      obtain ⟨rfl, ⟨a, c, e1, e2, e3⟩, _⟩ := hs
      refine ⟨by simp, a, c, e1, ?_⟩
      rcases Nat.eq_zero_or_pos x.2.length with h0 | h0
      · exact .inl h0
      · obtain ⟨b, o, rfl, hc⟩ := e3 h0
        refine .inr ⟨_, rfl, fun j v hj => ?_⟩
        rw [addr_add]
        refine Base.cell_world (hm.base (hbb rfl)) (hc j v ?_)
        rw [← nodes_rows]; exact hj
    · cases h
  · cases h
theorem readRows_more {bb : Bool} {mem : List Blk} {ks : List CK} {s : SV} {p : Prop} {m : Nat} {l : List (RowT ks)} (h : readRows mem ks s = some (p, m, l)) (hp : p) {ρ : Loc} {w : World} {y : Value} (hm : MemQ bb ρ mem w) (hs : Rel ρ s y) :
    RowsGood ρ.base ks l ∧ rowsOwned ks l = [] ∧ ∀ w, RowsOsl w ks l := by
  unfold readRows at h
  split at h
  · split at h
    · cases h; exact ⟨(fun r hr => nomatch hr), rfl, fun w r hr => nomatch hr⟩
    · cases h
  · cases h; exact ⟨(fun r hr => nomatch hr), rfl, fun w r hr => nomatch hr⟩
  · rename_i b off m' cap
    split at h
    · rename_i rw cs hb
      split at h
      · rename_i l' hl
        cases h
        obtain ⟨e1, e2⟩ := toRows_spec hl
        simp only [Rel] at hs
        obtain ⟨r, hr, rfl⟩ := hs
        obtain ⟨r', hr', hbody⟩ := hm b _ hb
        rw [hr] at hr'; cases hr'
        have hbody : ∀ j s, cs[j]? = some s → CellOK ρ w rw r j s := hbody
        obtain ⟨ys, h1, h2⟩ := load_cells (ρ := ρ) (w := w) r off ((cs.drop off).take (m * ks.length)) 0 (fun j s hj => by
          have hj' : cs[off + j]? = some s := by
            rw [List.getElem?_take] at hj
            split at hj
            · rwa [List.getElem?_drop] at hj
            · cases hj
          obtain ⟨y, hy, hr, _⟩ := hbody _ _ hj'
          exact ⟨y, by rw [Nat.zero_add, Nat.add_assoc]; exact hy, hr⟩)
        exact ⟨(e2 h1).2, toRows_own hl⟩
      · cases h
    · cases h
  · split at h
    · rename_i rw ks' l' hb
      split at h
      · rename_i he
        subst he
        split at h
        · rename_i hsz
          cases h
          obtain ⟨r', hr', hbody⟩ := hm _ _ hb
          exact ⟨(RowsGood.drop hbody.2 _).take _, noOsl_rows _ hsz.2⟩
        · cases h
      · cases h
    · rename_i rw e' ks' l' hb
      split at h
      · rename_i he
        subst he
        split at h
        · rename_i hsz
          cases h
          obtain ⟨r', hr', hbody⟩ := hm _ _ hb
          exact ⟨(RowsGood.drop hbody.2.2.good _).take _, noOsl_rows _ hsz.2⟩
        · cases h
      · cases h
    · cases h
  · split at h
    · rename_i rw ks' l' hb
      split at h
      · rename_i he
        subst he
        split at h
        · rename_i hsz
          cases h
          obtain ⟨r', hr', hbody⟩ := hm _ _ hb
          exact ⟨(RowsGood.drop hbody.2 _).take _, noOsl_rows _ hsz.2⟩
        · cases h
      · cases h
    · rename_i rw e' ks' l' hb
      split at h
      · rename_i he
        subst he
        split at h
        · rename_i hsz
          cases h
          obtain ⟨r', hr', hbody⟩ := hm _ _ hb
          exact ⟨(RowsGood.drop hbody.2.2.good _).take _, noOsl_rows _ hsz.2⟩
        · cases h
      · cases h
    · cases h
  · rename_i ks' x
    split at h
    · rename_i he
      subst he
      split at h
      · rename_i hos
        cases h
        unfold Rel at hs
        exact ⟨hs.2.2, noOsl_rows _ hos⟩
      · cases h
    · cases h
  · rename_i x
    split at h
    · rename_i he
      subst he
      cases h
      unfold Rel at hs
      exact ⟨nodes_good hs.2.2, noOsl_rows _ rfl⟩
    · cases h
  · cases h
theorem baseRows_spec {mem : List Blk} {e : TypeId} {ks : List CK} {s : SV} {q : Prop} {n : Nat} {olds : List (RowT ks)} {kl : Option Nat} (h : baseRows mem e ks s = some (q, n, olds, kl)) (hq : q) {ρ : Loc} {y : Value} (hs : Rel ρ s y) :
    (kl = none ∧ n = 0 ∧ olds = [] ∧ ∃ a, y = .slice a 0 0) ∨ ∃ b l r, kl = some b ∧ mem[b]? = some ⟨true, .own e ks l⟩ ∧ n ≤ l.length ∧ olds = l.take n ∧ ρ b = some r ∧ y = .slice r.ptr n r.cap := by
  unfold baseRows at h
  split at h
  · rename_i a len cap
    split at h
    · rename_i h0
      cases h
      simp only [Rel] at hs
      subst hs
      obtain ⟨rfl, rfl⟩ := h0
      exact .inl ⟨rfl, rfl, rfl, a, rfl⟩
    · cases h
  · cases h
    simp only [Rel] at hs
    obtain ⟨r, hr, rfl⟩ := hs
    exact .inl ⟨rfl, rfl, rfl, r.ptr, rfl⟩
  · split at h
    · rename_i h0
      cases h
      simp only [Rel] at hs
      obtain ⟨r, hr, rfl⟩ := hs
      obtain ⟨rfl, rfl⟩ := h0
      exact .inl ⟨rfl, rfl, rfl, _, rfl⟩
    · cases h
  · split at h
    · rename_i h0
      cases h
      simp only [Rel] at hs
      obtain ⟨r, hr, rfl⟩ := hs
      obtain ⟨rfl, rfl⟩ := h0
      exact .inl ⟨rfl, rfl, rfl, _, rfl⟩
    · cases h
  · rename_i b sz k n'
    split at h
    · rename_i e' ks' l hb
      split at h
      · rename_i he
        subst he
        split at h
        · rename_i hc
          obtain ⟨rfl, rfl, rfl⟩ := hc
          cases h
          simp only [Rel] at hs
          obtain ⟨r, hr, rfl, hpos⟩ := hs
          refine .inr ⟨b, l, r, rfl, hb, hq, rfl, hr, ?_⟩
          congr 1
          split
          · rfl
          · simp [Addr.add]
        · cases h
      · cases h
    · cases h
  · cases h
theorem elemOf_spec {t : TypeId} {i : ElemInfo} (h : elemOf P t = some i) : P.underlying t = some (.slice i.e) ∧ ∃ ti z, P.info? i.e = some ti ∧ ti.zero = some z ∧ ti.size = i.ks.length ∧ ti.bytes = i.bytes ∧ 0 < i.ks.length ∧ z.cells.size = i.ks.length ∧ z.cells.toList = rowV i.ks i.row := by
  unfold elemOf at h
  split at h
  · rename_i e hu
    split at h
    · rename_i ks ti hk hi
      split at h
      · rename_i z hz
        split at h
        · rename_i r hr
          split at h
          · rename_i hc
            cases h
            refine ⟨hu, ti, z, hi, hz, hc.1, rfl, hc.2.1, hc.2.2, ?_⟩
            exact (toRow_spec (ρ := ⟨fun _ => none, fun _ => none⟩) hr (RelL.map_v _)).1
          · cases h
        · cases h
      · cases h
    · cases h
  · cases h
theorem elemOf_row {t : TypeId} {i : ElemInfo} (h : elemOf P t = some i) : (∀ B, RowGood B i.ks i.row) ∧ rowOwned i.ks i.row = [] ∧ ∀ w, rowOsl w i.ks i.row := by
  unfold elemOf at h
  split at h
  · split at h
    · split at h
      · split at h
        · rename_i r hr
          split at h
          · cases h
            exact ⟨fun B => (toRow_spec (ρ := ⟨fun _ => none, B⟩) hr (RelL.map_v _)).2, toRow_own hr⟩
          · cases h
        · cases h
      · cases h
    · cases h
  · cases h
theorem rowsOwned_repl {ks : List CK} {r : RowT ks} (h : rowOwned ks r = []) (n : Nat) : rowsOwned ks (List.replicate n r) = [] := by
  simp only [rowsOwned, List.flatMap_eq_nil_iff]
  intro x hx
  rw [(List.mem_replicate.1 hx).2]; exact h
theorem killB_length (mem : List Blk) (kl : Option Nat) : (killB mem kl).length = mem.length := by cases kl <;> simp [killB]
theorem Sim.drew {ρ : Loc} {st : St} {a : Act} {w : World} (S : Sim ρ w0 X st a w) : Sim ρ w0 X st a w.drew :=
  ⟨S.defers, S.tmps, S.mem.later (fun _ _ => rfl) (Nat.le_refl _), ⟨S.frame.os, S.frame.tape, S.frame.output, S.frame.size, S.frame.block⟩⟩
theorem Sim.kill {ρ : Loc} {st : St} {a : Act} {w : World} (S : Sim ρ w0 X st a w) (kl : Option Nat) : Sim ρ w0 X { st with mem := killB st.mem kl } a w := by
  cases kl with
  | none => exact S
  | some b => exact ⟨S.defers, S.tmps, S.mem.kill b, S.frame⟩
/-- a new block of rows -/
theorem Sim.pushOwn {ρ : Loc} {st : St} {a : Act} {w : World} (S : Sim ρ w0 X st a w) (e : TypeId) {ks : List CK} {l : List (RowT ks)} {cap : Nat} (hcap : l.length ≤ cap) (hmax : cap ≤ maxLen) {cur : Array Value} (hsz : cur.size = cap * ks.length) (hcur : ∀ (j : Nat) (c : Value), (rowsV ks l)[j]? = some c → cur[j]? = some c)
    (hg : RowsGood ρ.base ks l) (ho : RowsOsl w ks l) (hn : (rowsOwned ks l).Nodup) (hf : ∀ k ∈ rowsOwned ks l, Free ρ w0 X st.mem w k) :
    ∃ ρ', Ext ρ ρ' ∧ Sim ρ' w0 X { st with mem := st.mem ++ [⟨true, .own e ks l⟩] } a (w.alloc (.cells cur e)) ∧ Rel ρ' (.oslc st.mem.length ks.length 0 l.length) (.slice (some ⟨w.heap.size, 0, none⟩) l.length cap) := by
  have he : Ext ρ (ext ρ st.mem.length ⟨w.heap.size, 0, some ⟨w.heap.size, 0, none⟩, cap⟩) := ext_ext (S.mem.past _ (Nat.le_refl _)) _
  have hold : ∀ k, k < w.heap.size → (w.alloc (.cells cur e)).heap[k]? = w.heap[k]? := fun k hk => by show (w.heap.push _)[k]? = _; rw [Array.getElem?_push, if_neg (by omega)]
  have hnew : (w.alloc (.cells cur e)).heap[w.heap.size]? = some (.cells cur e (0, 0)) := by show (w.heap.push _)[w.heap.size]? = _; simp
  refine ⟨_, he, ⟨S.defers, S.tmps.mono he, (S.mem.later hold (by simp)).push ⟨?_, ⟨hcap, hmax, fun _ => ⟨rfl, rfl, cur, hnew, hsz⟩⟩, ⟨hg, ho.of_block fun k hk => hold k (hf k hk).lt, hn, fun k hk _ => Nat.ne_of_lt (hf k hk).lt⟩⟩ (fun hh => S.mem.newFree S.frame.size (Nat.le_refl _) (by simp)) fun k hk => ⟨⟨by have := (hf k hk).lt; simp; omega, (hf k hk).mine, (hf k hk).hold, (hf k hk).own2, (hf k hk).base⟩, fun _ => Nat.ne_of_lt (hf k hk).lt⟩, S.frame.alloc _⟩, ?_⟩
  · refine RowsOK.iff.2 fun j c hj => ?_
    simp only [Nat.zero_add]
    refine ⟨?_, fun _ => ?_⟩
    · rw [World.cell?_alloc_at _ _ _ _ rfl]; exact hcur j c hj
    · exact World.frozen?_alloc_at _ _ _ _ rfl
  · simp only [Rel]
    refine ⟨_, ext_at _ _ _, ?_, fun _ => ⟨rfl, by simpa using hcap⟩⟩
    congr 1
    split
    · rfl
    · simp [Addr.add]
/-- a block of rows whose place is known, that nothing else holds -/
theorem Sim.pushAt {ρ : Loc} {st : St} {a : Act} {w : World} (S : Sim ρ w0 X st a w) {e : TypeId} {ks : List CK} {l : List (RowT ks)} {r : Place} (hok : BodyOK ρ w true r (.own e ks l)) (hh : 0 < r.cap → Free ρ w0 X st.mem w r.1) (hf : ∀ k ∈ rowsOwned ks l, Free ρ w0 X st.mem w k) :
    ∃ ρ', Ext ρ ρ' ∧ Sim ρ' w0 X { st with mem := st.mem ++ [⟨true, .own e ks l⟩] } a w ∧ Rel ρ' (.oslc st.mem.length ks.length 0 l.length) (.slice r.ptr l.length r.cap) := by
  have he : Ext ρ (ext ρ st.mem.length r) := ext_ext (S.mem.past _ (Nat.le_refl _)) _
  refine ⟨_, he, ⟨S.defers, S.tmps.mono he, S.mem.push (hok.mono he) hh fun k hk => ⟨hf k hk, hok.2.2.self k hk⟩, S.frame⟩, ?_⟩
  simp only [Rel]
  obtain ⟨h1, ⟨h2, h3, h4⟩, _⟩ := hok
  refine ⟨_, ext_at _ _ _, ?_, fun hp => ?_⟩
  · congr 1
    split
    · rfl
    · simp [Addr.add]
  · have hc : 0 < r.cap := by omega
    obtain ⟨e1, e2, _⟩ := h4 hc
    exact ⟨by rw [e2, e1], by simpa using h2⟩
theorem run_append_zero {t ty e : TypeId} {i : TypeInfo} (ht : P.underlying t = some (.slice e)) (hi : P.info? e = some i) (base b : Option Addr) {n cap c : Nat} (h : n ≤ cap) (w : World) :
    (Builtin.append_ #[t, t] ty #[.slice base n cap, .slice b 0 c]).run P w = .ok (.slice base n cap) w := by
  cases b with
  | none =>
    cases base with
    | none => simp [Builtin.append_, run_underlying ht, sizeOf, typeInfo, hi, Builtin.lenOf, Builtin.firstCells, h]
    | some a => simp [Builtin.append_, run_underlying ht, sizeOf, typeInfo, hi, Builtin.lenOf, Builtin.firstCells, h, storeCells]
  | some b =>
    cases base with
    | none => simp [Builtin.append_, run_underlying ht, sizeOf, typeInfo, hi, Builtin.lenOf, Builtin.firstCells, h, loadCells, loadCellsFrom]
    | some a => simp [Builtin.append_, run_underlying ht, sizeOf, typeInfo, hi, Builtin.lenOf, Builtin.firstCells, h, loadCells, loadCellsFrom, storeCells]
theorem rowsOwned_append {ks : List CK} (l l' : List (RowT ks)) : rowsOwned ks (l ++ l') = rowsOwned ks l ++ rowsOwned ks l' := by simp [rowsOwned]
theorem rowsOwned_take {ks : List CK} (l : List (RowT ks)) (n : Nat) : (rowsOwned ks (l.take n)).Sublist (rowsOwned ks l) := by
  conv => rhs; rw [← List.take_append_drop n l, rowsOwned_append]
  exact List.sublist_append_left _ _
theorem RowsOsl.take {w : World} {ks : List CK} {l : List (RowT ks)} (h : RowsOsl w ks l) (n : Nat) : RowsOsl w ks (l.take n) := fun r hr => h r (List.mem_of_mem_take hr)
theorem RowsOsl.append {w : World} {ks : List CK} {l l' : List (RowT ks)} (h : RowsOsl w ks l) (h' : RowsOsl w ks l') : RowsOsl w ks (l ++ l') := fun r hr => (List.mem_append.1 hr).elim (h r) (h' r)
theorem nodup_join {l l' : List Nat} (h : l.Nodup) (h' : l'.Nodup) (hd : ∀ k ∈ l', k ∉ l) : (l ++ l').Nodup := List.nodup_append.2 ⟨h, h', fun a ha b hb e => hd b hb (e ▸ ha)⟩
/-- rows behind the rows of a slice, wherever they come from -/
theorem append_core {ρ : Loc} {st : St} {a : Act} {w : World} (S : Sim ρ w0 X st a w) {t ty e : TypeId} {ks : List CK} {ti : TypeInfo} {z : Value} {bytes : Nat} (hu : P.underlying t = some (.slice e)) (hti : P.info? e = some ti) (hz : ti.zero = some z) (hsz : ti.size = ks.length) (hby : ti.bytes = bytes) (hpos : 0 < ks.length) (hzs : z.cells.size = ks.length)
    {dst : SV} {yd : Value} (hd : Rel ρ dst yd) {q : Prop} {n m : Nat} {olds news : List (RowT ks)} {kl : Option Nat} (hb : baseRows st.mem e ks dst = some (q, n, olds, kl)) (hq : q) (h63 : n + m ≤ 9223372036854775807) (hbytes : (n + m) * bytes ≤ 140737488355328)
    {xb : Option Addr} {c : Nat} (hnl : news.length = m) (hxr : m = 0 ∨ ∃ a, xb = some a ∧ ∀ j v, (rowsV ks news)[j]? = some v → w.cell? (a.add j) = some v)
    (hg : RowsGood ρ.base ks news) (hos : RowsOsl w ks news) (hnd : (rowsOwned ks news).Nodup) (hfr : ∀ k ∈ rowsOwned ks news, Free ρ w0 X st.mem w k) :
    ∃ ρ' y' w', Ext ρ ρ' ∧ (Builtin.append_ #[t, t] ty #[yd, .slice xb m c]).run P w = .ok y' w' ∧ Sim ρ' w0 X { st with mem := killB st.mem kl ++ [⟨true, .own e ks (olds ++ news)⟩] } a w' ∧ Rel ρ' (.oslc st.mem.length ks.length 0 (n + m)) y' := by
  have hnl' : (rowsV ks news).length = m * ti.size := by rw [rowsV_length, hnl, hsz]
  have hone : ∀ u ∈ rowsV ks news, u.oneCell' = true := rowsV_one hg
  -- what was there
  have hold : RowsGood ρ.base ks olds ∧ RowsOsl w ks olds ∧ (rowsOwned ks olds).Nodup ∧ (∀ k ∈ rowsOwned ks olds, Free ρ w0 X (killB st.mem kl) w k) ∧ ∀ k ∈ rowsOwned ks news, k ∉ rowsOwned ks olds := by
    rcases baseRows_spec hb hq hd with ⟨rfl, rfl, rfl, ab, rfl⟩ | ⟨b, l, r, rfl, hmb, hnl2, rfl, hrb, rfl⟩
    · exact ⟨(fun r hr => nomatch hr), (fun r hr => nomatch hr), List.nodup_nil, (fun k hk => nomatch hk), fun k _ hk => nomatch hk⟩
    · obtain ⟨r', hr2, hok, hxx⟩ := S.mem.blk b _ hmb
      rw [hrb] at hr2; cases hr2
      obtain ⟨o1, o2, o3⟩ := hok
      have hsub := rowsOwned_take l n
      exact ⟨o3.good.take n, o3.osl.take n, o3.nodup.sublist hsub, fun k hk => S.mem.freed hmb hrb (.inl (hsub.subset hk)) (fun h => h.elim) (fun h => nomatch h), fun k hk hk2 => (hfr k hk).own2 b _ hmb (hsub.subset hk2)⟩
  have hfr2 : ∀ k ∈ rowsOwned ks news, Free ρ w0 X (killB st.mem kl) w k := fun k hk => by
    cases kl with
    | none => exact hfr k hk
    | some b => exact (hfr k hk).kill b
  have hgood := RowsGood.append hold.1 hg
  have hosl := RowsOsl.append hold.2.1 hos
  have hnod : (rowsOwned ks (olds ++ news)).Nodup := by rw [rowsOwned_append]; exact nodup_join hold.2.2.1 hnd hold.2.2.2.2
  have hfree : ∀ k ∈ rowsOwned ks (olds ++ news), Free ρ w0 X (killB st.mem kl) w k := fun k hk => by
    rw [rowsOwned_append] at hk
    exact (List.mem_append.1 hk).elim (hold.2.2.2.1 k) (hfr2 k)
  -- a new block
  have fresh : ∀ (old cap' : Nat) (w1 : World), w1 = w.drew → cap' = grownCap w (n + m) old e → olds.length = n →
      ∃ ρ', Ext ρ ρ' ∧ Sim ρ' w0 X { st with mem := killB st.mem kl ++ [⟨true, .own e ks (olds ++ news)⟩] } a (w1.alloc (.cells ((rowsV ks olds).toArray ++ (rowsV ks news).toArray ++ Builtin.zeroCells z.cells (cap' - (n + m))) e)) ∧ Rel ρ' (.oslc st.mem.length ks.length 0 (n + m)) (.slice (some ⟨w.heap.size, 0, none⟩) (n + m) cap') := by
    intro old cap' w1 hw1 hcap hol
    subst hw1; subst hcap
    have hge := grownCap_ge w (n + m) old e
    have hcm : grownCap w (n + m) old e ≤ maxLen := grownCap_le_maxLen w (n + m) old e (by simp only [maxLen]; omega)
    obtain ⟨ρ', he, S', hr'⟩ := (S.drew.kill kl).pushOwn e (ks := ks) (l := olds ++ news) (cap := grownCap w (n + m) old e) (cur := (rowsV ks olds).toArray ++ (rowsV ks news).toArray ++ Builtin.zeroCells z.cells (grownCap w (n + m) old e - (n + m)))
      (by simp [hol, hnl, hge]) hcm (by
        simp only [Array.size_append, List.size_toArray, size_zeroCells, hzs, rowsV_length, hol, hnl, ← Nat.add_mul]
        congr 1; omega) (fun j c hj => by
        rw [rowsV_append] at hj
        have hlt := (List.getElem?_eq_some_iff.1 hj).1
        have e : ((rowsV ks olds).toArray ++ (rowsV ks news).toArray ++ Builtin.zeroCells z.cells (grownCap w (n + m) old e - (n + m)))[j]? = ((rowsV ks olds ++ rowsV ks news) ++ (Builtin.zeroCells z.cells (grownCap w (n + m) old e - (n + m))).toList)[j]? := by
          rw [← Array.getElem?_toList]; simp
        rw [e, List.getElem?_append_left hlt]
        exact hj) hgood (hosl.of_block fun k _ => rfl) hnod (fun k hk => (hfree k hk).world (Nat.le_refl _))
    refine ⟨ρ', he, S', ?_⟩
    simp only [killB_length, List.length_append, hol, hnl] at hr'
    exact hr'
  rcases Nat.eq_zero_or_pos m with hm0 | hm0
  · -- nothing is appended
    subst hm0
    have hn0 : news = [] := List.eq_nil_of_length_eq_zero hnl
    subst hn0
    rcases baseRows_spec hb hq hd with ⟨rfl, rfl, rfl, ab, rfl⟩ | ⟨b, l, r, rfl, hmb, hnl2, rfl, hrb, rfl⟩
    · obtain ⟨ρ', he, S', hr'⟩ := S.pushAt (e := e) (ks := ks) (l := []) (r := ⟨0, 0, ab, 0⟩) ⟨fun k x hk => by simp at hk, ⟨by simp, by simp, fun h => absurd h (Nat.lt_irrefl _)⟩, ⟨(fun r hr => nomatch hr), (fun r hr => nomatch hr), List.nodup_nil, fun k hk => nomatch hk⟩⟩ (fun h => absurd h (Nat.lt_irrefl _)) (fun k hk => nomatch hk)
      exact ⟨ρ', _, w, he, run_append_zero hu hti ab xb (Nat.le_refl _) w, by simpa [killB] using S', by simpa using hr'⟩
    · obtain ⟨r', hr2, hok, hxx⟩ := S.mem.blk b _ hmb
      rw [hrb] at hr2; cases hr2
      obtain ⟨o1, ⟨o2, o3, o4⟩, o5⟩ := hok
      have hsub := rowsOwned_take l n
      obtain ⟨ρ', he, S', hr'⟩ := (S.kill (some b)).pushAt (e := e) (ks := ks) (l := l.take n) (r := r) ⟨fun k x hk => o1 k x (by rw [List.getElem?_take] at hk; split at hk; exact hk; cases hk), ⟨by simp; omega, o3, o4⟩, ⟨o5.good.take n, o5.osl.take n, o5.nodup.sublist hsub, fun k hk => o5.self k (hsub.subset hk)⟩⟩ (fun hc => S.mem.freed hmb hrb (.inr ⟨hc, rfl⟩) (fun h => h.elim) (fun h => nomatch h)) (fun k hk => S.mem.freed hmb hrb (.inl (hsub.subset hk)) (fun h => h.elim) (fun h => nomatch h))
      have hl : (l.take n).length = n := by simp [hnl2]
      refine ⟨ρ', _, w, he, run_append_zero hu hti r.ptr xb (by omega) w, by simpa using S', ?_⟩
      simp only [killB_length, hl, Nat.add_zero] at hr' ⊢
      exact hr'
  · have hxr := hxr.resolve_left (by omega)
    obtain ⟨xa, rfl, hnews⟩ := hxr
    rcases baseRows_spec hb hq hd with ⟨rfl, rfl, rfl, ab, rfl⟩ | ⟨b, l, r, rfl, hmb, hnl2, rfl, hrb, rfl⟩
    · obtain ⟨ρ', he, S', hr'⟩ := fresh 0 _ _ rfl rfl rfl
      cases ab with
      | none =>
        refine ⟨ρ', _, _, he, ?_, S', hr'⟩
        have := run_append_nil (P := P) w t ty e ti z hu hti hz xa m c (rowsV ks news) hnl' hnews hm0 (by omega) (by rw [hby]; have := hbytes; simp only [Nat.zero_add] at this; omega)
        simpa [rowsV] using this
      | some aa =>
        refine ⟨ρ', _, _, he, ?_, S', hr'⟩
        have := run_append_grow (P := P) w t ty e ti z hu hti hz aa 0 0 [] (by simp) (by simp) xa m c (rowsV ks news) hnl' hnews (by omega) (by omega) (by rw [hby]; exact growslice_fits (by omega) hbytes)
        simpa [rowsV] using this
    · obtain ⟨r', hr2, hok, hxx⟩ := S.mem.blk b _ hmb
      rw [hrb] at hr2; cases hr2
      obtain ⟨o1, ⟨o2, o3, o4⟩, o5⟩ := hok
      have hsub := rowsOwned_take l n
      have hol : (l.take n).length = n := by simp [hnl2]
      by_cases hroom : n + m ≤ r.cap
      · have hc : 0 < r.cap := by omega
        obtain ⟨e1, e2, cur, e3, e4⟩ := o4 hc
        have hfit : n * ti.size + (rowsV ks news).length ≤ cur.size := by rw [hnl', e4, hsz, ← Nat.add_mul]; exact Nat.mul_le_mul_right _ hroom
        have hrun := run_append_room (P := P) w t ty e ti hu hti r.1 n r.cap cur e3 xa m c (rowsV ks news) hnl' hnews hone hroom hfit
        have hcurl : cur.toList.take (n * ti.size) = rowsV ks (l.take n) := by
          apply List.ext_getElem?
          intro j
          rw [List.getElem?_take]
          have hlen : (rowsV ks (l.take n)).length = n * ti.size := by rw [rowsV_length, hol, hsz]
          split
          · rename_i hj
            have hj2 : j < (rowsV ks (l.take n)).length := by omega
            rw [List.getElem?_eq_getElem hj2]
            have hjl : (rowsV ks l)[j]? = some ((rowsV ks (l.take n))[j]) := by
              have e : rowsV ks l = rowsV ks (l.take n) ++ rowsV ks (l.drop n) := by rw [← rowsV_append, List.take_append_drop]
              rw [e, List.getElem?_append_left hj2]
              simp
            have := (RowsOK.iff.1 o1 j _ hjl).1
            rw [e1, Nat.zero_add, cell_of_row w r.1 j cur e (0, 0) e3] at this
            simpa using this
          · rename_i hj
            rw [List.getElem?_eq_none (by omega)]
        rw [hcurl] at hrun
        generalize hcur' : (rowsV ks (l.take n) ++ rowsV ks news ++ cur.toList.drop (n * ti.size + (rowsV ks news).length)).toArray = cur' at hrun
        have hw3 := setRow_heap w r.1 cur cur' e (0, 0) e3
        have hoth : ∀ k, k ≠ r.1 → (w.setRow r.1 cur').heap[k]? = w.heap[k]? := fun k hk => setRow_other w r.1 k _ hk
        have hS : Sim ρ w0 X { st with mem := killB st.mem (some b) } a (w.setRow r.1 cur') := ⟨S.defers, S.tmps, S.mem.upd hmb hrb (fun k hk => hoth k (hk hc)) (by simp) (fun h => h.elim) (fun k hk => nomatch hk) trivial, S.frame.upd S.mem hmb hrb hc rfl rfl rfl (by simp) hoth⟩
        have hne : ∀ k ∈ rowsOwned ks (l.take n ++ news), k ≠ r.1 := fun k hk => by
          rw [rowsOwned_append] at hk
          rcases List.mem_append.1 hk with hk | hk
          · exact o5.self k (hsub.subset hk) hc
          · exact fun e => (hfr k hk).hold b _ r hmb hrb hc e.symm
        have hfreeR : Free ρ w0 X (killB st.mem (some b)) w r.1 := S.mem.freed hmb hrb (.inr ⟨hc, rfl⟩) (fun h => h.elim) (fun h => nomatch h)
        obtain ⟨ρ', he, S', hr'⟩ := hS.pushAt (e := e) (ks := ks) (l := l.take n ++ news) (r := r) ⟨RowsOK.iff.2 fun j v hj => by
            rw [rowsV_append] at hj
            rw [e1, Nat.zero_add, cell_of_row _ r.1 j cur' e (0, 0) hw3]
            refine ⟨?_, fun _ => by simp [World.frozen?, hw3]⟩
            rw [← hcur']
            have hlt := (List.getElem?_eq_some_iff.1 hj).1
            simp only [List.getElem?_toArray]
            rw [List.getElem?_append_left hlt]
            exact hj, ⟨by simp [hnl, hnl2]; omega, o3, fun _ => ⟨e1, e2, cur', hw3, by
            rw [← hcur', ← e4]
            have : (rowsV ks (l.take n)).length = n * ti.size := by rw [rowsV_length, hol, hsz]
            simp only [List.size_toArray, List.length_append, List.length_drop, Array.length_toList, this]
            omega⟩⟩, ⟨hgood, hosl.of_block fun k hk => hoth k (hne k hk), hnod, fun k hk _ => hne k hk⟩⟩ (fun _ => hfreeR.world (by simp)) (fun k hk => (hfree k hk).world (by simp))
        refine ⟨ρ', _, _, he, by rw [e2]; exact hrun, S', ?_⟩
        simp only [killB_length, List.length_append, hol, hnl] at hr' ⊢
        rw [e2] at hr'
        exact hr'
      · obtain ⟨ρ', he, S', hr'⟩ := fresh r.cap _ _ rfl rfl hol
        refine ⟨ρ', _, _, he, ?_, S', hr'⟩
        rcases Nat.eq_zero_or_pos r.cap with hc | hc
        · have hl0 : l = [] := List.eq_nil_of_length_eq_zero (by omega)
          subst hl0
          have hn0 : n = 0 := by simpa using hnl2
          subst hn0
          cases hptr : r.ptr with
          | none =>
            have := run_append_nil (P := P) w t ty e ti z hu hti hz xa m c (rowsV ks news) hnl' hnews hm0 (by omega) (by rw [hby]; have := hbytes; simp only [Nat.zero_add] at this; omega)
            rw [hc]
            simpa [rowsV] using this
          | some aa =>
            have := run_append_grow (P := P) w t ty e ti z hu hti hz aa 0 0 [] (by simp) (by simp) xa m c (rowsV ks news) hnl' hnews (by omega) (by omega) (by rw [hby]; exact growslice_fits (by omega) hbytes)
            rw [hc]
            simpa [rowsV] using this
        · obtain ⟨e1, e2, cur, e3, e4⟩ := o4 hc
          rw [e2]
          refine run_append_grow (P := P) w t ty e ti z hu hti hz ⟨r.1, 0, none⟩ n r.cap (rowsV ks (l.take n)) (by rw [rowsV_length, hol, hsz]) (fun j v hj => ?_) xa m c (rowsV ks news) hnl' hnews (by omega) (by omega) (by rw [hby]; exact growslice_fits (by omega) hbytes)
          have hjl : (rowsV ks l)[j]? = some v := by
            have e : rowsV ks l = rowsV ks (l.take n) ++ rowsV ks (l.drop n) := by rw [← rowsV_append, List.take_append_drop]
            rw [e, List.getElem?_append_left (List.getElem?_eq_some_iff.1 hj).1]
            exact hj
          have := (RowsOK.iff.1 o1 j _ hjl).1
          rw [e1, Nat.zero_add] at this
          rw [addr_add, Nat.zero_add]
          exact this
theorem asOsl_spec {e : TypeId} {ks : List CK} : ∀ {k : CK} {x0 : k.T} {x : Value × Bool × List (RowT ks)}, asOsl e ks k x0 = some x → ∃ h : k = .osl e ks, HEq x x0
  | .osl e' ks', x0, x, h => by
    simp only [asOsl] at h
    split at h
    · rename_i h1
      subst h1
      split at h
      · rename_i h2
        subst h2
        cases h
        exact ⟨rfl, HEq.rfl⟩
      · cases h
    · cases h
  | .bool, _, _, h | .int _, _, _, h | .str, _, _, h | .sl _, _, _, h | .nodes, _, _, h => by simp [asOsl] at h
theorem hole_rowV : ∀ (ks : List CK) (r : RowT ks) (j : Nat), rowV ks (holeAt ks r j) = rowV ks r
  | [], _, _ => rfl
  | k :: ks, r, 0 => by cases k <;> rfl
  | k :: ks, r, j + 1 => by simp only [holeAt, rowV]; rw [hole_rowV ks r.2 j]
theorem hole_good {B : Base} : ∀ (ks : List CK) (r : RowT ks) (j : Nat), RowGood B ks r → RowGood B ks (holeAt ks r j)
  | [], _, _, _ => trivial
  | k :: ks, r, 0, h => ⟨by cases k <;> exact h.1, h.2⟩
  | k :: ks, r, j + 1, h => ⟨h.1, hole_good ks r.2 j h.2⟩
theorem hole_osl {w : World} : ∀ (ks : List CK) (r : RowT ks) (j : Nat), rowOsl w ks r → rowOsl w ks (holeAt ks r j)
  | [], _, _, _ => trivial
  | k :: ks, r, 0, h => ⟨by
    cases k with
    | osl e ks' => exact fun hf => absurd (show false = true from hf) (by decide)
    | _ => exact h.1, h.2⟩
  | k :: ks, r, j + 1, h => ⟨h.1, hole_osl ks r.2 j h.2⟩
theorem hole_owned {e : TypeId} {ks : List CK} {x : Value × Bool × List (RowT ks)} (hx : x.2.1 = true) : ∀ (ks2 : List CK) (r : RowT ks2) (j : Nat), cellAt e ks ks2 r j = some x → (rowOwned ks2 r).Perm (ownBlk x.1 ++ rowOwned ks2 (holeAt ks2 r j))
  | [], _, _, h => by simp [cellAt] at h
  | k :: ks2, r, 0, h => by
    simp only [cellAt] at h
    obtain ⟨rfl, hq⟩ := asOsl_spec h
    obtain rfl := eq_of_heq hq
    simp only [rowOwned, holeAt, CK.hole, CK.owned, hx, List.nil_append]
    exact .refl _
  | k :: ks2, r, j + 1, h => by
    simp only [cellAt] at h
    have ih := hole_owned hx ks2 r.2 j h
    simp only [rowOwned, holeAt]
    refine (ih.append_left (k.owned r.1)).trans ?_
    rw [← List.append_assoc, ← List.append_assoc]
    exact List.perm_append_comm.append_right _
theorem cellAt_spec {B : Base} {w : World} {e : TypeId} {ks : List CK} {x : Value × Bool × List (RowT ks)} (hx : x.2.1 = true) : ∀ (ks2 : List CK) (r : RowT ks2) (j : Nat), cellAt e ks ks2 r j = some x → RowGood B ks2 r → rowOsl w ks2 r →
    OslIs x.1 x.2.2.length ∧ RowsGood B ks x.2.2 ∧ RowsOK w true (plOf x.1) ks x.2.2 ∧ RoomOK w (plOf x.1) e ks.length x.2.2.length ∧ noOsl ks = true
  | [], _, _, h, _, _ => by simp [cellAt] at h
  | k :: ks2, r, 0, h, hg, ho => by
    simp only [cellAt] at h
    obtain ⟨rfl, hq⟩ := asOsl_spec h
    obtain rfl := eq_of_heq hq
    obtain ⟨h1, h2, h3⟩ := ho.1 hx
    exact ⟨hg.1.1, hg.1.2, h1, h2, h3⟩
  | k :: ks2, r, j + 1, h, hg, ho => by
    simp only [cellAt] at h
    exact cellAt_spec hx ks2 r.2 j h hg.2 ho.2
theorem getD_at {α : Type} {l : List α} {k : Nat} {d : α} (h : k < l.length) : l[k]? = some (l.getD k d) := by
  rw [List.getD_eq_getElem?_getD, List.getElem?_eq_getElem h]; rfl
theorem set_split {α : Type} {l : List α} {k : Nat} {d : α} (h : k < l.length) (x : α) : l = l.take k ++ l.getD k d :: l.drop (k + 1) ∧ l.set k x = l.take k ++ x :: l.drop (k + 1) := by
  have e : l.getD k d = l[k] := by rw [List.getD_eq_getElem?_getD, List.getElem?_eq_getElem h]; rfl
  constructor
  · rw [e]
    conv => lhs; rw [← List.take_append_drop k l, List.drop_eq_getElem_cons h]
  · rw [List.set_eq_take_append_cons_drop, if_pos h]
theorem rowsOwned_set {ks : List CK} {l : List (RowT ks)} {k : Nat} (h : k < l.length) (x : RowT ks) :
    rowsOwned ks l = rowsOwned ks (l.take k) ++ (rowOwned ks (l.getD k (RowT.dflt ks)) ++ rowsOwned ks (l.drop (k + 1))) ∧ rowsOwned ks (l.set k x) = rowsOwned ks (l.take k) ++ (rowOwned ks x ++ rowsOwned ks (l.drop (k + 1))) := by
  obtain ⟨h1, h2⟩ := set_split (d := RowT.dflt ks) h x
  constructor
  · conv => lhs; rw [h1]
    rw [rowsOwned_append]; rfl
  · rw [h2, rowsOwned_append]; rfl
theorem rows_set_all {ks : List CK} {l : List (RowT ks)} {Q : RowT ks → Prop} (h : ∀ r ∈ l, Q r) (k : Nat) {x : RowT ks} (hx : Q x) : ∀ r ∈ l.set k x, Q r := fun r hr => by
  rcases List.mem_or_eq_of_mem_set hr with h1 | rfl
  · exact h r h1
  · exact hx
theorem rowsV_set_same {ks : List CK} {l : List (RowT ks)} {k : Nat} (h : k < l.length) {x : RowT ks} (hx : rowV ks x = rowV ks (l.getD k (RowT.dflt ks))) : rowsV ks (l.set k x) = rowsV ks l := by
  obtain ⟨h1, h2⟩ := set_split (d := RowT.dflt ks) h x
  rw [h2]
  conv => rhs; rw [h1]
  simp only [rowsV, List.flatMap_append, List.flatMap_cons, hx]
theorem ownBlk_pl {a : Option Addr} {n c : Nat} {e : TypeId} {w : World} {sz m : Nat} (h : RoomOK w (plOf (.slice a n c)) e sz m) : ownBlk (.slice a n c) = if 0 < c then [(plOf (.slice a n c)).1] else [] := by
  cases a with
  | none =>
    have : ¬ 0 < c := fun hc => by
      obtain ⟨_, h2, _⟩ := h.2.2 hc
      simp [plOf] at h2
    rw [if_neg this]; rfl
  | some a =>
    cases c with
    | zero => rfl
    | succ c => rw [if_pos (by omega)]; rfl
/-- an owned slice of a row gets a block of its own -/
theorem openDst_sound {ρ : Loc} {w0 w : World} {X : Lim} {mem : List Blk} (hm : MemOK ρ w0 X mem w) {s : SV} {y : Value} (hs : Rel ρ s y) {cont : SV → List Blk → Tr α} (h : (openDst s mem cont).holds R) :
    ∃ ρ' s' mem', Ext ρ ρ' ∧ MemOK ρ' w0 X mem' w ∧ Rel ρ' s' y ∧ (cont s' mem').holds R ∧ (isOslc s = true → ∀ q, Free ρ w0 X mem w q → Free ρ' w0 X mem' w q) := by
  cases s with
  | osv b k j e ks x =>
    simp only [openDst] at h
    split at h
    · rename_i e2 ks2 l hb
      obtain ⟨⟨hk, hc, hx⟩, h⟩ := h
      have h := h ⟨hk, hc, hx⟩
      obtain ⟨r, hr, hok, hxx⟩ := hm.blk b _ hb
      obtain ⟨o1, o2, o3⟩ := hok
      have hrow := List.mem_of_getElem? (getD_at (d := RowT.dflt ks2) hk)
      obtain ⟨⟨a, c, hv, _⟩, g2, g3, g4, g5⟩ := cellAt_spec hx ks2 _ j hc (o3.good _ hrow) (o3.osl _ hrow)
      obtain ⟨w1, w2⟩ := rowsOwned_set hk (holeAt ks2 (l.getD k (RowT.dflt ks2)) j)
      have hperm : (rowsOwned ks2 l).Perm (ownBlk x.1 ++ rowsOwned ks2 (l.set k (holeAt ks2 (l.getD k (RowT.dflt ks2)) j))) := by
        rw [w1, w2]
        refine (((hole_owned hx ks2 _ j hc).append_right _).append_left _).trans ?_
        rw [List.append_assoc]
        exact List.perm_append_comm_assoc _ _ _
      have hnd := hperm.nodup_iff.1 o3.nodup
      rw [List.nodup_append] at hnd
      have hm1 := hm.upd (w' := w) hb hr (fun _ _ => rfl) rfl (body' := .own e2 ks2 (l.set k (holeAt ks2 (l.getD k (RowT.dflt ks2)) j))) (fun h => h) (fun q hq => .inl (hperm.symm.subset (List.mem_append_right _ hq)))
        ⟨RowsOK.iff.2 fun q v hq => RowsOK.iff.1 o1 q v (by rw [← rowsV_set_same hk (hole_rowV ks2 _ j)]; exact hq), by rw [List.length_set]; exact o2, ⟨rows_set_all o3.good k (hole_good ks2 _ j (o3.good _ hrow)), rows_set_all o3.osl k (hole_osl ks2 _ j (o3.osl _ hrow)), hnd.2.1, fun q hq => o3.self q (hperm.symm.subset (List.mem_append_right _ hq))⟩⟩
      have hfree : ∀ q ∈ ownBlk x.1, Free ρ w0 X (mem.set b ⟨true, .own e2 ks2 (l.set k (holeAt ks2 (l.getD k (RowT.dflt ks2)) j))⟩) w q := fun q hq =>
        hm.freed hb hr (.inl (hperm.symm.subset (List.mem_append_left _ hq))) (fun hc => o3.self q (hperm.symm.subset (List.mem_append_left _ hq)) hc) (fun hq2 => hnd.2.2 q hq q hq2 rfl)
      have hown := noOsl_rows x.2.2 g5
      have hblk : ∀ hc : 0 < (plOf x.1).cap, (plOf x.1).1 ∈ ownBlk x.1 := fun hc => plOf_blk hc (by rw [(g4.2.2 hc).2.1]; simp)
      have hm2 := hm1.push (r := plOf x.1) (body := .own e ks x.2.2) ⟨g3, g4, ⟨g2, hown.2 w, by rw [hown.1]; exact List.nodup_nil, fun q hq => by rw [hown.1] at hq; cases hq⟩⟩ (fun hh => hfree _ (hblk hh)) (fun q hq => by
        have : q ∈ rowsOwned ks x.2.2 := hq
        rw [hown.1] at this; cases this)
      have he : Ext ρ (ext ρ (mem.set b ⟨true, .own e2 ks2 (l.set k (holeAt ks2 (l.getD k (RowT.dflt ks2)) j))⟩).length (plOf x.1)) := ext_ext (hm1.past _ (Nat.le_refl _)) _
      refine ⟨_, _, _, he, hm2, ?_, h, fun _ q hq => ?_⟩
      · simp only [Rel] at hs ⊢
        obtain ⟨rfl, _⟩ := hs
        have hat := ext_at ρ (mem.set b ⟨true, .own e2 ks2 (l.set k (holeAt ks2 (l.getD k (RowT.dflt ks2)) j))⟩).length (plOf x.1)
        rw [List.length_set] at hat ⊢
        refine ⟨_, hat, ?_, fun hp => ?_⟩
        · rw [hv]
          cases a with
          | none => simp [plOf]
          | some a => by_cases hc0 : c = 0 <;> simp [plOf, hc0, Addr.add]
        · have hc' : 0 < (plOf x.1).cap := by have := g4.1; omega
          obtain ⟨e1, e2, _⟩ := g4.2.2 hc'
          exact ⟨by rw [e2, e1], by have := g4.1; omega⟩
      · -- what was free is so still
        have hq2 : q ∉ rowsOwned ks2 l := hq.own2 b _ hb
        refine ⟨hq.lt, hq.mine, fun i bi ri hi hri hl => ?_, fun i bi hi hqi => ?_, hq.base⟩
        · by_cases hil : i < (mem.set b ⟨true, .own e2 ks2 (l.set k (holeAt ks2 (l.getD k (RowT.dflt ks2)) j))⟩).length
          · rw [List.getElem?_append_left hil] at hi
            have hri' : ρ i = some ri := by
              have : (if i = (mem.set b ⟨true, .own e2 ks2 (l.set k (holeAt ks2 (l.getD k (RowT.dflt ks2)) j))⟩).length then some (plOf x.1) else ρ i) = some ri := hri
              rwa [if_neg (by omega)] at this
            by_cases hib : i = b
            · subst hib
              rw [hr] at hri'; cases hri'
              rw [List.getElem?_set_self (by simpa using hil)] at hi
              cases hi
              exact hq.hold i _ r hb hr hl
            · rw [List.getElem?_set_ne (Ne.symm hib)] at hi
              exact hq.hold i bi ri hi hri' hl
          · have hil2 : i = (mem.set b ⟨true, .own e2 ks2 (l.set k (holeAt ks2 (l.getD k (RowT.dflt ks2)) j))⟩).length := by
              have := (List.getElem?_eq_some_iff.1 hi).1
              simp only [List.length_append, List.length_cons, List.length_nil] at this
              omega
            subst hil2
            rw [ext_at] at hri; cases hri
            simp at hi; subst hi
            exact fun e => hq2 (hperm.symm.subset (List.mem_append_left _ (e ▸ hblk hl)))
        · by_cases hil : i < (mem.set b ⟨true, .own e2 ks2 (l.set k (holeAt ks2 (l.getD k (RowT.dflt ks2)) j))⟩).length
          · rw [List.getElem?_append_left hil] at hi
            by_cases hib : i = b
            · subst hib
              rw [List.getElem?_set_self (by simpa using hil)] at hi
              cases hi
              exact hq2 (hperm.symm.subset (List.mem_append_right _ hqi))
            · rw [List.getElem?_set_ne (Ne.symm hib)] at hi
              exact hq.own2 i bi hi hqi
          · have hil2 : i = (mem.set b ⟨true, .own e2 ks2 (l.set k (holeAt ks2 (l.getD k (RowT.dflt ks2)) j))⟩).length := by
              have := (List.getElem?_eq_some_iff.1 hi).1
              simp only [List.length_append, List.length_cons, List.length_nil] at this
              omega
            subst hil2
            simp at hi; subst hi
            have : q ∈ rowsOwned ks x.2.2 := hqi
            rw [hown.1] at this; cases this
    · exact h.elim
  | _ => exact ⟨ρ, _, mem, .refl _, hm, hs, h, fun _ _ hq => hq⟩
theorem oslc_val {ρ : Loc} {b sz n : Nat} {y : Value} {r : Place} (hs : Rel ρ (.oslc b sz 0 n) y) (hr : ρ b = some r) : y = .slice r.ptr n r.cap ∧ (0 < n → r.ptr = some ⟨r.1, r.2, none⟩ ∧ n ≤ r.cap) := by
  simp only [Rel] at hs
  obtain ⟨r', hr', rfl, hp⟩ := hs
  rw [hr] at hr'; cases hr'
  refine ⟨?_, fun h => ⟨(hp h).1, by have := (hp h).2; omega⟩⟩
  simp only [Nat.zero_mul, Nat.sub_zero]
  congr 1
  split
  · rfl
  · cases r.ptr <;> simp [Addr.add]
theorem Base.cell_of {B : Base} {w : World} {k j : Nat} {o : Obj} {v : Value} (hB : B k = some o) (hw : w.heap[k]? = some o) (hc : w.cell? ⟨k, j, none⟩ = some v) : Base.cell B k j = some v := by
  unfold World.cell? at hc
  simp only [hw] at hc
  unfold Base.cell
  rw [hB]
  cases o <;> first | (simp at hc; done) | (simpa using hc)
/-- an own block is let stay as it is -/
theorem MemOK.freeze {ρ : Loc} {w0 w : World} {X : Lim} {mem : List Blk} (hm : MemOK ρ w0 X mem w) {b : Nat} {e : TypeId} {ks : List CK} {l : List (RowT ks)} (hb : mem[b]? = some ⟨true, .own e ks l⟩) {r : Place} (hr : ρ b = some r) :
    ∃ ρ', Ext ρ ρ' ∧ MemOK ρ' w0 X (mem.set b ⟨true, .dead⟩) w ∧ (0 < r.cap → ∃ o, ρ'.base r.1 = some o ∧ w.heap[r.1]? = some o) ∧ ∀ q, Free ρ w0 X mem w q → Free ρ' w0 X (mem.set b ⟨true, .dead⟩) w q := by
  obtain ⟨r', hr', hok, hxx⟩ := hm.blk b _ hb
  rw [hr] at hr'; cases hr'
  by_cases hc : 0 < r.cap
  · obtain ⟨o1, o2, o3⟩ := hok
    obtain ⟨_, _, cur, e3, _⟩ := o2.2.2 hc
    have hm1 := hm.kill b
    have hfr : Free ρ w0 X (mem.set b ⟨true, .dead⟩) w r.1 := hm.freed hb hr (.inr ⟨hc, rfl⟩) (fun h => h.elim) (fun h => nomatch h)
    let ρ' : Loc := ⟨ρ.at_, fun k => if k = r.1 then some (.cells cur e (0, 0)) else ρ.base k⟩
    have hB : ∀ k, k ≠ r.1 → ρ'.base k = ρ.base k := fun k hk => if_neg hk
    have he : Ext ρ ρ' := ⟨fun _ _ h => h, fun k o hk => by
      by_cases hkr : k = r.1
      · subst hkr; have := hfr.base; rw [this] at hk; cases hk
      · rw [hB k hkr]; exact hk⟩
    refine ⟨ρ', he, ⟨fun i bi hi => ?_, hm1.past, hm1.apart, fun i bi k hi hk => ?_, hm1.moreA, hm1.moreB, fun k o hk => ?_, fun i bi ri hi hrw hri hl => ?_, fun k o hk => ?_⟩, fun _ => ⟨_, if_pos rfl, e3⟩, fun q hq => ?_⟩
    · obtain ⟨ri, hri, hbi, hx⟩ := hm1.blk i bi hi
      exact ⟨ri, hri, hbi.mono he, hx⟩
    · have := hm1.more i bi k hi hk
      exact ⟨this.1, fun hrw => ⟨(this.2 hrw).1, by rw [hB k (fun e => hfr.own2 i bi hi (e ▸ hk))]; exact (this.2 hrw).2⟩⟩
    · by_cases hkr : k = r.1
      · subst hkr
        have : some (Obj.cells cur e (0, 0)) = some o := by rw [← hk]; exact (if_pos rfl).symm
        cases this; exact e3
      · rw [hB k hkr] at hk; exact hm1.base k o hk
    · rw [hB _ (hfr.hold i bi ri hi hri hl)]
      exact hm1.free i bi ri hi hrw hri hl
    · by_cases hkr : k = r.1
      · subst hkr; exact .inr hfr.mine
      · rw [hB k hkr] at hk; exact hm1.grow k o hk
    · have h1 := hq.kill b
      exact ⟨h1.lt, h1.mine, h1.hold, h1.own2, by rw [hB q (fun e => hq.hold b _ r hb hr hc e.symm)]; exact h1.base⟩
  · exact ⟨ρ, .refl _, hm.kill b, fun h => absurd h hc, fun q hq => hq.kill b⟩
theorem ofRow_row : ∀ r : RowT nodeK, (PNode.ofRow r).row = r
  | (_, (_, _), (_, _), ()) => rfl
theorem ofRow_rows (l : List (RowT nodeK)) : (l.map PNode.ofRow).map PNode.row = l := by
  rw [List.map_map]
  have : (PNode.row ∘ PNode.ofRow) = id := by funext r; exact ofRow_row r
  rw [this, List.map_id]
theorem ofRow_good {B : Base} : ∀ {r : RowT nodeK}, RowGood B nodeK r → (PNode.ofRow r).good B
  | (_, (_, _), (_, _), ()), h => ⟨h.2.1.1, h.2.2.1.1, h.2.2.1.2⟩
theorem ofRows_good {B : Base} : ∀ {l : List (RowT nodeK)}, RowsGood B nodeK l → goodL B (l.map PNode.ofRow)
  | [], _ => trivial
  | r :: l, h => ⟨ofRow_good (h r (by simp)), ofRows_good fun x hx => h x (List.mem_cons_of_mem _ hx)⟩
theorem settleOwn_sound {ρ : Loc} {w0 w : World} {X : Lim} {mem : List Blk} (hm : MemOK ρ w0 X mem w) {b sz n : Nat} {e : TypeId} {ks' : List CK} {l : List (RowT ks')} (hb : mem[b]? = some ⟨true, .own e ks' l⟩) {y : Value} (hs : Rel ρ (.oslc b sz 0 n) y) {mk : (Value → Tr α) → Tr α} (hmk : ∀ f, (mk f).holds R → (f y).holds R) :
    ∀ {k : CK} {cont : k.T → List Blk → Tr α}, (settleOwn mk sz n e ks' l (mem.set b ⟨true, .dead⟩) k cont).holds R →
    ∃ ρ' x, Ext ρ ρ' ∧ MemOK ρ' w0 X (mem.set b ⟨true, .dead⟩) w ∧ y = k.toV x ∧ k.good ρ'.base x ∧ k.oslOK w x ∧ (k.owned x).Nodup ∧ (∀ q ∈ k.owned x, Free ρ' w0 X (mem.set b ⟨true, .dead⟩) w q) ∧ (∀ q, Free ρ w0 X mem w q → Free ρ' w0 X (mem.set b ⟨true, .dead⟩) w q ∧ q ∉ k.owned x) ∧ (cont x (mem.set b ⟨true, .dead⟩)).holds R := by
  obtain ⟨r, hr, hok, hxx⟩ := hm.blk b _ hb
  obtain ⟨o1, o2, o3⟩ := hok
  obtain ⟨hy, hyp⟩ := oslc_val hs hr
  have slc : ∀ {ρ' : Loc}, (0 < r.cap → ∃ o, ρ'.base r.1 = some o ∧ w.heap[r.1]? = some o) → n ≤ l.length → SlcIs ρ'.base y n (rowsV ks' (l.take n)) := by
    intro ρ' hB hn
    refine ⟨r.ptr, r.cap, hy, by have := o2.1; omega, fun hn0 => ?_⟩
    obtain ⟨o, hb1, hb2⟩ := hB (by have := (hyp hn0).2; omega)
    refine ⟨r.1, r.2, (hyp hn0).1, fun j v hj => Base.cell_of hb1 hb2 ?_⟩
    have hj2 := rowsV_sub (k := 0) (m := n) (by rw [List.drop_zero]; exact hj)
    rw [Nat.zero_mul, Nat.zero_add] at hj2
    exact (RowsOK.iff.1 o1 j v hj2).1
  intro k cont h
  cases k with
  | sl ks =>
    simp only [settleOwn] at h
    split at h
    · rename_i hk
      subst hk
      split at h
      · rename_i hc
        obtain ⟨hn, h⟩ := h
        have h := hmk _ (h hn)
        obtain ⟨ρ', he, hm', hB, hfr⟩ := hm.freeze hb hr
        refine ⟨ρ', _, he, hm', rfl, ⟨?_, ?_⟩, trivial, List.nodup_nil, (fun q hq => nomatch hq), (fun q hq => ⟨hfr q hq, fun h => nomatch h⟩), h⟩
        · have := slc hB hn
          simpa [List.length_take, Nat.min_eq_left hn] using this
        · exact fun x hx => RowGood.le he.base _ x (o3.good x (List.mem_of_mem_take hx))
      · exact h.elim
    · exact h.elim
  | nodes =>
    simp only [settleOwn] at h
    split at h
    · rename_i hk
      subst hk
      split at h
      · rename_i hc
        obtain ⟨hn, h⟩ := h
        have h := hmk _ (h hn)
        obtain ⟨ρ', he, hm', hB, hfr⟩ := hm.freeze hb hr
        refine ⟨ρ', _, he, hm', rfl, ⟨?_, ?_⟩, trivial, List.nodup_nil, (fun q hq => nomatch hq), (fun q hq => ⟨hfr q hq, fun h => nomatch h⟩), h⟩
        · have := slc hB hn
          rw [← nodes_rows, ofRow_rows]
          simpa [List.length_take, Nat.min_eq_left hn] using this
        · exact ofRows_good fun x hx => RowGood.le he.base _ x (o3.good x (List.mem_of_mem_take hx))
      · exact h.elim
    · exact h.elim
  | osl e' ks =>
    simp only [settleOwn] at h
    split at h
    · rename_i hk
      subst hk
      split at h
      · rename_i hc
        obtain ⟨rfl, hsz, hno⟩ := hc
        obtain ⟨hn, h⟩ := h
        have h := hmk _ (h hn)
        have hlen : (l.take n).length = n := by simp [hn]
        have hown : ∀ q ∈ ownBlk y, 0 < r.cap ∧ q = r.1 := by
          intro q hq
          rw [hy] at hq
          unfold ownBlk at hq
          split at hq
          · rename_i a0 n0 c0 heq
            injection heq with h1 h2 h3
            have hc : 0 < r.cap := by omega
            have := (o2.2.2 hc).2.1
            rw [this] at h1; cases h1
            simp at hq
            exact ⟨hc, hq⟩
          · cases hq
        refine ⟨ρ, _, .refl _, hm.kill b, rfl, ⟨⟨r.ptr, r.cap, by simp only [hlen]; exact hy, fun h0 => ⟨_, _, (hyp (by simpa only [hlen] using h0)).1⟩⟩, fun x hx => o3.good x (List.mem_of_mem_take hx)⟩, fun _ => ?_, ?_, fun q hq => ?_, fun q hq => ⟨hq.kill b, fun h => ?_⟩, h⟩
        · by_cases hc : 0 < r.cap
          · obtain ⟨e1, e2, cur, e3, e4⟩ := o2.2.2 hc
            have hpl : plOf y = r := by
              rw [hy, e2]
              cases r
              simp only at e1 e2
              subst e1; subst e2
              rfl
            simp only [hpl, hlen]
            exact ⟨fun k x hk => o1 k x (by rw [List.getElem?_take] at hk; split at hk; exact hk; cases hk), ⟨by have := o2.1; omega, o2.2.1, o2.2.2⟩, hno⟩
          · have hl : l = [] := List.eq_nil_of_length_eq_zero (by have := o2.1; omega)
            subst hl
            have hn0 : n = 0 := by simpa using hn
            subst hn0
            have hcap : (plOf y).cap = 0 := by
              rw [hy]
              cases r.ptr <;> simp [plOf] <;> omega
            simp only [List.take_nil, List.length_nil]
            exact ⟨fun k x hk => by simp at hk, ⟨Nat.zero_le _, by rw [hcap]; exact Nat.zero_le _, fun h => by rw [hcap] at h; exact absurd h (Nat.lt_irrefl _)⟩, hno⟩
        · show (ownBlk y).Nodup
          rw [hy]; unfold ownBlk
          split
          · exact List.nodup_cons.2 ⟨by simp, List.nodup_nil⟩
          · exact List.nodup_nil
        · obtain ⟨hc, rfl⟩ := hown q hq
          exact hm.freed hb hr (.inr ⟨hc, rfl⟩) (fun h => h.elim) (fun h => nomatch h)
        · obtain ⟨hc, rfl⟩ := hown q h
          exact hq.hold b _ r hb hr hc rfl
      · exact h.elim
    · exact h.elim
  | _ => exact h.elim
theorem settleCell_sound {ρ : Loc} {w0 w : World} {X : Lim} {mem : List Blk} (hm : MemOK ρ w0 X mem w) {k : CK} {s : SV} {y : Value} (hs : Rel ρ s y) {cont : k.T → List Blk → Tr α} (h : (settleCell k s mem cont).holds R) :
    ∃ ρ' x mem', Ext ρ ρ' ∧ MemOK ρ' w0 X mem' w ∧ y = k.toV x ∧ k.good ρ'.base x ∧ k.oslOK w x ∧ (k.owned x).Nodup ∧ (∀ q ∈ k.owned x, Free ρ' w0 X mem' w q) ∧ (∀ q, Free ρ w0 X mem w q → Free ρ' w0 X mem' w q ∧ q ∉ k.owned x) ∧ (cont x mem').holds R := by
  unfold settleCell at h
  split at h
  · split at h
    · rename_i x hx
      obtain ⟨h1, h2⟩ := CK.of_spec hx hs
      obtain ⟨h3, h4⟩ := CK.of_own hx
      exact ⟨ρ, x, mem, .refl _, hm, h1, h2, h4 w, by rw [h3]; exact List.nodup_nil, (fun q hq => by rw [h3] at hq; cases hq), (fun q hq => ⟨hq, by rw [h3]; exact fun h => nomatch h⟩), h⟩
    · exact h.elim
  · split at h
    · rename_i b i j e ks x hio
      obtain ⟨ρ1, s1, mem1, he1, hm1, hs1, h1, hf1⟩ := openDst_sound hm hs h
      split at h1
      · rename_i b1 sz1 n1
        split at h1
        · rename_i e1 ks1 l1 hb1
          have hy : y = x.1 := by simp only [Rel] at hs; exact hs.1
          obtain ⟨ρ', x', he, hm', h1, h2, h3, h4, h5, h6, h7⟩ := settleOwn_sound hm1 hb1 hs1 (mk := fun f => f x.1) (fun f hf => by rw [hy]; exact hf) h1
          exact ⟨ρ', x', _, he1.trans he, hm', h1, h2, h3, h4, h5, fun q hq => h6 q (hf1 rfl q hq), h7⟩
        · exact h1.elim
      · exact h1.elim
    · rename_i b sz n
      split at h
      · rename_i e ks' l hb
        obtain ⟨ρ', x, he, hm', h1, h2, h3, h4, h5, h6, h7⟩ := settleOwn_sound hm hb hs (mk := anyVal) (fun f hf => hf y trivial) h
        exact ⟨ρ', x, _, he, hm', h1, h2, h3, h4, h5, h6, h7⟩
      · exact h.elim
    · exact h.elim
theorem settleRow_sound : ∀ {ks : List CK} {ss : List SV} {ρ : Loc} {w0 w : World} {X : Lim} {mem : List Blk} (hm : MemOK ρ w0 X mem w) {ys : List Value} (hs : RelL ρ ss ys) {cont : RowT ks → List Blk → Tr α} (h : (settleRow ks ss mem cont).holds R),
    ∃ ρ' x mem', Ext ρ ρ' ∧ MemOK ρ' w0 X mem' w ∧ ys = rowV ks x ∧ RowGood ρ'.base ks x ∧ rowOsl w ks x ∧ (rowOwned ks x).Nodup ∧ (∀ q ∈ rowOwned ks x, Free ρ' w0 X mem' w q) ∧ (∀ q, Free ρ w0 X mem w q → Free ρ' w0 X mem' w q ∧ q ∉ rowOwned ks x) ∧ (cont x mem').holds R
  | [], [], ρ, w0, w, X, mem, hm, ys, hs, cont, h => by
    simp only [RelL] at hs
    exact ⟨ρ, (), mem, .refl _, hm, hs, trivial, trivial, List.nodup_nil, (fun q hq => nomatch hq), (fun q hq => ⟨hq, fun h => nomatch h⟩), h⟩
  | [], _ :: _, ρ, w0, w, X, mem, hm, ys, hs, cont, h => h.elim
  | _ :: _, [], ρ, w0, w, X, mem, hm, ys, hs, cont, h => h.elim
  | k :: ks, s :: ss, ρ, w0, w, X, mem, hm, ys, hs, cont, h => by
    obtain ⟨y, ys', rfl, hy, hys⟩ := hs.cons_inv
    simp only [settleRow] at h
    obtain ⟨ρ1, x, mem1, he1, hm1, a1, a2, a3, a4, a5, a6, h1⟩ := settleCell_sound hm hy h
    obtain ⟨ρ2, r, mem2, he2, hm2, b1, b2, b3, b4, b5, b6, h2⟩ := settleRow_sound hm1 (hys.mono he1) h1
    refine ⟨ρ2, (x, r), mem2, he1.trans he2, hm2, by simp only [rowV]; rw [a1, b1], ⟨CK.good.le he2.base k x a2, b2⟩, ⟨a3, b3⟩, nodup_join a4 b4 fun q hq hq2 => (b6 q (a5 q hq2)).2 hq, fun q hq => ?_, fun q hq => ?_, h2⟩
    · rcases List.mem_append.1 hq with hq | hq
      · exact (b6 q (a5 q hq)).1
      · exact b5 q hq
    · obtain ⟨c1, c2⟩ := a6 q hq
      obtain ⟨c3, c4⟩ := b6 q c1
      exact ⟨c3, fun hh => (List.mem_append.1 hh).elim c2 c4⟩
theorem elemOf_pos {t : TypeId} {i : ElemInfo} (h : elemOf P t = some i) {mem : List Blk} {dst : SV} : (dstKs mem i.ks dst).length = i.ks.length := by
  unfold dstKs
  split
  · split
    · split
      · rename_i hd; exact of_decide_eq_true hd
      · rfl
    · rfl
  · rfl
theorem appendX_sound {ρ : Loc} {st : St} {a : Act} {w : World} (S : Sim ρ w0 X st a w) {ts : Array TypeId} {ty : TypeId} {dst x : SV} {yd yx : Value} (hd : Rel ρ dst yd) (hx : Rel ρ x yx) {k : SV → List Blk → Tr α} (h : (appendX P ts.toList dst x st.mem k).holds R) :
    ∃ ρ' y' w' s' mem', Ext ρ ρ' ∧ (Builtin.append_ ts ty #[yd, yx]).run P w = .ok y' w' ∧ Sim ρ' w0 X { st with mem := mem' } a w' ∧ Rel ρ' s' y' ∧ (k s' mem').holds R := by
  unfold appendX at h
  split at h
  · rename_i t t' hts
    split at h
    · rename_i htt
      subst htt
      have hts : ts = #[t, t] := by apply Array.ext'; simpa using hts
      subst hts
      split at h
      · rename_i i hi
        obtain ⟨hu, ti, z, hti, hz, hsz, hby, hpos, hzs, hzr⟩ := elemOf_spec hi
        obtain ⟨ρ1, dst1, mem1, he1, hm1, hd1, h, _⟩ := openDst_sound S.mem hd h
        have hkl := elemOf_pos hi (mem := mem1) (dst := dst1)
        have S1 : Sim ρ1 w0 X { st with mem := mem1 } a w := ⟨S.defers, S.tmps.mono he1, hm1, S.frame⟩
        have hx1 := hx.mono he1
        split at h
        · rename_i q n olds kl p m news hb hr
          obtain ⟨⟨hq, hp, h63, hbytes⟩, hk⟩ := h
          have hk := hk ⟨hq, hp, h63, hbytes⟩
          obtain ⟨hnl, xb, c, rfl, hxr⟩ := readRows_spec hr hp hm1.memB hx1 (fun _ => rfl)
          obtain ⟨g1, g2, g3⟩ := readRows_more hr hp hm1.memB hx1
          obtain ⟨ρ', y', w', he, hrun, S', hr'⟩ := append_core S1 (ty := ty) hu hti hz (by rw [hkl]; exact hsz) hby (by omega) (by rw [hkl]; exact hzs) hd1 hb hq h63 hbytes hnl hxr g1 (g3 w) (by rw [g2]; exact List.nodup_nil) (fun k hk => by rw [g2] at hk; cases hk)
          exact ⟨ρ', y', w', _, _, he1.trans he, hrun, S', hr', hk⟩
        · split at h
          · rename_i b off cap _ _
            split at h
            · rename_i rw cs hb
              have hx2 := hx1
              simp only [Rel] at hx2
              obtain ⟨r, hr, rfl⟩ := hx2
              obtain ⟨r', hr', hbody⟩ := hm1.memB b _ hb
              rw [hr] at hr'; cases hr'
              have hbody : ∀ j s, cs[j]? = some s → CellOK ρ1 w rw r j s := hbody
              obtain ⟨ys, h1, h2⟩ := load_cells (ρ := ρ1) (w := w) r off ((cs.drop off).take (dstKs mem1 i.ks dst1).length) 0 (fun j s hj => by
                have hj' : cs[off + j]? = some s := by
                  rw [List.getElem?_take] at hj
                  split at hj
                  · rwa [List.getElem?_drop] at hj
                  · cases hj
                obtain ⟨y, hy, hr, _⟩ := hbody _ _ hj'
                exact ⟨y, by rw [Nat.zero_add, Nat.add_assoc]; exact hy, hr⟩)
              obtain ⟨ρ2, x, mem2, he2, hm2, a1, a2, a3, a4, a5, _, h⟩ := settleRow_sound hm1 h1 h
              have S2 : Sim ρ2 w0 X { st with mem := mem2 } a w := ⟨S.defers, (S.tmps.mono he1).mono he2, hm2, S.frame⟩
              split at h
              · rename_i q n olds kl hb2
                obtain ⟨⟨hq, hoff, h63, hbytes⟩, hk⟩ := h
                have hk := hk ⟨hq, hoff, h63, hbytes⟩
                subst a1
                obtain ⟨ρ', y', w', he, hrun, S', hr'⟩ := append_core S2 (ty := ty) (m := 1) (news := [x]) (xb := some ⟨r.1, r.2 + off, none⟩) (c := cap) hu hti hz (by rw [hkl]; exact hsz) hby (by omega) (by rw [hkl]; exact hzs) (hd1.mono he2) hb2 hq h63 hbytes rfl (.inr ⟨_, rfl, fun j v hj => by
                  have := h2 j v (by simpa [rowsV] using hj)
                  simpa using this⟩) (fun r hr => by rw [List.mem_singleton] at hr; subst hr; exact a2) (fun r hr => by rw [List.mem_singleton] at hr; subst hr; exact a3) (by simpa [rowsOwned] using a4) (fun k hk => a5 k (by simpa [rowsOwned] using hk))
                exact ⟨ρ', y', w', _, _, (he1.trans he2).trans he, hrun, S', hr', hk⟩
              · exact h.elim
            · exact h.elim
          · exact h.elim
        · exact h.elim
      · exact h.elim
    · exact h.elim
  · exact h.elim
theorem Sim.mem_tmps {ρ ρ' : Loc} {st : St} {a : Act} {w w' : World} (S : Sim ρ w0 X st a w) (he : Ext ρ ρ') {mem : List Blk} (hm : MemOK ρ' w0 X mem w') (hf : Frm w0 X w') : Sim ρ' w0 X { st with mem := mem } a w' :=
  ⟨S.defers, S.tmps.mono he, hm, hf⟩
theorem storeSV_sound {ρ : Loc} {st st' : St} {a : Act} {w : World} (S : Sim ρ w0 X st a w) {t : TypeId} {s x : SV} {ys yx : Value} (hs : Rel ρ s ys) (hx : Rel ρ x yx) (h : storeSV P st t s x = some st') :
    ∃ w', (Instr.storeAt t ys yx).run P w = .ok () w' ∧ Sim ρ w0 X st' a w' := by
  unfold storeSV at h
  split at h
  · rename_i b off
    simp only [Rel] at hs
    obtain ⟨r, hr, rfl⟩ := hs
    split at h
    · rename_i cs hb
      split at h
      · rename_i hc
        obtain ⟨hsz, hp, h1, hle⟩ := hc
        cases h
        have hcell := hx.cells (SV.plain_v hp) (SV.plain_any hp)
        obtain ⟨w', hrun, S'⟩ := Sim.setAll (P := P) x.cells yx.cells.toList S hb hr (j := off) (i := 0) (o := r.2 + off) (by omega) hle hcell h1
        refine ⟨w', ?_, S'⟩
        have hlen := hcell.length
        simp only [Instr.storeAt, Instr.sureAddr, Sem.run_bind, Sem.run_pure, Result.andThen_ok, storeVar, run_size hsz]
        rw [if_neg (by simp only [Array.length_toList] at hlen; omega)]
        simpa using hrun
      · cases h
    · cases h
  · cases h
/-- cells of a whole block of rows are written -/
theorem Sim.writeOwn {ρ : Loc} {st : St} {a : Act} {w : World} (S : Sim ρ w0 X st a w) {b : Nat} {e : TypeId} {ks : List CK} {l l' : List (RowT ks)} (hb : st.mem[b]? = some ⟨true, .own e ks l⟩) {r : Place} (hr : ρ b = some r) {o : Nat} {ys : List Value} (hone : ∀ u ∈ ys, u.oneCell' = true) (hl : l'.length = l.length) (hfit : o + ys.length ≤ l.length * ks.length) (hc : 0 < r.cap)
    (hl' : rowsV ks l' = (rowsV ks l).take o ++ ys ++ (rowsV ks l).drop (o + ys.length)) (hg : RowsGood ρ.base ks l') (hos : RowsOsl w ks l') (hnd : (rowsOwned ks l').Nodup) (hsub : ∀ k ∈ rowsOwned ks l', k ∈ rowsOwned ks l ∨ Free ρ w0 X st.mem w k) :
    ∃ w', (storeCells ⟨r.1, o, none⟩ ys).run P w = .ok () w' ∧ r.2 = 0 ∧ Sim ρ w0 X { st with mem := st.mem.set b ⟨true, .own e ks l'⟩ } a w' := by
  obtain ⟨r', hr2, hok, hxx⟩ := S.mem.blk b _ hb
  rw [hr] at hr2; cases hr2
  obtain ⟨o1, ⟨o2, o3, o4⟩, o5⟩ := hok
  obtain ⟨e1, e2, cur, e3, e4⟩ := o4 hc
  have hcl : l.length * ks.length ≤ cur.size := by rw [e4]; exact Nat.mul_le_mul_right _ o2
  have hrun := run_storeCells_at P r.1 o e ys 0 cur w e3 (by omega) hone
  simp only [Nat.add_zero] at hrun
  generalize hcur' : (cur.toList.take o ++ ys ++ cur.toList.drop (o + ys.length)).toArray = cur' at hrun
  have hw3 := setRow_heap w r.1 cur cur' e (0, 0) e3
  have hoth : ∀ k, k ≠ r.1 → (w.setRow r.1 cur').heap[k]? = w.heap[k]? := fun k hk => setRow_other w r.1 k _ hk
  have hcs : cur'.size = cur.size := by
    rw [← hcur']
    simp only [List.size_toArray, List.length_append, List.length_take, List.length_drop, Array.length_toList]
    omega
  have hcells : ∀ (j : Nat) (v : Value), (rowsV ks l)[j]? = some v → cur.toList[j]? = some v := by
    intro j v hj
    have := (RowsOK.iff.1 o1 j v hj).1
    rw [e1, Nat.zero_add, cell_of_row w r.1 j cur e (0, 0) e3] at this
    simpa using this
  have hne : ∀ k ∈ rowsOwned ks l', k ≠ r.1 := fun k hk => (hsub k hk).elim (fun h => o5.self k h hc) fun h e => h.hold b _ r hb hr hc e.symm
  refine ⟨_, hrun, e1, ⟨S.defers, S.tmps, S.mem.upd hb hr (fun k hk => hoth k (hk hc)) (by simp) (fun h => h) hsub ⟨RowsOK.iff.2 fun j v hj => ?_, ⟨by rw [hl]; exact o2, o3, fun _ => ⟨e1, e2, cur', hw3, by rw [hcs, e4]⟩⟩, ⟨hg, hos.of_block fun k hk => hoth k (hne k hk), hnd, fun k hk _ => hne k hk⟩⟩, S.frame.upd S.mem hb hr hc rfl rfl rfl (by simp) hoth⟩⟩
  rw [e1, Nat.zero_add, cell_of_row _ r.1 j cur' e (0, 0) hw3]
  refine ⟨?_, fun _ => by simp [World.frozen?, hw3]⟩
  rw [hl'] at hj
  rw [← hcur']
  simp only [List.getElem?_toArray]
  have hrl : (rowsV ks l).length = l.length * ks.length := rowsV_length l
  have ht1 : ((rowsV ks l).take o).length = o := by simp; omega
  have ht2 : (cur.toList.take o).length = o := by simp; omega
  rw [List.append_assoc] at hj ⊢
  by_cases hjo : j < o
  · rw [List.getElem?_append_left (by omega), List.getElem?_take_of_lt hjo] at hj
    rw [List.getElem?_append_left (by omega), List.getElem?_take_of_lt hjo]
    exact hcells j v hj
  · rw [List.getElem?_append_right (by omega), ht1] at hj
    rw [List.getElem?_append_right (by omega), ht2]
    by_cases hjy : j - o < ys.length
    · rw [List.getElem?_append_left hjy] at hj ⊢
      exact hj
    · rw [List.getElem?_append_right (by omega), List.getElem?_drop] at hj ⊢
      exact hcells _ v hj
theorem setRange_take : ∀ (ss cs : List SV) (j : Nat), j + ss.length ≤ cs.length → setRange cs j ss = cs.take j ++ ss ++ cs.drop (j + ss.length)
  | [], cs, j, h => by simp [setRange]
  | s :: ss, cs, j, h => by
    simp only [List.length_cons] at h
    simp only [setRange]
    rw [setRange_take ss (cs.set j s) (j + 1) (by simp; omega)]
    have e1 : (cs.set j s).take (j + 1) = cs.take j ++ [s] := by
      apply List.ext_getElem?
      intro i
      simp only [List.getElem?_take, List.getElem?_set, List.getElem?_append, List.length_take]
      have : min j cs.length = j := by omega
      rw [this]
      by_cases h1 : i < j
      · simp [h1, show i < j + 1 by omega, show ¬ j = i by omega]
      · by_cases h2 : i = j
        · subst h2; simp [show i < cs.length by omega]
        · have : ∃ d, i - j = d + 1 := ⟨i - j - 1, by omega⟩
          obtain ⟨d, hd⟩ := this
          simp [h1, show ¬ i < j + 1 by omega, hd]
    have e2 : (cs.set j s).drop (j + 1 + ss.length) = cs.drop (j + (ss.length + 1)) := by
      apply List.ext_getElem?
      intro i
      simp only [List.getElem?_drop, List.getElem?_set]
      rw [if_neg (by omega)]
      congr 1; omega
    rw [e1, e2]
    simp
theorem rowsV_set {ks : List CK} : ∀ (l : List (RowT ks)) (k : Nat) (x : RowT ks), k < l.length → rowsV ks (l.set k x) = (rowsV ks l).take (k * ks.length) ++ rowV ks x ++ (rowsV ks l).drop (k * ks.length + ks.length)
  | [], k, x, h => by simp at h
  | r :: l, 0, x, h => by
    simp only [List.set_cons_zero, rowsV, List.flatMap_cons, Nat.zero_mul, List.take_zero, List.nil_append, Nat.zero_add]
    congr 1
    rw [List.drop_append_of_le_length (by rw [rowV_length]; exact Nat.le_refl _), List.drop_of_length_le (by rw [rowV_length]; exact Nat.le_refl _), List.nil_append]
  | r :: l, k + 1, x, h => by
    have ih := rowsV_set l k x (by simpa using h)
    simp only [rowsV] at ih
    simp only [List.set_cons_succ, rowsV, List.flatMap_cons, ih]
    have e1 : (rowV ks r ++ l.flatMap (rowV ks)).take ((k + 1) * ks.length) = rowV ks r ++ (l.flatMap (rowV ks)).take (k * ks.length) := by
      rw [List.take_append, List.take_of_length_le (by rw [rowV_length, Nat.add_mul]; omega), rowV_length]
      congr 2; rw [Nat.add_mul]; omega
    have e2 : (rowV ks r ++ l.flatMap (rowV ks)).drop ((k + 1) * ks.length + ks.length) = (l.flatMap (rowV ks)).drop (k * ks.length + ks.length) := by
      rw [List.drop_append, List.drop_of_length_le (by rw [rowV_length, Nat.add_mul]; omega), rowV_length, List.nil_append]
      congr 1; rw [Nat.add_mul]; omega
    rw [e1, e2]
    simp
theorem rowSV_rel_eq {ρ : Loc} : ∀ (ks : List CK) (r : RowT ks) (zs : List Value), RelL ρ (rowSV ks r) zs → zs = rowV ks r
  | [], r, zs, h => by simp only [rowSV, RelL] at h; simp [h, rowV]
  | k :: ks, r, zs, h => by
    simp only [rowSV] at h
    obtain ⟨y, zs', rfl, h1, h2⟩ := h.cons_inv
    simp only [rowV]
    rw [rowSV_rel_eq ks r.2 zs' h2]
    have : y = k.toV r.1 := by
      cases k <;> simp only [CK.toSV, CK.toV, Rel] at h1 ⊢ <;> first | exact h1 | exact h1.1
    rw [this]
theorem all_one {ρ : Loc} : ∀ (ss : List SV) (zs : List Value), RelL ρ ss zs → ss.all SV.one = true → ∀ u ∈ zs, u.oneCell' = true := by
  intro ss
  induction ss with
  | nil => intro zs hz _ u hu; simp only [RelL] at hz; subst hz; simp at hu
  | cons s0 ss ih =>
    intro zs hz ho u hu
    obtain ⟨z, zs', rfl, a1, a2⟩ := hz.cons_inv
    simp only [List.all_cons, Bool.and_eq_true] at ho
    rcases List.mem_cons.1 hu with rfl | hu
    · exact a1.one ho.1
    · exact ih _ a2 ho.2 u hu
/-- cells of a row are written, wherever they come from -/
theorem store_core {ρ : Loc} {st : St} {a : Act} {w : World} (S : Sim ρ w0 X st a w) {b : Nat} {e : TypeId} {ks : List CK} {l : List (RowT ks)} (hb : st.mem[b]? = some ⟨true, .own e ks l⟩) {r : Place} (hr : ρ b = some r) {k' j : Nat} (hk : k' < l.length) {r' : RowT ks} {zs : List Value} (hone : ∀ u ∈ zs, u.oneCell' = true) (hle : j + zs.length ≤ ks.length)
    (hv : rowV ks r' = (rowV ks (l.getD k' (RowT.dflt ks))).take j ++ zs ++ (rowV ks (l.getD k' (RowT.dflt ks))).drop (j + zs.length)) (hg : RowsGood ρ.base ks (l.set k' r')) (hos : RowsOsl w ks (l.set k' r')) (hnd : (rowsOwned ks (l.set k' r')).Nodup) (hsub : ∀ k ∈ rowsOwned ks (l.set k' r'), k ∈ rowsOwned ks l ∨ Free ρ w0 X st.mem w k) :
    ∃ w', (storeCells ⟨r.1, k' * ks.length + j, none⟩ zs).run P w = .ok () w' ∧ r.2 = 0 ∧ Sim ρ w0 X { st with mem := st.mem.set b ⟨true, .own e ks (l.set k' r')⟩ } a w' := by
  obtain ⟨r2, hr2, hok, hxx⟩ := S.mem.blk b _ hb
  rw [hr] at hr2; cases hr2
  have hcap : 0 < r.cap := by have := hok.2.1.1; omega
  have hlx : l[k']? = some (l.getD k' (RowT.dflt ks)) := by rw [List.getD_eq_getElem?_getD, List.getElem?_eq_getElem hk, Option.getD_some]
  generalize hrow : l.getD k' (RowT.dflt ks) = row at *
  have hmul : (k' + 1) * ks.length ≤ l.length * ks.length := Nat.mul_le_mul_right _ hk
  rw [Nat.add_mul, Nat.one_mul] at hmul
  have htk : (rowsV ks l).take (k' * ks.length + ks.length) = (rowsV ks l).take (k' * ks.length) ++ rowV ks row := by
    apply List.ext_getElem?
    intro i
    have hll : (rowsV ks l).length = l.length * ks.length := rowsV_length l
    have ht1 : ((rowsV ks l).take (k' * ks.length)).length = k' * ks.length := by simp; omega
    by_cases hi : i < k' * ks.length
    · rw [List.getElem?_append_left (by omega), List.getElem?_take_of_lt hi, List.getElem?_take_of_lt (by omega)]
    · rw [List.getElem?_append_right (by omega), ht1]
      by_cases hi2 : i < k' * ks.length + ks.length
      · rw [List.getElem?_take_of_lt hi2, ← rowsV_at l k' (i - k' * ks.length) row hlx (by omega)]
        congr 1; omega
      · rw [List.getElem?_take, if_neg hi2, List.getElem?_eq_none (by rw [rowV_length]; omega)]
  refine S.writeOwn (P := P) hb hr (l' := l.set k' r') (o := k' * ks.length + j) (ys := zs) hone (by simp) (by omega) hcap ?_ hg hos hnd hsub
  rw [rowsV_set l k' r' hk, hv]
  have hll : (rowsV ks l).length = l.length * ks.length := rowsV_length l
  have hdr : (rowsV ks l).drop (k' * ks.length) = rowV ks row ++ (rowsV ks l).drop (k' * ks.length + ks.length) := by
    have := List.take_append_drop (k' * ks.length + ks.length) (rowsV ks l)
    rw [htk] at this
    have e := congrArg (List.drop (k' * ks.length)) this
    rw [← e, List.append_assoc, List.drop_append_of_le_length (by rw [List.length_take]; omega), List.drop_eq_nil_of_le (by rw [List.length_take]; omega), List.nil_append]
  have e3 : (rowsV ks l).take (k' * ks.length + j) = (rowsV ks l).take (k' * ks.length) ++ (rowV ks row).take j := by
    rw [List.take_add, hdr, List.take_append_of_le_length (by rw [rowV_length]; omega)]
  have e4 : (rowsV ks l).drop (k' * ks.length + j + zs.length) = (rowV ks row).drop (j + zs.length) ++ (rowsV ks l).drop (k' * ks.length + ks.length) := by
    rw [Nat.add_assoc, ← List.drop_drop, hdr, List.drop_append_of_le_length (by rw [rowV_length]; omega)]
  rw [e3, e4]
  simp only [List.append_assoc]
theorem nodup_swap {T A B C D N : List Nat} (h : (T ++ ((A ++ (B ++ C)) ++ D)).Nodup) (hN : N.Nodup) (hd : ∀ q ∈ N, q ∉ T ++ ((A ++ (B ++ C)) ++ D)) : (T ++ ((A ++ (N ++ C)) ++ D)).Nodup := by
  have hsub : (T ++ (A ++ (C ++ D))).Sublist (T ++ ((A ++ (B ++ C)) ++ D)) := by
    refine List.Sublist.append (.refl _) ?_
    rw [List.append_assoc]
    refine List.Sublist.append (.refl _) ?_
    rw [List.append_assoc]
    exact List.sublist_append_right _ _
  have h1 := h.sublist hsub
  have hp : (T ++ ((A ++ (N ++ C)) ++ D)).Perm (N ++ (T ++ (A ++ (C ++ D)))) := by
    rw [List.append_assoc, List.append_assoc, ← List.append_assoc T A, ← List.append_assoc T A]
    exact List.perm_append_comm_assoc _ _ _
  rw [hp.nodup_iff]
  exact List.nodup_append.2 ⟨hN, h1, fun a ha b hb e => hd a ha (hsub.subset (e ▸ hb))⟩
theorem rowPut_sound : ∀ {ks : List CK} {j : Nat} {ss : List SV} {ρ : Loc} {w0 w : World} {X : Lim} {mem : List Blk} (hm : MemOK ρ w0 X mem w) {ys : List Value} (hs : RelL ρ ss ys) (hle : j + ys.length ≤ ks.length) {cont : (RowT ks → RowT ks) → List Blk → Tr α} (h : (rowPut ks j ss mem cont).holds R),
    ∃ ρ' f mem' N, Ext ρ ρ' ∧ MemOK ρ' w0 X mem' w ∧ N.Nodup ∧ (∀ q ∈ N, Free ρ' w0 X mem' w q) ∧ (∀ q, Free ρ w0 X mem w q → Free ρ' w0 X mem' w q ∧ q ∉ N) ∧ (∀ r, rowV ks (f r) = (rowV ks r).take j ++ ys ++ (rowV ks r).drop (j + ys.length) ∧ (RowGood ρ'.base ks r → RowGood ρ'.base ks (f r)) ∧ (rowOsl w ks r → rowOsl w ks (f r)) ∧ ∃ A B C, rowOwned ks r = A ++ (B ++ C) ∧ rowOwned ks (f r) = A ++ (N ++ C)) ∧ (j = 0 → ∀ r, ∃ B C, rowOwned ks r = B ++ C ∧ rowOwned ks (f r) = N ++ C) ∧ (cont f mem').holds R
  | ks, j, [], ρ, w0, w, X, mem, hm, ys, hs, hle, cont, h => by
    simp only [RelL] at hs
    subst hs
    have h : (cont id mem).holds R := by cases ks <;> cases j <;> exact h
    exact ⟨ρ, id, mem, [], .refl _, hm, List.nodup_nil, (fun q hq => nomatch hq), (fun q hq => ⟨hq, fun h => nomatch h⟩), fun r => ⟨by simp, id, id, rowOwned ks r, [], [], by simp, by simp⟩, fun _ r => ⟨[], rowOwned ks r, by simp, by simp⟩, h⟩
  | [], j, _ :: _, ρ, w0, w, X, mem, hm, ys, hs, hle, cont, h => by cases j <;> exact h.elim
  | k :: ks, 0, s :: ss, ρ, w0, w, X, mem, hm, ys, hs, hle, cont, h => by
    obtain ⟨y, ys', rfl, hy, hys⟩ := hs.cons_inv
    simp only [rowPut] at h
    obtain ⟨ρ1, x, mem1, he1, hm1, a1, a2, a3, a4, a5, a6, h1⟩ := settleCell_sound hm hy h
    obtain ⟨ρ2, f, mem2, N, he2, hm2, b1, b2, b3, b4, b5, h2⟩ := rowPut_sound (j := 0) hm1 (hys.mono he1) (by simp only [List.length_cons] at hle; omega) h1
    have hN : ∀ r : RowT (k :: ks), ∃ B C, rowOwned (k :: ks) r = B ++ C ∧ rowOwned (k :: ks) (x, f r.2) = (k.owned x ++ N) ++ C := fun r => by
      obtain ⟨B, C, c1, c2⟩ := b5 rfl r.2
      exact ⟨k.owned r.1 ++ B, C, by simp only [rowOwned]; rw [c1, List.append_assoc], by simp only [rowOwned]; rw [c2, List.append_assoc]⟩
    refine ⟨ρ2, _, mem2, k.owned x ++ N, he1.trans he2, hm2, nodup_join a4 b1 fun q hq hq2 => (b3 q (a5 q hq2)).2 hq, fun q hq => ?_, fun q hq => ?_, fun r => ?_, fun _ r => hN r, h2⟩
    · rcases List.mem_append.1 hq with hq | hq
      · exact (b3 q (a5 q hq)).1
      · exact b2 q hq
    · obtain ⟨c1, c2⟩ := a6 q hq
      obtain ⟨c3, c4⟩ := b3 q c1
      exact ⟨c3, fun hh => (List.mem_append.1 hh).elim c2 c4⟩
    · obtain ⟨d1, d2, d3, _⟩ := b4 r.2
      refine ⟨?_, fun hg => ⟨CK.good.le he2.base k x a2, d2 hg.2⟩, fun ho => ⟨a3, d3 ho.2⟩, ?_⟩
      · simp only [rowV]
        rw [d1, a1]
        simp [Nat.add_comm]
      · obtain ⟨B, C, c1, c2⟩ := hN r
        exact ⟨[], B, C, by simpa using c1, by simpa using c2⟩
  | k :: ks, j + 1, s :: ss, ρ, w0, w, X, mem, hm, ys, hs, hle, cont, h => by
    simp only [rowPut] at h
    obtain ⟨ρ2, f, mem2, N, he2, hm2, b1, b2, b3, b4, b5, h2⟩ := rowPut_sound (j := j) hm hs (by simp only [List.length_cons] at hle; omega) h
    refine ⟨ρ2, _, mem2, N, he2, hm2, b1, b2, b3, fun r => ?_, fun h => by omega, h2⟩
    obtain ⟨d1, d2, d3, A, B, C, d4, d5⟩ := b4 r.2
    refine ⟨?_, fun hg => ⟨hg.1, d2 hg.2⟩, fun ho => ⟨ho.1, d3 ho.2⟩, k.owned r.1 ++ A, B, C, by simp only [rowOwned]; rw [d4, List.append_assoc], by simp only [rowOwned]; rw [d5, List.append_assoc]⟩
    simp only [rowV]
    rw [d1]
    simp [Nat.add_right_comm]
theorem rowSVat_rel {ρ : Loc} (b k : Nat) : ∀ (ks : List CK) (r : RowT ks) (j : Nat), RowGood ρ.base ks r → RelL ρ (rowSVat b k ks r j) (rowV ks r)
  | [], _, _, _ => .nil
  | c :: ks, r, j, h => by
    refine .cons ?_ (rowSVat_rel b k ks r.2 (j + 1) h.2)
    cases c with
    | osl e ks' => simp only [CK.toSVat, CK.toV, Rel]; exact ⟨trivial, h.1.1⟩
    | _ => exact CK.rel _ r.1 h.1
theorem RelL.reTmp {ρ : Loc} {xt : Option Tmp} {t : Option SV} {s : SV} {tmps : List SV} {ys : List Value} (h : RelL ρ tmps ys) (ht : ∀ d t' b sz k n, xt = some d → t = some t' → s = .oslc b sz k n → ∀ y, ys[d]? = some y → Rel ρ t' y) : RelL ρ (Sx.reTmp xt t s tmps) ys := by
  unfold Sx.reTmp
  split
  · rename_i d b k j e ks x b0 sz0 k0 n0
    have h1 := ht d _ b0 sz0 k0 n0 rfl rfl rfl
    cases hy : ys[d]? with
    | none =>
      have hl : ys.length ≤ d := List.getElem?_eq_none_iff.1 hy
      rw [List.set_eq_of_length_le (by rw [h.length]; exact hl)]
      exact h
    | some y =>
      have := h.set (h1 y hy) d
      obtain ⟨hl, rfl⟩ := List.getElem?_eq_some_iff.1 hy
      rwa [List.set_getElem_self] at this
  · exact h
theorem putAtX_sound {e : TypeId} {ks : List CK} {y : Value × Bool × List (RowT ks)} : ∀ (ks2 : List CK) (j : Nat) {cont : (RowT ks2 → RowT ks2) → Tr α}, (putAtX e ks y ks2 j cont).holds R →
    ∃ f, (cont f).holds R ∧ ∀ r x, cellAt e ks ks2 r j = some x → x.1 = y.1 → rowV ks2 (f r) = rowV ks2 r ∧ (∀ B, RowGood B ks2 r → OslIs y.1 y.2.2.length → RowsGood B ks y.2.2 → RowGood B ks2 (f r)) ∧ (∀ w, rowOsl w ks2 (holeAt ks2 r j) → CK.oslOK w (.osl e ks) y → rowOsl w ks2 (f r)) ∧ (rowOwned ks2 (f r)).Perm (CK.owned (.osl e ks) y ++ rowOwned ks2 (holeAt ks2 r j))
  | [], j, cont, h => h.elim
  | k :: ks2, 0, cont, h => by
    simp only [putAtX] at h
    split at h
    · rename_i e' ks'
      split at h
      · rename_i hk
        subst hk
        split at h
        · rename_i he
          subst he
          refine ⟨_, h, fun r x hc hx => ⟨?_, fun B hg h1 h2 => ⟨⟨h1, h2⟩, hg.2⟩, fun w ho h1 => ⟨h1, ho.2⟩, ?_⟩⟩
          · simp only [cellAt] at hc
            obtain ⟨_, hq⟩ := asOsl_spec hc
            obtain rfl := eq_of_heq hq
            simp only [rowV, CK.toV, hx]
          · simp only [rowOwned, holeAt, CK.hole]
            simp only [CK.owned, List.nil_append]
            exact .refl _
        · exact h.elim
      · exact h.elim
    · exact h.elim
  | k :: ks2, j + 1, cont, h => by
    simp only [putAtX] at h
    obtain ⟨f, h1, h2⟩ := putAtX_sound ks2 j h
    refine ⟨_, h1, fun r x hc hx => ?_⟩
    simp only [cellAt] at hc
    obtain ⟨a1, a2, a3, a4⟩ := h2 r.2 x hc hx
    refine ⟨by simp only [rowV]; rw [a1], fun B hg h1 h2 => ⟨hg.1, a2 B hg.2 h1 h2⟩, fun w ho h1 => ⟨ho.1, a3 w ho.2 h1⟩, ?_⟩
    simp only [rowOwned, holeAt]
    refine (a4.append_left (k.owned r.1)).trans ?_
    rw [← List.append_assoc, ← List.append_assoc]
    exact List.perm_append_comm.append_right _
/-- a cell of an owned slice's element is written -/
theorem storeO_sound {ρ : Loc} {st : St} {a : Act} {w : World} (S : Sim ρ w0 X st a w) {t : TypeId} {x : SV} {ys yx : Value} {b k' j : Nat} {e : TypeId} {ks : List CK} {z : Value × Bool × List (RowT ks)} {i jj : Nat} (hs : Rel ρ (.optr b k' j e ks z i jj) ys) (hx : Rel ρ x yx) (hsz : sizeT P t = some x.cells.length) (hp : x.plain = true) (h1 : x.cells.all SV.one = true) (hle : jj + x.cells.length ≤ ks.length) {k : St → Tr α}
    (h : (rowPut ks jj x.cells st.mem fun f mem => match mem[b]? with
        | some ⟨true, .own e2 ks2 l2⟩ => .need (k' < l2.length ∧ cellAt e ks ks2 (l2.getD k' (RowT.dflt ks2)) j = some z ∧ z.2.1 = true ∧ i < z.2.2.length)
          (putAtX e ks (z.1, true, z.2.2.set i (f (z.2.2.getD i (RowT.dflt ks)))) ks2 j fun g => k { st with mem := mem.set b ⟨true, .own e2 ks2 (l2.set k' (g (l2.getD k' (RowT.dflt ks2))))⟩ ++ [⟨true, .dead⟩] })
        | _ => .fail 154 : Tr α).holds R) :
    ∃ ρ' w' st', Ext ρ ρ' ∧ (Instr.storeAt t ys yx).run P w = .ok () w' ∧ Sim ρ' w0 X st' a w' ∧ (k st').holds R := by
  have hcell := hx.cells (SV.plain_v hp) (SV.plain_any hp)
  have hlen := hcell.length
  simp only [Rel] at hs
  obtain ⟨b0, o0, c0, hz, rfl⟩ := hs
  obtain ⟨ρ', f, mem', N, he, hm', n1, n2, n3, hf, _, h⟩ := rowPut_sound S.mem hcell (by rw [← hlen]; exact hle) h
  split at h
  · rename_i e2 ks2 l2 hb2
    obtain ⟨⟨hk, hca, hzt, hi⟩, h⟩ := h
    have h := h ⟨hk, hca, hzt, hi⟩
    obtain ⟨g, h, hg⟩ := putAtX_sound ks2 j h
    obtain ⟨g1, g2, g3, g4⟩ := hg _ _ hca rfl
    obtain ⟨r2, hr2, hok, hxx⟩ := hm'.blk b _ hb2
    obtain ⟨o1, o2, o3⟩ := hok
    have hbl : b < mem'.length := (List.getElem?_eq_some_iff.1 hb2).1
    have hrow := List.mem_of_getElem? (getD_at (d := RowT.dflt ks2) hk)
    obtain ⟨q1, q2, q3, q4, q5⟩ := cellAt_spec hzt ks2 _ j hca (o3.good _ hrow) (o3.osl _ hrow)
    -- the owned slice is taken out
    obtain ⟨ρ1, s1, m1, he1, hm1, hr1, hR1, hf1⟩ := openDst_sound (R := fun q => q = (SV.oslc mem'.length ks.length 0 z.2.2.length, mem'.set b ⟨true, .own e2 ks2 (l2.set k' (holeAt ks2 (l2.getD k' (RowT.dflt ks2)) j))⟩ ++ [⟨true, .own e ks z.2.2⟩])) hm' (s := .osv b k' j e ks z) (y := z.1) (by unfold Rel; exact ⟨rfl, q1⟩) (cont := fun s m => Tr.ok (s, m)) (by
      simp only [openDst, hb2]
      exact ⟨⟨hk, hca, hzt⟩, fun _ => rfl⟩)
    cases (show (s1, m1) = (SV.oslc mem'.length ks.length 0 z.2.2.length, mem'.set b ⟨true, .own e2 ks2 (l2.set k' (holeAt ks2 (l2.getD k' (RowT.dflt ks2)) j))⟩ ++ [⟨true, .own e ks z.2.2⟩]) from hR1)
    have hml : (mem'.set b ⟨true, .own e2 ks2 (l2.set k' (holeAt ks2 (l2.getD k' (RowT.dflt ks2)) j))⟩).length = mem'.length := by simp
    have hnb : (mem'.set b ⟨true, .own e2 ks2 (l2.set k' (holeAt ks2 (l2.getD k' (RowT.dflt ks2)) j))⟩ ++ [⟨true, .own e ks z.2.2⟩])[mem'.length]? = some ⟨true, .own e ks z.2.2⟩ := by
      rw [List.getElem?_append_right (by omega), hml]; simp
    obtain ⟨r, hr, hokn, _⟩ := hm1.blk _ _ hnb
    have S1 : Sim ρ1 w0 X { st with mem := mem'.set b ⟨true, .own e2 ks2 (l2.set k' (holeAt ks2 (l2.getD k' (RowT.dflt ks2)) j))⟩ ++ [⟨true, .own e ks z.2.2⟩] } a w := ⟨S.defers, S.tmps.mono (he.trans he1), hm1, S.frame⟩
    -- it is written
    obtain ⟨d1, d2, _, _⟩ := hf (z.2.2.getD i (RowT.dflt ks))
    have hrg : RowGood ρ1.base ks (f (z.2.2.getD i (RowT.dflt ks))) := RowGood.le he1.base _ _ (d2 (RowsGood.getD q2 i))
    have hown := noOsl_rows (z.2.2.set i (f (z.2.2.getD i (RowT.dflt ks)))) q5
    obtain ⟨w', hrun, e1, S2⟩ := store_core (P := P) S1 hnb hr hi (r' := f (z.2.2.getD i (RowT.dflt ks))) (zs := yx.cells.toList) (all_one _ _ hcell h1) (by rw [← hlen]; exact hle) d1 (rows_set_all (fun r hr => RowGood.le he1.base _ _ (q2 r hr)) i hrg) (hown.2 w) (by rw [hown.1]; exact List.nodup_nil) (fun k hk => by rw [hown.1] at hk; cases hk)
    obtain ⟨v1, v2⟩ := oslc_val hr1 hr
    have hn0 : 0 < z.2.2.length := by omega
    obtain ⟨v3, v4⟩ := v2 hn0
    rw [hz] at v1
    injection v1 with v1 _ _
    rw [v3] at v1
    cases v1
    -- it is laid back
    have hnb2 : (({ st with mem := mem'.set b ⟨true, .own e2 ks2 (l2.set k' (holeAt ks2 (l2.getD k' (RowT.dflt ks2)) j))⟩ ++ [⟨true, .own e ks z.2.2⟩] } : St).mem.set mem'.length ⟨true, .own e ks (z.2.2.set i (f (z.2.2.getD i (RowT.dflt ks))))⟩)[mem'.length]? = some ⟨true, .own e ks (z.2.2.set i (f (z.2.2.getD i (RowT.dflt ks))))⟩ := by
      rw [List.getElem?_set_self (by simp)]
    obtain ⟨ρ2, x2, he2, hm2, _, x3, x4, x5, x6, x7, hR2⟩ := settleOwn_sound (R := fun q => q = ((z.1, true, (z.2.2.set i (f (z.2.2.getD i (RowT.dflt ks)))).take z.2.2.length), (({ st with mem := mem'.set b ⟨true, .own e2 ks2 (l2.set k' (holeAt ks2 (l2.getD k' (RowT.dflt ks2)) j))⟩ ++ [⟨true, .own e ks z.2.2⟩] } : St).mem.set mem'.length ⟨true, .own e ks (z.2.2.set i (f (z.2.2.getD i (RowT.dflt ks))))⟩).set mem'.length ⟨true, .dead⟩)) S2.mem hnb2 hr1 (mk := fun F => F z.1) (fun F hF => hF) (k := .osl e ks) (cont := fun x m => Tr.ok (x, m)) (by
      rw [settleOwn, dif_pos rfl, if_pos ⟨rfl, rfl, q5⟩]
      exact ⟨by simp, fun _ => rfl⟩)
    have hR2 : (x2, _) = _ := hR2
    simp only [Prod.mk.injEq, and_true] at hR2
    have htk : (z.2.2.set i (f (z.2.2.getD i (RowT.dflt ks)))).take z.2.2.length = z.2.2.set i (f (z.2.2.getD i (RowT.dflt ks))) := List.take_of_length_le (by simp)
    rw [htk] at hR2
    subst hR2
    have hmem : ((({ st with mem := mem'.set b ⟨true, .own e2 ks2 (l2.set k' (holeAt ks2 (l2.getD k' (RowT.dflt ks2)) j))⟩ ++ [⟨true, .own e ks z.2.2⟩] } : St).mem.set mem'.length ⟨true, .own e ks (z.2.2.set i (f (z.2.2.getD i (RowT.dflt ks))))⟩).set mem'.length ⟨true, .dead⟩) = mem'.set b ⟨true, .own e2 ks2 (l2.set k' (holeAt ks2 (l2.getD k' (RowT.dflt ks2)) j))⟩ ++ [⟨true, .dead⟩] := by
      show (((mem'.set b _ ++ [_]).set mem'.length _).set mem'.length _) = _
      rw [List.set_set, List.set_append_right _ _ (by simp)]
      simp
    rw [hmem] at hm2 x6 x7
    have hbh : (mem'.set b ⟨true, .own e2 ks2 (l2.set k' (holeAt ks2 (l2.getD k' (RowT.dflt ks2)) j))⟩ ++ [⟨true, .dead⟩])[b]? = some ⟨true, .own e2 ks2 (l2.set k' (holeAt ks2 (l2.getD k' (RowT.dflt ks2)) j))⟩ := by
      rw [List.getElem?_append_left (by simpa using hbl), List.getElem?_set_self hbl]
    have hrb : ρ2 b = some r2 := he2 _ _ (he1 _ _ hr2)
    obtain ⟨r2', hr2', ⟨p1, p2, p3⟩, _⟩ := hm2.blk b _ hbh
    rw [hrb] at hr2'; cases hr2'
    have hk2 : k' < (l2.set k' (holeAt ks2 (l2.getD k' (RowT.dflt ks2)) j)).length := by simpa using hk
    obtain ⟨y1, y2⟩ := rowsOwned_set hk2 (g (l2.getD k' (RowT.dflt ks2)))
    rw [List.set_set] at y2
    have hgd : (l2.set k' (holeAt ks2 (l2.getD k' (RowT.dflt ks2)) j)).getD k' (RowT.dflt ks2) = holeAt ks2 (l2.getD k' (RowT.dflt ks2)) j := by
      rw [List.getD_eq_getElem?_getD, List.getElem?_set_self hk]; rfl
    rw [hgd] at y1
    generalize hL : l2.set k' (holeAt ks2 (l2.getD k' (RowT.dflt ks2)) j) = L at *
    have hLg : l2.set k' (g (l2.getD k' (RowT.dflt ks2))) = L.set k' (g (l2.getD k' (RowT.dflt ks2))) := by rw [← hL, List.set_set]
    have hperm : (rowsOwned ks2 (l2.set k' (g (l2.getD k' (RowT.dflt ks2))))).Perm (CK.owned (.osl e ks) (z.1, true, z.2.2.set i (f (z.2.2.getD i (RowT.dflt ks)))) ++ rowsOwned ks2 L) := by
      rw [y1, y2]
      refine ((g4.append_right _).append_left _).trans ?_
      rw [List.append_assoc]
      exact List.perm_append_comm_assoc _ _ _
    have hin : ∀ q ∈ rowsOwned ks2 (l2.set k' (g (l2.getD k' (RowT.dflt ks2)))), q ∈ CK.owned (.osl e ks) (z.1, true, z.2.2.set i (f (z.2.2.getD i (RowT.dflt ks)))) ∨ q ∈ rowsOwned ks2 L := fun q hq => List.mem_append.1 (hperm.subset hq)
    have hvv : rowsV ks2 (l2.set k' (g (l2.getD k' (RowT.dflt ks2)))) = rowsV ks2 L := by
      rw [← hL, rowsV_set_same hk g1, rowsV_set_same hk (hole_rowV ks2 _ j)]
    have hfin := hm2.upd (w' := w') hbh hrb (fun _ _ => rfl) rfl (body' := .own e2 ks2 (l2.set k' (g (l2.getD k' (RowT.dflt ks2))))) (fun h => h) (fun q hq => (hin q hq).elim (fun h => .inr (x6 q h)) .inl)
      ⟨RowsOK.iff.2 fun q v hq => RowsOK.iff.1 p1 q v (by rw [← hvv]; exact hq), by rw [hLg, List.length_set]; exact p2, ⟨by
        rw [hLg]
        exact rows_set_all p3.good k' (g2 _ (RowGood.le (Base.le_trans he1.base he2.base) _ _ (o3.good _ hrow)) x3.1 x3.2), by
        rw [hLg]
        refine rows_set_all p3.osl k' (g3 _ ?_ x4)
        rw [← hgd]
        exact p3.osl _ (List.mem_of_getElem? (getD_at hk2)), by
        rw [hperm.nodup_iff]
        exact List.nodup_append.2 ⟨x5, p3.nodup, fun q hq q' hq' e => (x6 q hq).own2 b _ hbh (e ▸ hq')⟩, fun q hq hc => (hin q hq).elim (fun h e => (x6 q h).hold b _ r2 hbh hrb hc e.symm) (fun h => p3.self q h hc)⟩⟩
    refine ⟨ρ2, w', ⟨st.tmps, mem'.set b ⟨true, .own e2 ks2 (l2.set k' (g (l2.getD k' (RowT.dflt ks2))))⟩ ++ [⟨true, .dead⟩]⟩, (he.trans he1).trans he2, ?_, ⟨S.defers, S.tmps.mono ((he.trans he1).trans he2), ?_, S2.frame⟩, h⟩
    · simp only [Instr.storeAt, Instr.sureAddr, Sem.run_bind, Sem.run_pure, Result.andThen_ok, storeVar, run_size hsz]
      rw [if_neg (by simp only [Array.length_toList] at hlen; omega), e1, Nat.zero_add]
      exact hrun
    · rw [List.set_append_left _ _ (by simpa using hbl), List.set_set] at hfin
      exact hfin
  · exact h.elim
theorem storeX_sound {ρ : Loc} {st : St} {a : Act} {w : World} (S : Sim ρ w0 X st a w) {t : TypeId} {s x : SV} {ys yx : Value} (hs : Rel ρ s ys) (hx : Rel ρ x yx) {xt : Option Tmp} (hxt : ∀ d, xt = some d → ∀ y, a.tmps.toList[d]? = some y → y = yx) {k : St → Tr α} (h : (storeX P t s x xt st k).holds R) :
    ∃ ρ' w' st', Ext ρ ρ' ∧ (Instr.storeAt t ys yx).run P w = .ok () w' ∧ Sim ρ' w0 X st' a w' ∧ (k st').holds R := by
  unfold storeX at h
  split at h
  · rename_i b sz k' j
    split at h
    · rename_i e ks l hb
      split at h
      · rename_i hc
        obtain ⟨hsz, hp, h1, hle, hks⟩ := hc
        subst hks
        simp only [Rel] at hs
        obtain ⟨r, hr, rfl⟩ := hs
        have hcell := hx.cells (SV.plain_v hp) (SV.plain_any hp)
        have hlen := hcell.length
        have run : ∀ {w' : World}, (storeCells ⟨r.1, k' * ks.length + j, none⟩ yx.cells.toList).run P w = .ok () w' → r.2 = 0 → (Instr.storeAt t (.pointer (some ⟨r.1, r.2 + (k' * ks.length + j), none⟩)) yx).run P w = .ok () w' := by
          intro w' hrun e1
          simp only [Instr.storeAt, Instr.sureAddr, Sem.run_bind, Sem.run_pure, Result.andThen_ok, storeVar, run_size hsz]
          rw [if_neg (by simp only [Array.length_toList] at hlen; omega), e1, Nat.zero_add]
          exact hrun
        split at h
        · rename_i r' hr'
          obtain ⟨hk, h⟩ := h
          have h := h hk
          obtain ⟨r2, hr2, hok, hxx⟩ := S.mem.blk b _ hb
          rw [hr] at hr2; cases hr2
          have hno : noOsl ks = true := by
            unfold flatRow at hr'
            split at hr'
            · assumption
            · cases hr'
          have hto : toRow ks (setRange (rowSV ks (l.getD k' (RowT.dflt ks))) j x.cells) = some r' := by
            unfold flatRow at hr'
            rw [hno] at hr'; exact hr'
          have hrl : (rowSV ks (l.getD k' (RowT.dflt ks))).length = ks.length := rowSV_length ks _
          have hr0 := row_rel (ρ := ρ) ks (l.getD k' (RowT.dflt ks)) (RowsGood.getD hok.2.2.good k')
          have hrel : RelL ρ (setRange (rowSV ks (l.getD k' (RowT.dflt ks))) j x.cells) ((rowV ks (l.getD k' (RowT.dflt ks))).take j ++ yx.cells.toList ++ (rowV ks (l.getD k' (RowT.dflt ks))).drop (j + yx.cells.toList.length)) := by
            rw [setRange_take _ _ _ (by rw [hrl]; exact hle), ← hlen]
            exact ((hr0.take j).append hcell).append (hr0.drop _)
          obtain ⟨hv, hg⟩ := toRow_spec hto hrel
          have hown := noOsl_rows (l.set k' r') hno
          obtain ⟨w', hrun, e1, S'⟩ := store_core (P := P) S hb hr hk (r' := r') (zs := yx.cells.toList) (all_one _ _ hcell h1) (by rw [← hlen]; exact hle) hv.symm (rows_set_all hok.2.2.good k' hg) (hown.2 w) (by rw [hown.1]; exact List.nodup_nil) (fun k hk => by rw [hown.1] at hk; cases hk)
          exact ⟨ρ, w', _, .refl _, run hrun e1, S', h⟩
        · obtain ⟨ρ', f, mem', N, he, hm', n1, n2, n3, hf, _, h⟩ := rowPut_sound S.mem hcell (by rw [← hlen]; exact hle) h
          split at h
          · rename_i e2 ks2 l2 hb2
            split at h
            · rename_i hkk
              subst hkk
              obtain ⟨hk, h⟩ := h
              have h := h hk
              have S1 : Sim ρ' w0 X { st with mem := mem' } a w := ⟨S.defers, S.tmps.mono he, hm', S.frame⟩
              obtain ⟨r2, hr2, hok, hxx⟩ := hm'.blk b _ hb2
              rw [he _ _ hr] at hr2; cases hr2
              have hmem := List.mem_of_getElem? (getD_at (d := RowT.dflt ks2) hk)
              obtain ⟨d1, d2, d3, A, B, C, d4, d5⟩ := hf (l2.getD k' (RowT.dflt ks2))
              obtain ⟨w1, w2⟩ := rowsOwned_set hk (f (l2.getD k' (RowT.dflt ks2)))
              have hN : ∀ q ∈ N, q ∉ rowsOwned ks2 l2 := fun q hq => (n2 q hq).own2 b _ hb2
              have hnd := hok.2.2.nodup
              rw [w1, d4] at hnd
              obtain ⟨w', hrun, e1, S'⟩ := store_core (P := P) S1 hb2 (he _ _ hr) hk (r' := f (l2.getD k' (RowT.dflt ks2))) (zs := yx.cells.toList) (all_one _ _ hcell h1) (by rw [← hlen]; exact hle) d1 (rows_set_all hok.2.2.good k' (d2 (hok.2.2.good _ hmem))) (rows_set_all hok.2.2.osl k' (d3 (hok.2.2.osl _ hmem))) (by
                rw [w2, d5]
                exact nodup_swap hnd n1 fun q hq => by rw [w1, d4] at hN; exact hN q hq) (fun q hq => by
                rw [w2, d5] at hq
                rw [w1, d4]
                simp only [List.mem_append] at hq ⊢
                rcases hq with hq | (hq | hq | hq) | hq
                · exact .inl (.inl hq)
                · exact .inl (.inr (.inl (.inl hq)))
                · exact .inr (n2 q hq)
                · exact .inl (.inr (.inl (.inr (.inr hq))))
                · exact .inl (.inr (.inr hq)))
              refine ⟨ρ', w', { tmps := reTmp xt _ _ st.tmps, mem := _ }, he, run hrun e1, ⟨S'.defers, ?_, S'.mem, S'.frame⟩, h⟩
              refine RelL.reTmp S'.tmps fun d t b0 sz0 k0 n0 hd ht hcs => ?_
              have hrr := rowSVat_rel (ρ := ρ') b k' ks2 _ 0 (d2 (hok.2.2.good _ hmem))
              obtain ⟨y0, hy0, hrel⟩ := hrr.get ht
              have hzs : yx.cells.toList = [yx] := by
                have hx' := hx
                subst hcs
                simp only [Rel] at hx'
                obtain ⟨_, _, rfl, _⟩ := hx'
                simp [Value.cells]
              rw [d1, hzs] at hy0
              have hj : j < ks2.length := by
                have : x.cells.length = 1 := by rw [hcs]; rfl
                omega
              have hlt : ((rowV ks2 (l2.getD k' (RowT.dflt ks2))).take j).length = j := by rw [List.length_take, rowV_length]; omega
              rw [List.append_assoc, List.getElem?_append_right (by omega), hlt, Nat.sub_self] at hy0
              simp only [List.cons_append, List.nil_append, List.getElem?_cons_zero, Option.some.injEq] at hy0
              subst hy0
              exact fun y hy => by rw [hxt d hd y hy]; exact hrel
            · exact h.elim
          · exact h.elim
      · exact h.elim
    · exact h.elim
  · rename_i b k' j e ks z i jj
    split at h
    · rename_i hc
      obtain ⟨hsz, hp, h1, hle⟩ := hc
      obtain ⟨ρ', w', st', he, hrun, S', hk⟩ := storeO_sound S hs hx hsz hp h1 hle h
      exact ⟨ρ', w', st', he, hrun, S', hk⟩
    · exact h.elim
  · split at h
    · rename_i st' hst
      obtain ⟨w', hrun, S'⟩ := storeSV_sound S hs hx hst
      exact ⟨ρ, w', st', .refl _, hrun, S', h⟩
    · exact h.elim
theorem replZ_rel {ρ : Loc} (z : Value) (n : Nat) : RelL ρ (replZ z n) ((Array.range n).map (z.cells[· % z.cells.size]!)).toList := by
  have : ((Array.range n).map (z.cells[· % z.cells.size]!)).toList = (List.range n).map fun i => z.cells[i % z.cells.size]! := by simp
  rw [this]
  exact RelL.mapAll fun i => by simp [Rel]
theorem buildSliceX_sound {ρ : Loc} {st : St} {a : Act} {w : World} (S : Sim ρ w0 X st a w) {t : TypeId} {len : Nat} {parts : List (Nat × SV)} {vs : Array (Nat × Value)} (hi : parts.map (·.1) = vs.toList.map (·.1)) (hr : RelL ρ (parts.map (·.2)) (vs.toList.map (·.2))) {k : SV → List Blk → Tr α} (h : (buildSliceX P t len parts st.mem k).holds R) :
    ∃ ρ' y' w' s' mem', Ext ρ ρ' ∧ (Instr.buildSlice t len vs).run P w = .ok y' w' ∧ Sim ρ' w0 X { st with mem := mem' } a w' ∧ Rel ρ' s' y' ∧ (k s' mem').holds R := by
  unfold buildSliceX at h
  split at h
  · rename_i e hu
    split at h
    · rename_i size z hsz hz
      split at h
      · rename_i hc
        split at h
        · rename_i cells hf
          obtain ⟨ys, h1, h2⟩ := fill_sound _ parts vs.toList _ _ cells hi hr (replZ_rel z (len * size)) hf
          obtain ⟨he, S', hr'⟩ := S.alloc h2 e
          refine ⟨_, .slice (some ⟨w.heap.size, 0, none⟩) len len, _, _, _, he, ?_, S', ?_, h⟩
          · simp only [Instr.buildSlice, Sem.run_bind, run_underlying hu, Result.andThen_ok, run_size hsz]
            rw [if_neg (by omega), if_neg (by omega)]
            simp only [Sem.run_bind, Sem.run_pure, run_of_val? _ hz, Result.andThen_ok, h1, Array.toArray_toList]
            simp [newRow]
          · simp only [Rel]
            exact ⟨_, ext_at _ _ _, rfl⟩
        · exact h.elim
      · split at h
        · rename_i h0
          split at h
          · have hv : vs.toList = [] := by simpa using hi.symm
            obtain ⟨he, S', hr'⟩ := S.alloc (ys := []) .nil e
            refine ⟨_, .slice (some ⟨w.heap.size, 0, none⟩) len len, _, _, _, he, ?_, S', ?_, h⟩
            · simp only [Instr.buildSlice, Sem.run_bind, run_underlying hu, Result.andThen_ok, run_size hsz]
              rw [if_neg (by omega), if_pos h0]
              simp [hv, h0, newRow, Instr.fill]
              rw [show (Array.map (fun x => (default : Value)) (Array.range 0)) = #[] from Array.eq_empty_of_size_eq_zero (by simp)]
            · simp only [Rel]
              exact ⟨_, ext_at _ _ _, rfl⟩
          · exact h.elim
        · exact h.elim
    · exact h.elim
  · exact h.elim
theorem buildOwnX_sound {ρ : Loc} {st : St} {a : Act} {w : World} (S : Sim ρ w0 X st a w) {ow : Bool} {t : TypeId} {len : Nat} {parts : List (Nat × SV)} {vs : Array (Nat × Value)} (hi : parts.map (·.1) = vs.toList.map (·.1)) (hr : RelL ρ (parts.map (·.2)) (vs.toList.map (·.2))) {k : SV → List Blk → Tr α} (h : (buildOwnX P ow t len parts st.mem k).holds R) :
    ∃ ρ' y' w' s' mem', Ext ρ ρ' ∧ (Instr.buildSlice t len vs).run P w = .ok y' w' ∧ Sim ρ' w0 X { st with mem := mem' } a w' ∧ Rel ρ' s' y' ∧ (k s' mem').holds R := by
  unfold buildOwnX at h
  split at h
  · exact buildSliceX_sound S hi hr h
  · split at h
    · rename_i i hei
      obtain ⟨hu, ti, z0, hti, hz0, hsz0, hby, hpos, hzs, hzr⟩ := elemOf_spec hei
      split at h
      · rename_i z hz
        split at h
        · rename_i hc
          obtain ⟨hc1, hc2, hno⟩ := hc
          split at h
          · rename_i cells hf
            split at h
            · rename_i l hl
              obtain ⟨ys, h1, h2⟩ := fill_sound _ parts vs.toList _ _ cells hi hr (replZ_rel z (len * i.ks.length)) hf
              obtain ⟨hll, hrow⟩ := toRows_spec hl
              obtain ⟨e1, hg⟩ := hrow h2
              have hown := noOsl_rows l hno
              have hsz : sizeT P i.e = some i.ks.length := by simp [sizeT, hti, hsz0]
              have hlen : len ≤ 2 ^ 24 := Nat.le_trans (Nat.le_mul_of_pos_right len hpos) hc1
              obtain ⟨ρ', he, S', hr'⟩ := S.pushOwn i.e (ks := i.ks) (l := l) (cap := len) (cur := ys) (by omega) (by simp only [maxLen]; omega) (by rw [← Array.length_toList, e1, rowsV_length, hll]) (fun j v hj => by rw [← Array.getElem?_toList, e1]; exact hj) hg (hown.2 w) (by rw [hown.1]; exact List.nodup_nil) (fun k hk => by rw [hown.1] at hk; cases hk)
              refine ⟨ρ', .slice (some ⟨w.heap.size, 0, none⟩) len len, _, _, _, he, ?_, S', ?_, h⟩
              · simp only [Instr.buildSlice, Sem.run_bind, run_underlying hu, Result.andThen_ok, run_size hsz]
                rw [if_neg (by omega), if_neg (by omega)]
                simp only [Sem.run_bind, Sem.run_pure, run_of_val? _ hz, Result.andThen_ok, h1]
                simp [newRow]
              · rw [hll] at hr'; exact hr'
            · exact h.elim
          · exact h.elim
        · exact h.elim
      · exact h.elim
    · exact h.elim
theorem buildStayX_sound {ρ : Loc} {st : St} {a : Act} {w : World} (S : Sim ρ w0 X st a w) {ow : Nat} {t : TypeId} {len : Nat} {parts : List (Nat × SV)} {vs : Array (Nat × Value)} (hi : parts.map (·.1) = vs.toList.map (·.1)) (hr : RelL ρ (parts.map (·.2)) (vs.toList.map (·.2))) {k : SV → List Blk → Tr α} (h : (buildStayX P ow t len parts st.mem k).holds R) :
    ∃ ρ' y' w' s' mem', Ext ρ ρ' ∧ (Instr.buildSlice t len vs).run P w = .ok y' w' ∧ Sim ρ' w0 X { st with mem := mem' } a w' ∧ Rel ρ' s' y' ∧ (k s' mem').holds R := by
  unfold buildStayX at h
  split at h
  · exact buildOwnX_sound S hi hr h
  · exact buildOwnX_sound S hi hr h
  · split at h
    · rename_i c _
      obtain ⟨ρ1, y1, w1, s1, mem1, he1, hrun, S1, hr1, h1⟩ := buildOwnX_sound S hi hr h
      obtain ⟨ρ2, x, mem2, he2, hm2, e1, g1, _, _, _, _, h2⟩ := settleCell_sound S1.mem hr1 h1
      exact ⟨ρ2, y1, w1, _, mem2, he1.trans he2, hrun, ⟨S1.defers, S1.tmps.mono he2, hm2, S1.frame⟩, by rw [e1]; exact CK.rel c x g1, h2⟩
    · exact h.elim
theorem rowsV_replicate {ks : List CK} {row : RowT ks} {z : Array Value} (hz : z.toList = rowV ks row) (hs : z.size = ks.length) (hpos : 0 < ks.length) (n : Nat) : rowsV ks (List.replicate n row) = (List.range (n * ks.length)).map fun i => z[i % z.size]! := by
  apply List.ext_getElem?
  intro i
  by_cases hi : i < n * ks.length
  · have hk : i / ks.length < n := Nat.div_lt_of_lt_mul (by rw [Nat.mul_comm]; exact hi)
    have hm : i % ks.length < ks.length := Nat.mod_lt _ hpos
    have e : i / ks.length * ks.length + i % ks.length = i := by rw [Nat.mul_comm]; exact Nat.div_add_mod i ks.length
    have hx : (List.replicate n row)[i / ks.length]? = some row := by simp [hk]
    have := rowsV_at (List.replicate n row) _ _ _ hx hm
    rw [e] at this
    rw [this, ← hz]
    simp only [List.getElem?_map, List.getElem?_range hi, Option.map_some]
    rw [hs]
    have hm' : i % ks.length < z.size := by rw [hs]; exact hm
    simp [hm']
  · rw [List.getElem?_eq_none (by rw [rowsV_length]; simp; omega), List.getElem?_eq_none (by simp; omega)]
theorem makeSliceX_sound {ρ : Loc} {st : St} {a : Act} {w : World} (S : Sim ρ w0 X st a w) {t : TypeId} {sl sc : SV} {yl yc : Value} (hl : Rel ρ sl yl) (hc : Rel ρ sc yc) {k : SV → List Blk → Tr α} (h : (makeSliceX P t sl sc st.mem k).holds R) :
    ∃ ρ' y' w' s' mem', Ext ρ ρ' ∧ (Instr.makeSlice t yl yc).run P w = .ok y' w' ∧ Sim ρ' w0 X { st with mem := mem' } a w' ∧ Rel ρ' s' y' ∧ (k s' mem').holds R := by
  unfold makeSliceX at h
  split at h
  · rename_i kl l kc c
    simp only [Rel] at hl hc
    subst hl; subst hc
    split at h
    · rename_i i hi
      obtain ⟨hu, ti, z, hti, hz, hsz, hby, hpos, hzs, hzr⟩ := elemOf_spec hi
      obtain ⟨⟨rfl, h0, h1, h2⟩, hk⟩ := h
      have hk := hk ⟨rfl, h0, h1, h2⟩
      obtain ⟨n, rfl⟩ := Int.eq_ofNat_of_zero_le h0
      obtain ⟨ρ', he, S', hr'⟩ := S.pushOwn i.e (ks := i.ks) (l := List.replicate n i.row) (cap := n) (cur := madeCells z.cells (n * ti.size)) (by simp) (by simp only [maxLen]; omega) (by simp [hsz, madeCells]) (fun j v hj => by
        rw [rowsV_replicate hzr hzs hpos, ← hsz] at hj
        rw [← Array.getElem?_toList]
        simpa [madeCells] using hj) (fun r hr => by rw [(List.mem_replicate.1 hr).2]; exact (elemOf_row hi).1 _) (fun r hr => by rw [(List.mem_replicate.1 hr).2]; exact (elemOf_row hi).2.2 _) (by rw [rowsOwned_repl (elemOf_row hi).2.1]; exact List.nodup_nil) (fun k hk => by rw [rowsOwned_repl (elemOf_row hi).2.1] at hk; cases hk)
      have hrun := run_make (P := P) w t i.e ti z hu hti hz kl kc (n : Int) (n : Int) h0 (Int.le_refl _) (by rw [hby, Int.mul_comm]; omega) (by omega)
      simp only [Int.toNat_natCast] at hrun hk
      refine ⟨ρ', _, _, _, _, he, hrun, S', ?_, hk⟩
      simpa using hr'
    · exact h.elim
  · exact h.elim
theorem rowsV_take {ks : List CK} {l : List (RowT ks)} (n : Nat) : (rowsV ks l).take (n * ks.length) = rowsV ks (l.take n) := by
  by_cases hn : n ≤ l.length
  · have e : rowsV ks l = rowsV ks (l.take n) ++ rowsV ks (l.drop n) := by rw [← rowsV_append, List.take_append_drop]
    have hl : (rowsV ks (l.take n)).length = n * ks.length := by rw [rowsV_length]; simp [hn]
    rw [e, ← hl, List.take_left]
  · rw [List.take_of_length_le (by rw [rowsV_length]; exact Nat.mul_le_mul_right _ (by omega)), List.take_of_length_le (by omega)]
theorem rowsV_drop {ks : List CK} {l : List (RowT ks)} (n : Nat) : (rowsV ks l).drop (n * ks.length) = rowsV ks (l.drop n) := by
  by_cases hn : n ≤ l.length
  · have e : rowsV ks l = rowsV ks (l.take n) ++ rowsV ks (l.drop n) := by rw [← rowsV_append, List.take_append_drop]
    have hl : (rowsV ks (l.take n)).length = n * ks.length := by rw [rowsV_length]; simp [hn]
    rw [e, ← hl, List.drop_left]
  · rw [List.drop_of_length_le (by rw [rowsV_length]; exact Nat.mul_le_mul_right _ (by omega)), List.drop_of_length_le (by omega)]; rfl
/-- rows laid over those of a whole block -/
theorem Sim.over {ρ : Loc} {st : St} {a : Act} {w : World} (S : Sim ρ w0 X st a w) {b : Nat} {e : TypeId} {ks : List CK} {l : List (RowT ks)} (hb : st.mem[b]? = some ⟨true, .own e ks l⟩) {r : Place} (hr : ρ b = some r) (k0 : Nat) (news : List (RowT ks)) (hfit : k0 + news.length ≤ l.length) (hc : 0 < r.cap) (hno : noOsl ks = true) (hg : RowsGood ρ.base ks news) :
    ∃ w', (storeCells ⟨r.1, r.2 + k0 * ks.length, none⟩ (rowsV ks news)).run P w = .ok () w' ∧ Sim ρ w0 X { st with mem := st.mem.set b ⟨true, .own e ks (overRows l k0 news)⟩ } a w' := by
  have hmul : (k0 + news.length) * ks.length ≤ l.length * ks.length := Nat.mul_le_mul_right _ hfit
  rw [Nat.add_mul] at hmul
  obtain ⟨r2, hr2, hok, _⟩ := S.mem.blk b _ hb
  have hold := hok.2.2.good
  have hown := noOsl_rows (overRows l k0 news) hno
  obtain ⟨w', h1, h2, h3⟩ := S.writeOwn (P := P) hb hr (l' := overRows l k0 news) (o := k0 * ks.length) (ys := rowsV ks news) (rowsV_one hg) (by simp [overRows]; omega) (by rw [rowsV_length]; exact hmul) hc (by
    rw [overRows, rowsV_append, rowsV_append, ← rowsV_take, ← rowsV_drop, rowsV_length, Nat.add_mul]) (RowsGood.append (RowsGood.append (RowsGood.take hold _) hg) (RowsGood.drop hold _)) (hown.2 w) (by rw [hown.1]; exact List.nodup_nil) (fun k hk => by rw [hown.1] at hk; cases hk)
  rw [h2, Nat.zero_add]
  exact ⟨w', h1, h3⟩
theorem over_nil {α : Type} (l : List α) (k : Nat) : overRows l k [] = l := by simp [overRows]
theorem set_same {mem : List Blk} {b : Nat} {x : Blk} (h : mem[b]? = some x) : mem.set b x = mem := by
  apply List.ext_getElem?
  intro k
  by_cases hk : b = k
  · subst hk; rw [List.getElem?_set_self (List.getElem?_eq_some_iff.1 h).1, h]
  · rw [List.getElem?_set_ne hk]
def byteRow (b : UInt8) : RowT byteK := ((b.toNat : Int), ())
theorem strRows_eq (s : ByteArray) : strRows s = s.data.toList.map byteRow := rfl
theorem strRows_length (s : ByteArray) : (strRows s).length = s.size := by rw [strRows_eq, List.length_map]; simp
theorem bytesV (bs : List UInt8) : rowsV byteK (bs.map byteRow) = bs.map fun b => Value.int .u8 b.toNat := by
  induction bs with
  | nil => rfl
  | cons b bs ih =>
    have : rowsV byteK ((b :: bs).map byteRow) = rowV byteK (byteRow b) ++ rowsV byteK (bs.map byteRow) := rfl
    rw [this, ih]; rfl
theorem copySrc_spec {mem : List Blk} {ks : List CK} {t : TypeId} {s : SV} {p : Prop} {m : Nat} {l : List (RowT ks)} (h : copySrc P mem ks t s = some (p, m, l)) (hp : p) {ρ : Loc} {w : World} {y : Value} (hm : MemB ρ mem w) (hs : Rel ρ s y) :
    l.length = m ∧ (Builtin.lenOf y).run P w = .ok m w ∧ ∀ n, n ≤ m → (Builtin.firstCells ks.length n y).run P w = .ok (rowsV ks (l.take n)).toArray w := by
  have rows : readRows mem ks s = some (p, m, l) → l.length = m ∧ (Builtin.lenOf y).run P w = .ok m w ∧ ∀ n, n ≤ m → (Builtin.firstCells ks.length n y).run P w = .ok (rowsV ks (l.take n)).toArray w := by
    intro h
    obtain ⟨h1, base, c, rfl, h2⟩ := readRows_spec h hp hm hs (fun _ => rfl)
    refine ⟨h1, rfl, fun n hn => ?_⟩
    rcases h2 with rfl | ⟨a, rfl, h2⟩
    · have : n = 0 := by omega
      subst this
      cases base with
      | none => simp [Builtin.firstCells, rowsV]
      | some a => simp [Builtin.firstCells, rowsV, loadCells, loadCellsFrom]
    · refine run_firstCells_some w ks.length n a m c (rowsV ks (l.take n)) (by rw [rowsV_length, List.length_take, Nat.min_eq_left (by omega)]) fun j v hj => h2 j v ?_
      rw [← rowsV_take] at hj
      rw [List.getElem?_take] at hj
      split at hj
      · exact hj
      · cases hj
  unfold copySrc at h
  split at h
  · rename_i s
    split at h
    · split at h
      · rename_i he
        subst he
        cases h
        simp only [Rel] at hs
        subst hs
        refine ⟨strRows_length s, rfl, fun n hn => ?_⟩
        have hb : byteK.length = 1 := rfl
        rw [hb]
        simp only [Builtin.firstCells, Sem.run_pure]
        congr 1
        apply Array.ext'
        have e1 : (s.extract 0 n).data = s.data.extract 0 n := by
          rw [ByteArray.data_extract]
        have e2 : rowsV byteK ((strRows s).take n) = (s.data.toList.take n).map fun b => Value.int .u8 b.toNat := by rw [strRows_eq, ← List.map_take]; exact bytesV _
        show _ = rowsV byteK ((strRows s).take n)
        rw [e2, e1]
        simp [List.extract_eq_take_drop]
      · cases h
    · cases h
  · exact rows h
theorem byteRows_good (B : Base) (bs : List UInt8) : RowsGood B byteK (bs.map byteRow) := fun r hr => by
  obtain ⟨b, _, rfl⟩ := List.mem_map.1 hr
  exact ⟨trivial, trivial⟩
theorem copySrc_good {mem : List Blk} {ks : List CK} {t : TypeId} {s : SV} {p : Prop} {m : Nat} {l : List (RowT ks)} (h : copySrc P mem ks t s = some (p, m, l)) (hp : p) {ρ : Loc} {w : World} {y : Value} (hm : MemB ρ mem w) (hs : Rel ρ s y) : RowsGood ρ.base ks l := by
  unfold copySrc at h
  split at h
  · split at h
    · split at h
      · rename_i hk
        subst hk
        cases h
        exact byteRows_good _ _
      · cases h
    · cases h
  · exact (readRows_more h hp hm hs).1
theorem copyX_sound {ρ : Loc} {st : St} {a : Act} {w : World} (S : Sim ρ w0 X st a w) {ts : Array TypeId} {ty : TypeId} {dst x : SV} {yd yx : Value} (hd : Rel ρ dst yd) (hx : Rel ρ x yx) {k : SV → List Blk → Tr α} (h : (copyX P ts.toList dst x st.mem k).holds R) :
    ∃ y' w' s' mem', (Builtin.copy_ ts ty #[yd, yx]).run P w = .ok y' w' ∧ Sim ρ w0 X { st with mem := mem' } a w' ∧ Rel ρ s' y' ∧ (k s' mem').holds R := by
  unfold copyX at h
  split at h
  · rename_i t t' hts
    have hts : ts = #[t, t'] := by apply Array.ext'; simpa using hts
    subst hts
    split at h
    · rename_i i hi
      obtain ⟨hu, ti, z, hti, hz, hsz, hby, hpos, hzs, hzr⟩ := elemOf_spec hi
      split at h
      · rename_i b sz k0 n
        split at h
        · rename_i e ks l p m news hb hc
          split at h
          · rename_i hks
            subst hks
            split at h
            · rename_i hsz2
              obtain ⟨hsz2, hno⟩ := hsz2
              subst hsz2
              obtain ⟨⟨hp, hfit⟩, hk⟩ := h
              have hk := hk ⟨hp, hfit⟩
              obtain ⟨hnl, hlen, hfirst⟩ := copySrc_spec hc hp S.mem.memB hx
              simp only [Rel] at hd
              obtain ⟨r, hr, rfl, hposn⟩ := hd
              have hmin : Nat.min m n ≤ m := Nat.min_le_left _ _
              have hmin2 : Nat.min m n ≤ n := Nat.min_le_right _ _
              have hf := hfirst (Nat.min m n) hmin
              have htl : (news.take (Nat.min m n)).length = Nat.min m n := by rw [List.length_take, Nat.min_eq_left (by omega)]
              have hrun0 : ∀ (base : Option Addr) (c : Nat) (w' : World), (match base with | some a => storeCells a (rowsV i.ks (news.take (Nat.min m n))) | none => pure ()).run P w = .ok () w' →
                  (Builtin.copy_ #[t, t'] ty #[.slice base n c, yx]).run P w = .ok (.int .i64 (Nat.min m n : Nat)) w' := by
                intro base c w' hst
                cases base with
                | none =>
                  simp only at hst
                  simp [Builtin.copy_, run_underlying hu, hlen, sizeOf, typeInfo, hti, hsz, hf, goInt]
                  simpa using hst
                | some aa =>
                  simp only at hst
                  simp [Builtin.copy_, run_underlying hu, hlen, sizeOf, typeInfo, hti, hsz, hf, goInt, hst]
              rcases Nat.eq_zero_or_pos (Nat.min m n) with h0 | h0
              · have hn0 : news.take (Nat.min m n) = [] := by rw [h0]; rfl
                refine ⟨_, w, _, _, hrun0 _ _ w ?_, ?_, by simp only [Rel], hk⟩
                · rw [hn0]
                  split <;> rfl
                · show Sim ρ w0 X { st with mem := st.mem.set b ⟨true, .own e i.ks (overRows l k0 (news.take (Nat.min m n)))⟩ } a w
                  rw [hn0, over_nil, set_same hb]; exact S
              · obtain ⟨hp1, hp2⟩ := hposn (by omega)
                obtain ⟨w', h1, S'⟩ := S.over (P := P) hb hr k0 (news.take (Nat.min m n)) (by rw [htl]; omega) (by omega) hno ((copySrc_good hc hp S.mem.memB hx).take _)
                refine ⟨_, w', _, _, hrun0 _ _ w' ?_, S', by simp only [Rel], hk⟩
                rw [if_neg (by omega), hp1]
                simp only [Option.map_some, addr_add]
                exact h1
            · exact h.elim
          · exact h.elim
        · exact h.elim
      · exact h.elim
    · exact h.elim
  · exact h.elim
theorem clearX_sound {ρ : Loc} {st : St} {a : Act} {w : World} (S : Sim ρ w0 X st a w) {ts : Array TypeId} {ty : TypeId} {x : SV} {yx : Value} (hx : Rel ρ x yx) {k : SV → List Blk → Tr α} (h : (clearX P ts.toList x st.mem k).holds R) :
    ∃ y' w' s' mem', (Builtin.clear_ ts ty #[yx]).run P w = .ok y' w' ∧ Sim ρ w0 X { st with mem := mem' } a w' ∧ Rel ρ s' y' ∧ (k s' mem').holds R := by
  unfold clearX at h
  split at h
  · rename_i t hts
    have hts : ts = #[t] := by apply Array.ext'; simpa using hts
    subst hts
    split at h
    · rename_i i hi
      obtain ⟨hu, ti, z, hti, hz, hsz, hby, hpos, hzs, hzr⟩ := elemOf_spec hi
      split at h
      · rename_i b sz k0 n
        split at h
        · rename_i e ks l hb
          split at h
          · rename_i hks
            subst hks
            split at h
            · rename_i hsz2
              obtain ⟨hsz2, hno⟩ := hsz2
              subst hsz2
              obtain ⟨hfit, hk⟩ := h
              have hk := hk hfit
              simp only [Rel] at hx
              obtain ⟨r, hr, rfl, hposn⟩ := hx
              rcases Nat.eq_zero_or_pos n with h0 | h0
              · subst h0
                refine ⟨.tuple #[], w, _, _, ?_, ?_, by simp only [Rel], hk⟩
                · cases hb : (if r.cap = k0 then r.ptr else r.ptr.map (·.add (k0 * i.ks.length))) <;> simp [Builtin.clear_, run_underlying hu]
                · show Sim ρ w0 X { st with mem := st.mem.set b ⟨true, .own e i.ks (overRows l k0 (List.replicate 0 i.row))⟩ } a w
                  rw [List.replicate_zero, over_nil, set_same hb]; exact S
              · obtain ⟨hp1, hp2⟩ := hposn h0
                obtain ⟨w', h1, S'⟩ := S.over (P := P) hb hr k0 (List.replicate n i.row) (by simpa using hfit) (by omega) hno (fun r hr => by rw [(List.mem_replicate.1 hr).2]; exact (elemOf_row hi).1 _)
                refine ⟨.tuple #[], w', _, _, ?_, S', by simp only [Rel], hk⟩
                rw [if_neg (by omega), hp1]
                have hz0 : (Builtin.zeroCells z.cells n).toList = rowsV i.ks (List.replicate n i.row) := by
                  rw [rowsV_replicate hzr hzs hpos]
                  simp [Builtin.zeroCells, hzs]
                obtain ⟨n', rfl⟩ : ∃ n', n = n' + 1 := ⟨n - 1, by omega⟩
                simp only [Option.map_some, addr_add]
                simp [Builtin.clear_, run_underlying hu, zeroValue, typeInfo, hti, hz, hz0, h1]
            · exact h.elim
          · exact h.elim
        · exact h.elim
      · rename_i p n c
        split at h
        · rename_i h0
          subst h0
          simp only [Rel] at hx
          subst hx
          refine ⟨.tuple #[], w, _, _, ?_, S, by simp only [Rel], h⟩
          cases p <;> simp [Builtin.clear_, run_underlying hu]
        · exact h.elim
      · exact h.elim
    · exact h.elim
  · exact h.elim
theorem bytesX_sound {bb : Bool} {ρ : Loc} {w : World} {mem : List Blk} (hm : MemQ bb ρ mem w) {src dst : TypeId} {s : SV} {y : Value} (hs : Rel ρ s y) (hbb : s.stab = true → bb = true) {k : SV → Tr α} (h : (bytesX P src dst mem s k).holds R) :
    ∃ s' y', (∀ w', MemQ bb ρ mem w' → (convert src dst y).run P w' = .ok y' w') ∧ Rel ρ s' y' ∧ (k s').holds R := by
  unfold bytesX at h
  split at h
  · rename_i e h1 h2
    split at h
    · rename_i h3
      split at h
      · rename_i p m l hr
        obtain ⟨hp, hk⟩ := h
        refine ⟨_, .string (rowsStr l), fun w' hm' => ?_, by simp [Rel], hk hp⟩
        obtain ⟨hl, base, c, rfl, hc⟩ := readRows_spec hr hp hm' hs hbb
        rw [run_convert_bytes_string (P := P) w' src dst e base m c h1 h3 h2]
        have hfold : ∀ (l : List (RowT byteK)) (acc : ByteArray), (l.map fun x => x.1).foldl (fun r (n : Int) => r.push (UInt8.ofNat n.toNat)) acc = l.foldl (fun r x => r.push (UInt8.ofNat (Int.toNat x.1))) acc := by
          intro l
          induction l with
          | nil => intro acc; rfl
          | cons x l ih => intro acc; simp only [List.map_cons, List.foldl_cons]; exact ih _
        have hrows : ∀ l : List (RowT byteK), rowsV byteK l = (l.map fun x => x.1).map (Value.int .u8) := by
          intro l
          induction l with
          | nil => rfl
          | cons x l ih =>
            have : rowsV byteK (x :: l) = rowV byteK x ++ rowsV byteK l := rfl
            rw [this, ih]; rfl
        rcases hc with rfl | ⟨a, rfl, hc⟩
        · have hl0 : l = [] := List.eq_nil_of_length_eq_zero hl
          subst hl0
          cases base with
          | none => simp [Conv.bytesToString, rowsStr]
          | some a =>
            have := run_bytesToString (P := P) w' a 0 c [] (by simp [loadCells, loadCellsFrom])
            simpa [rowsStr] using this
        · have hload := run_loadCells_list (P := P) w' a (rowsV byteK l) hc
          have hll : (rowsV byteK l).length = m := by rw [rowsV_length, hl]; simp [byteK]
          rw [hll, hrows] at hload
          rw [run_bytesToString (P := P) w' a m c _ hload]
          rw [hfold]; rfl
      · exact h.elim
    · exact h.elim
  · exact h.elim
theorem rowLoad_sound {ρ : Loc} {w : World} {r : Place} {sz k' j : Nat} {cs : List SV} {t : TypeId} {s : SV} (hlen : cs.length = sz) (hcell : ∀ j s, cs[j]? = some s → ∃ y, w.cell? ⟨r.1, r.2 + (k' * sz + j), none⟩ = some y ∧ Rel ρ s y) (h : rowPart P t cs sz j = some s) :
    ∃ y, (Instr.loadAt t (.pointer (some ⟨r.1, r.2 + (k' * sz + j), none⟩))).run P w = .ok y w ∧ Rel ρ s y := by
  unfold rowPart at h
  split at h
  · rename_i ha
    split at h
    · rename_i m hn
      split at h
      · rename_i hle
        cases h
        obtain ⟨ys, h1, h2⟩ := load_cells (ρ := ρ) (w := w) r (k' * sz + j) ((cs.drop j).take m) 0 (fun i s hi => by
          have hi' : cs[j + i]? = some s := by
            rw [List.getElem?_take] at hi
            split at hi
            · rwa [List.getElem?_drop] at hi
            · cases hi
          obtain ⟨y, hy, hr⟩ := hcell _ _ hi'
          exact ⟨y, by rw [Nat.zero_add, show r.2 + (k' * sz + j) + i = r.2 + (k' * sz + (j + i)) by omega]; exact hy, hr⟩)
        have hl' : ys.length = m := by rw [← h1.length]; simp; omega
        refine ⟨.agg ys.toArray, ?_, by simp only [Rel]; exact ⟨ys, h1, rfl⟩⟩
        have hl := run_loadCells_list (P := P) w ⟨r.1, r.2 + (k' * sz + j), none⟩ ys (fun i v hi => by simpa using h2 i v hi)
        rw [hl'] at hl
        simp only [Instr.loadAt, Instr.sureAddr, Sem.run_bind, Sem.run_pure, Result.andThen_ok, loadVar, run_agg ha, if_true, run_size hn, hl]
      · cases h
    · cases h
  · rename_i ha
    obtain ⟨y, hy, hr2⟩ := hcell _ _ h
    refine ⟨y, ?_, hr2⟩
    simp only [Instr.loadAt, Instr.sureAddr, Sem.run_bind, Sem.run_pure, Result.andThen_ok, loadVar, run_agg ha, Bool.false_eq_true, if_false, run_load, hy]
  · cases h
theorem rowSVat_length (b k : Nat) : ∀ (ks : List CK) (r : RowT ks) (j : Nat), (rowSVat b k ks r j).length = ks.length
  | [], _, _ => rfl
  | c :: ks, r, j => by simp [rowSVat, rowSVat_length b k ks r.2 (j + 1)]
theorem RowsOK.cellAt {w : World} {rw : Bool} {r : Place} {ks : List CK} {l : List (RowT ks)} (h : RowsOK w rw r ks l) {k : Nat} (hk : k < l.length) {ρ : Loc} {ss : List SV} (hr : RelL ρ ss (rowV ks (l.getD k (RowT.dflt ks)))) : ∀ j s, ss[j]? = some s → ∃ y, w.cell? ⟨r.1, r.2 + (k * ks.length + j), none⟩ = some y ∧ Rel ρ s y := by
  intro j s hj
  obtain ⟨y, hy, hr⟩ := hr.get hj
  exact ⟨y, (h k _ (getD_at hk) j y hy).1, hr⟩
theorem Base.rows_at {B : Base} {ks : List CK} {l : List (RowT ks)} {b o : Nat} (h : ∀ (j : Nat) x, (rowsV ks l)[j]? = some x → Base.cell B b (o + j) = some x) {i : Nat} (hi : i < l.length) {ρ : Loc} {w : World} (hB : ρ.base = B) (hw : ∀ k q, B k = some q → w.heap[k]? = some q) {ss : List SV} (hr : RelL ρ ss (rowV ks (l.getD i (RowT.dflt ks)))) : ∀ j s, ss[j]? = some s → ∃ y, w.cell? ⟨b, o + (i * ks.length + j), none⟩ = some y ∧ Rel ρ s y := by
  intro j s hj
  obtain ⟨y, hy, hr⟩ := hr.get hj
  have hjl : j < ks.length := by have := (List.getElem?_eq_some_iff.1 hy).1; rwa [rowV_length] at this
  exact ⟨y, Base.cell_world hw (h _ y (by rw [rowsV_at l i j _ (getD_at hi) hjl]; exact hy)), hr⟩
theorem loadX_sound {bb : Bool} {ρ : Loc} {w : World} {mem : List Blk} (hm : MemQ bb ρ mem w) {t : TypeId} {s : SV} {k : SV → Tr α} {ys : Value} (hs : Rel ρ s ys) (hbb : s.stab = true → bb = true) (h : (loadX P mem t s k).holds R) :
    ∃ s' y, (∀ w', MemQ bb ρ mem w' → (Instr.loadAt t ys).run P w' = .ok y w') ∧ Rel ρ s' y ∧ (k s').holds R := by
  unfold loadX at h
  split at h
  · rename_i b sz k' j
    split at h
    · rename_i rw n sz' get hb
      split at h
      · rename_i hsz
        subst hsz
        obtain ⟨hk, h⟩ := h
        have h := h hk
        split at h
        · rename_i s' hp
          split at h
          · rename_i hsure
            simp only [Rel] at hs
            obtain ⟨r, hr, rfl⟩ := hs
            have at_ : ∀ w', MemQ bb ρ mem w' → ∃ y, (Instr.loadAt t (.pointer (some ⟨r.1, r.2 + (k' * sz' + j), none⟩))).run P w' = .ok y w' ∧ Rel ρ s' y := by
              intro w' hm'
              obtain ⟨r', hr', hbody⟩ := hm' b _ hb
              rw [hr] at hr'; cases hr'
              exact rowLoad_sound (hbody k' hk).1 (fun j s hj => let ⟨_, y, h1, h2, _⟩ := (hbody k' hk).2 j s hj; ⟨y, h1, h2⟩) hp
            obtain ⟨y, hy, hry⟩ := at_ w hm
            refine ⟨s', y, fun w' hm' => ?_, hry, h⟩
            obtain ⟨y', hy', hry'⟩ := at_ w' hm'
            rw [hy', Rel.unique s' hsure hry hry']
          · exact h.elim
        · exact h.elim
      · exact h.elim
    · rename_i rw ks l hb
      split at h
      · rename_i hsz
        subst hsz
        obtain ⟨hk, h⟩ := h
        have h := h hk
        split at h
        · rename_i s' hp
          split at h
          · rename_i hsure
            simp only [Rel] at hs
            obtain ⟨r, hr, rfl⟩ := hs
            have at_ : ∀ w', MemQ bb ρ mem w' → ∃ y, (Instr.loadAt t (.pointer (some ⟨r.1, r.2 + (k' * ks.length + j), none⟩))).run P w' = .ok y w' ∧ Rel ρ s' y := by
              intro w' hm'
              obtain ⟨r', hr', hbody⟩ := hm' b _ hb
              rw [hr] at hr'; cases hr'
              have hbody : RowsOK w' rw r ks l ∧ RowsGood ρ.base ks l := hbody
              exact rowLoad_sound (rowSV_length ks _) (hbody.1.cellAt hk (row_rel ks _ (RowsGood.getD hbody.2 k'))) hp
            obtain ⟨y, hy, hry⟩ := at_ w hm
            refine ⟨s', y, fun w' hm' => ?_, hry, h⟩
            obtain ⟨y', hy', hry'⟩ := at_ w' hm'
            rw [hy', Rel.unique s' hsure hry hry']
          · exact h.elim
        · exact h.elim
      · exact h.elim
    · rename_i rw e ks l hb
      split at h
      · rename_i hsz
        subst hsz
        obtain ⟨hk, h⟩ := h
        have h := h hk
        split at h
        · rename_i s' hp
          split at h
          · rename_i hsure
            simp only [Rel] at hs
            obtain ⟨r, hr, rfl⟩ := hs
            have at_ : ∀ w', MemQ bb ρ mem w' → ∃ y, (Instr.loadAt t (.pointer (some ⟨r.1, r.2 + (k' * ks.length + j), none⟩))).run P w' = .ok y w' ∧ Rel ρ s' y := by
              intro w' hm'
              obtain ⟨r', hr', hbody⟩ := hm' b _ hb
              rw [hr] at hr'; cases hr'
              have hg : RowsGood ρ.base ks l := hbody.2.2.good
              have hbody : RowsOK w' true r ks l := hbody.1
              exact rowLoad_sound (rowSVat_length b k' ks _ 0) (hbody.cellAt hk (rowSVat_rel b k' ks _ 0 (RowsGood.getD hg k'))) hp
            obtain ⟨y, hy, hry⟩ := at_ w hm
            refine ⟨s', y, fun w' hm' => ?_, hry, h⟩
            obtain ⟨y', hy', hry'⟩ := at_ w' hm'
            rw [hy', Rel.unique s' hsure hry hry']
          · exact h.elim
        · exact h.elim
      · exact h.elim
    · exact h.elim
  · rename_i c x i j
    split at h
    · rename_i ks x
      obtain ⟨hi, h⟩ := h
      have h := h hi
      split at h
      · rename_i s' hp
        split at h
        · rename_i hsure
          simp only [Rel] at hs
          obtain ⟨hg, b, o, c, hv, rfl⟩ := hs
          obtain ⟨⟨a', c', e1, e2, e3⟩, hrows⟩ := hg
          obtain ⟨b', o', rfl, hcell⟩ := e3 (by omega)
          have e4 : x.1 = .slice (some ⟨b, o, none⟩) x.2.length c := hv
          rw [e1] at e4; cases e4
          have at_ : ∀ w', MemQ bb ρ mem w' → ∃ y, (Instr.loadAt t (.pointer (some ⟨b, o + (i * ks.length + j), none⟩))).run P w' = .ok y w' ∧ Rel ρ s' y := by
            intro w' hm'
            exact rowLoad_sound (r := ⟨b, o, none, 0⟩) (rowSV_length ks _) (Base.rows_at hcell hi rfl (hm'.base (hbb rfl)) (row_rel ks _ (RowsGood.getD hrows i))) hp
          obtain ⟨y, hy, hry⟩ := at_ w hm
          refine ⟨s', y, fun w' hm' => ?_, hry, h⟩
          obtain ⟨y', hy', hry'⟩ := at_ w' hm'
          rw [← Rel.unique s' hsure.1 hry hry'] at hy'; exact hy'
        · exact h.elim
      · exact h.elim
    · rename_i x
      obtain ⟨hi, h⟩ := h
      have h := h hi
      split at h
      · rename_i s' hp
        split at h
        · rename_i hsure
          simp only [Rel] at hs
          obtain ⟨hg, b, o, c, hv, rfl⟩ := hs
          obtain ⟨⟨a', c', e1, e2, e3⟩, hrows⟩ := hg
          obtain ⟨b', o', rfl, hcell⟩ := e3 (by omega)
          have e4 : x.1 = .slice (some ⟨b, o, none⟩) x.2.length c := hv
          rw [e1] at e4; cases e4
          have hrow : (x.2.map PNode.row).getD i (RowT.dflt nodeK) = (x.2.getD i nodeDflt).row := by
            rw [List.getD_eq_getElem?_getD, List.getD_eq_getElem?_getD, List.getElem?_map, List.getElem?_eq_getElem hi]; rfl
          have at_ : ∀ w', MemQ bb ρ mem w' → ∃ y, (Instr.loadAt t (.pointer (some ⟨b, o + (i * 3 + j), none⟩))).run P w' = .ok y w' ∧ Rel ρ s' y := by
            intro w' hm'
            rw [← nodes_rows] at hcell
            refine rowLoad_sound (r := ⟨b, o, none, 0⟩) (rowSV_length nodeK _) (Base.rows_at (ks := nodeK) (l := x.2.map PNode.row) hcell (by rw [List.length_map]; exact hi) rfl (hm'.base (hbb rfl)) (ss := rowSV nodeK (x.2.getD i nodeDflt).row) ?_) hp
            rw [hrow]
            refine row_rel nodeK _ ?_
            rw [← hrow]
            exact RowsGood.getD (nodes_good hrows) i
          obtain ⟨y, hy, hry⟩ := at_ w hm
          refine ⟨s', y, fun w' hm' => ?_, hry, h⟩
          obtain ⟨y', hy', hry'⟩ := at_ w' hm'
          rw [← Rel.unique s' hsure hry hry'] at hy'; exact hy'
        · exact h.elim
      · exact h.elim
    · exact h.elim
  · split at h
    · rename_i s' hl
      split at h
      · rename_i hsure
        obtain ⟨y, hy, hry⟩ := loadAt_sound hm hs hl
        refine ⟨s', y, fun w' hm' => ?_, hry, h⟩
        obtain ⟨y', hy', hry'⟩ := loadAt_sound hm' hs hl
        rw [hy', Rel.unique s' hsure hry hry']
      · exact h.elim
    · exact h.elim
theorem nilO_sound {ρ : Loc} {op : BinOp} {t : TypeId} {ox oy : Operand} {s1 s2 : SV} {y1 y2 : Value} {len : Nat} {b : Bool} (h1 : Rel ρ s1 y1) (h2 : Rel ρ s2 y2) (h : nilO P op t s1 s2 = some (len, b)) :
    ∃ c, (∀ w, (do eqGuard op t ox oy y1 y2; binOp op t y1 y2 : Sem Value).run P w = .ok (.bool c) w) ∧ (c = b ∨ len = 0 ∧ c = !b) := by
  unfold nilO at h
  split at h
  · rename_i b0 sz k0 n x
    split at h
    · rename_i e hu
      split at h
      · rename_i hn
        obtain ⟨b', hb, hbe⟩ := Option.map_eq_some_iff.1 h
        cases hbe
        obtain ⟨l, c, rfl⟩ := isNilSlc_spec hn
        simp only [Rel] at h1 h2
        obtain ⟨r, _, rfl, hpos⟩ := h1
        subst h2
        generalize hbase : (if r.cap = k0 then r.ptr else r.ptr.map (·.add (k0 * sz))) = base
        cases base with
        | some p => exact ⟨b, fun w => bin_nil hb trivial (by unfold Op.equal Op.maxDepth; exact (eq_nil_slc 9999 hu p _ _ l c w).1), .inl rfl⟩
        | none =>
          refine ⟨!b, fun w => ?_, .inr ⟨?_, rfl⟩⟩
          · have he : (Op.equal t (.slice none len (r.cap - k0)) (.slice none l c)).run P w = .ok true w := by
              unfold Op.equal Op.maxDepth; exact eq_nil_nil 9999 hu _ _ l c w
            have hop : (op = .eql ∧ b = false) ∨ (op = .neq ∧ b = true) := by
              cases op <;> simp_all [boolOp]
            rcases hop with ⟨rfl, rfl⟩ | ⟨rfl, rfl⟩ <;> simp [eqGuard, binOp, he]
          · rcases Nat.eq_zero_or_pos len with h0 | h0
            · exact h0
            · obtain ⟨h3, h4⟩ := hpos h0
              rw [h3] at hbase
              split at hbase <;> simp at hbase
      · cases h
    · cases h
  · rename_i c0 z x
    split at h
    · rename_i e hu hst
      split at h
      · rename_i hn
        obtain ⟨b', hb, hbe⟩ := Option.map_eq_some_iff.1 h
        cases hbe
        obtain ⟨l, c, rfl⟩ := isNilSlc_spec hn
        unfold Rel at h1 h2
        obtain ⟨rfl, hg⟩ := h1
        subst h2
        obtain ⟨base, cap, e1, e2, e3⟩ := CK.stab_slc c0 z hst hg
        rw [e1]
        cases base with
        | some p => exact ⟨b, fun w => bin_nil hb trivial (by unfold Op.equal Op.maxDepth; exact (eq_nil_slc 9999 hu p _ _ l c w).1), .inl rfl⟩
        | none =>
          refine ⟨!b, fun w => ?_, .inr ⟨?_, rfl⟩⟩
          · have he : (Op.equal t (.slice none (stabN c0 z) cap) (.slice none l c)).run P w = .ok true w := by
              unfold Op.equal Op.maxDepth; exact eq_nil_nil 9999 hu _ _ l c w
            have hop : (op = .eql ∧ b = false) ∨ (op = .neq ∧ b = true) := by
              cases op <;> simp_all [boolOp]
            rcases hop with ⟨rfl, rfl⟩ | ⟨rfl, rfl⟩ <;> simp [eqGuard, binOp, he]
          · rcases Nat.eq_zero_or_pos (stabN c0 z) with h0 | h0
            · exact h0
            · obtain ⟨_, _, h3⟩ := e3 h0
              cases h3
      · cases h
    · cases h
  · cases h
theorem valOp_sound {bb : Bool} {ρ : Loc} {st : St} {a : Act} {w : World} (ht : RelL ρ st.tmps a.tmps.toList) (hm : MemQ bb ρ st.mem w) {o : Oper} (hbb : opStab st o = true → bb = true) {k : SV → Tr α} (h : (valOp P o st k).holds R) :
    ∃ s y, (∀ w', MemQ bb ρ st.mem w' → (execOp a.eval o).run P w' = .ok (.value y) w') ∧ Rel ρ s y ∧ (k s).holds R := by
  unfold valOp at h
  split at h
  · rename_i op t x y spot ho
    split at h
    · rename_i len b hn
      obtain ⟨c, hc, hcb⟩ := nilO_sound (ox := x) (oy := y) (ev_rel ht x) (ev_rel ht y) hn
      refine ⟨.v (.bool c), .bool c, fun w' _ => ?_, by simp [Rel], ?_⟩
      · have := hc w'
        simp only [execOp, ho]
        simp only [Sem.run_bind] at this ⊢
        rw [this]; rfl
      · rcases hcb with rfl | ⟨rfl, rfl⟩
        · cases hd : decide (0 < len) with
          | true => exact h.1 hd
          | false => exact (h.2 hd).1
        · exact (h.2 (by simp)).2
    · split at h
      · rename_i q hq
        obtain ⟨hp, h⟩ := h
        have h := h hp
        unfold strAdd at hq
        split at hq
        · rename_i a' b' e1 e2
          split at hq
          · cases hq
            have h1 := ev_rel ht x
            have h2 := ev_rel ht y
            rw [e1] at h1; rw [e2] at h2
            simp only [Rel] at h1 h2
            refine ⟨_, .string (a' ++ b'), fun w' _ => ?_, by simp [Rel], h⟩
            have hn : ¬ (((a'.size + b'.size : Nat) : Int) > IntKind.i64.max) := by
              have : IntKind.i64.max = 9223372036854775807 := by decide
              simp only at hp
              rw [this]; omega
            simp only [execOp, ho, h1, h2]
            simp only [eqGuard, binOp, Op.stringOp, if_neg hn]
            rfl
          · cases hq
        · cases hq
      · split at h
        · rename_i s hv
          obtain ⟨y, hy, hr⟩ := stepVal_sound ht hv
          exact ⟨s, y, fun w' _ => hy w', hr, h⟩
        · exact h.elim
  · rename_i c x y ho
    split at h
    · rename_i b hb
      have hc := ev_rel ht c
      rw [hb] at hc
      simp only [Rel] at hc
      cases b with
      | true => exact ⟨_, a.eval x, fun w' _ => by simp [execOp, ho, hc, asBool], ev_rel ht x, h.1 rfl⟩
      | false => exact ⟨_, a.eval y, fun w' _ => by simp [execOp, ho, hc, asBool], ev_rel ht y, h.2 rfl⟩
    · exact h.elim
  · rename_i t x i ho
    obtain ⟨s', y', hy, hr, hh⟩ := idxAddr_sound (ev_rel ht x) (ev_rel ht i) h
    exact ⟨s', y', fun w' _ => by simp [execOp, ho, hy], hr, hh⟩
  · rename_i t x i ho
    obtain ⟨s', y', hy, hr, hh⟩ := idx_sound (ev_rel ht x) (ev_rel ht i) h
    exact ⟨s', y', fun w' _ => by simp [execOp, ho, hy], hr, hh⟩
  · rename_i t x ho
    obtain ⟨s', y', hy, hr, hh⟩ := loadX_sound hm (ev_rel ht x) (fun he => hbb (by simpa [opStab, ho] using he)) h
    exact ⟨s', y', fun w' hm' => by simp [execOp, ho, hy w' hm'], hr, hh⟩
  · rename_i t x lo hi mx ho
    split at h
    · rename_i hc
      split at h
      · rename_i lo' hi' mx' e1 e2 e3
        have hn : mx.map a.eval = none ∨ (hi.map a.eval).isSome = true := by
          cases mx <;> cases hi <;> simp_all
        obtain ⟨s', y', hy, hr, hh⟩ := sliceX_sound (optInt_spec ht e1) (optInt_spec ht e2) (optInt_spec ht e3) hn (ev_rel ht x) h
        exact ⟨s', y', fun w' _ => by simp [execOp, ho, hy], hr, hh⟩
      · exact h.elim
    · exact h.elim
  · rename_i src dst x ho
    split at h
    · obtain ⟨s', y', hy, hr, hh⟩ := bytesX_sound hm (ev_rel ht x) (fun he => hbb (by simpa [opStab, ho] using he)) h
      exact ⟨s', y', fun w' hm' => by simp [execOp, ho, hy w' hm'], hr, hh⟩
    · split at h
      · rename_i s hv
        obtain ⟨y, hy, hr⟩ := stepVal_sound ht hv
        exact ⟨s, y, fun w' _ => hy w', hr, h⟩
      · exact h.elim
  · split at h
    · rename_i s hv
      obtain ⟨y, hy, hr⟩ := stepVal_sound ht hv
      exact ⟨s, y, fun w' _ => hy w', hr, h⟩
    · exact h.elim
theorem effOp_sound (hng : NoNG P) {callF : CallF α} (hcall : CallFOK P w0 X R callF) {ow : Nat} {o : Oper} {st : St} {k : St → Tr α} {ρ : Loc} {a : Act} {w : World} (S : Sim ρ w0 X st a w) (h : (effOp P callF ow o st k).holds R)
    {next : Act → World → Prop} {Q : Exit → Act → World → Prop} (hk : ∀ st' ρ' a' w', Ext ρ ρ' → Sim ρ' w0 X st' a' w' → (k st').holds R → next a' w') : o.wp P a w next Q := by
  unfold effOp at h
  split at h
  · rename_i e ho
    split at h
    · rename_i z hz
      obtain ⟨he, S', hr⟩ := S.alloc (cs := zcells z) (ys := z.cells.toList) (RelL.map_v _) e
      unfold Oper.wp
      have hrun : (execOp a.eval o).run P w = .ok (.value (.pointer (some ⟨w.heap.size, 0, none⟩))) (w.alloc (.cells z.cells.toList.toArray e)) := by
        simp [execOp, ho, Instr.alloc, run_of_val? _ hz, newVar, newRow]
      rw [hrun]
      exact hk _ _ _ _ he (S'.put hr _) h
    · exact h.elim
  · rename_i e x ho
    split at h
    · rename_i hp
      obtain ⟨he, S', hr⟩ := S.alloc (cs := (ev st x).cells) ((S.ev x).cells (SV.plain_v hp) (SV.plain_any hp)) e
      unfold Oper.wp
      have hrun : (execOp a.eval o).run P w = .ok (.value (.pointer (some ⟨w.heap.size, 0, none⟩))) (w.alloc (.cells (a.eval x).cells.toList.toArray e)) := by
        simp [execOp, ho, Instr.box, newVar, newRow]
      rw [hrun]
      exact hk _ _ _ _ he (S'.put hr _) h
    · exact h.elim
  · rename_i t p x ho
    obtain ⟨ρ', w', st', he, hrun, S', hh⟩ := storeX_sound S (S.ev p) (S.ev x) (xt := tmpOf x) (fun d hd y hy => by
      cases x with
      | tmp d' =>
        simp only [tmpOf, Option.some.injEq] at hd
        subst hd
        simp only [Act.eval, Array.getD_eq_getD_getElem?]
        rw [← Array.getElem?_toList, hy]; rfl
      | _ => cases hd) h
    unfold Oper.wp
    have hrun' : (execOp a.eval o).run P w = .ok .skip w' := by simp [execOp, ho, hrun]
    rw [hrun']
    exact hk _ _ _ _ he (S'.put (by simp [Rel]) _) hh
  · rename_i t len parts ho
    obtain ⟨ρ', y', w', s', mem', he, hrun, S', hr, hh⟩ := buildStayX_sound (vs := parts.map fun p => (p.1, a.eval p.2)) S (by simp) (by simpa using parts_map S.tmps parts.toList) h
    unfold Oper.wp
    have hrun' : (execOp a.eval o).run P w = .ok (.value y') w' := by simp [execOp, ho, hrun]
    rw [hrun']
    exact hk _ _ _ _ he (S'.put hr _) hh
  · rename_i t l c ho
    obtain ⟨ρ', y', w', s', mem', he, hrun, S', hr, hh⟩ := makeSliceX_sound S (S.ev l) (S.ev c) h
    unfold Oper.wp
    have hrun' : (execOp a.eval o).run P w = .ok (.value y') w' := by simp [execOp, ho, hrun]
    rw [hrun']
    exact hk _ _ _ _ he (S'.put hr _) hh
  · rename_i c ho
    split at h
    · rename_i fo hcal
      split at h
      · rename_i f caps hf
        have hfv := S.ev fo
        rw [hf] at hfv
        simp only [Rel] at hfv
        obtain ⟨cys, hcys, hfo⟩ := hfv
        obtain ⟨⟨fn, cb, hfn, hb⟩, hC⟩ := hcall f _ st.mem _ ρ w ((c.args.map a.eval).toList ++ cys) S.mem S.frame ((map_ev S.tmps c.args).append hcys) h
        unfold Oper.wp
        have hrun : (execOp a.eval o).run P w = .ok (.enter f ((c.args.map a.eval).toList ++ cys).toArray) w := by
          have := run_callFunc hng (args := ((c.args.map a.eval).toList ++ cys).toArray) hfn hb w
          have e : (Array.map a.eval c.args ++ cys.toArray) = ((c.args.map a.eval).toList ++ cys).toArray := by apply Array.ext'; simp
          simp only [execOp, ho, resolve, hcal, hfo, Deferred.ofValue, Sem.run_bind, Sem.run_pure, Result.andThen_ok, invoke, Array.empty_append, e, this]
        rw [hrun]
        refine hC.mono ?_
        rintro e w' ⟨ρ', s, v, mem', rfl, he, hr, hm, hf', hh⟩
        exact hk _ _ _ _ he ((S.mem_tmps he hm hf').put hr _) hh
      · exact h.elim
    · rename_i b hcal
      have hrun0 : ∀ {y' : Value} {w' : World} (_ : (Go.builtin b c.argTypes o.type (c.args.map fun | .const _ => true | _ => false) (c.args.map a.eval)).run P w = .ok (.value y') w'), (execOp a.eval o).run P w = .ok (.value y') w' := fun h => by
        simp only [execOp, ho, resolve, hcal, Sem.run_bind, Sem.run_pure, Result.andThen_ok, invoke]
        exact h
      split at h
      · rename_i x y hargs
        have hargs : c.args = #[x, y] := by apply Array.ext'; simpa using hargs
        obtain ⟨ρ', y', w', s', mem', he, hrun, S', hr, hh⟩ := appendX_sound (ty := o.type) S (S.ev x) (S.ev y) h
        unfold Oper.wp
        rw [hrun0 (y' := y') (w' := w') (by simp [Go.builtin, hargs, hrun])]
        exact hk _ _ _ _ he (S'.put hr _) hh
      · rename_i x y hargs
        have hargs : c.args = #[x, y] := by apply Array.ext'; simpa using hargs
        obtain ⟨y', w', s', mem', hrun, S', hr, hh⟩ := copyX_sound (ty := o.type) S (S.ev x) (S.ev y) h
        unfold Oper.wp
        rw [hrun0 (y' := y') (w' := w') (by simp [Go.builtin, hargs, hrun])]
        exact hk _ _ _ _ (Ext.refl _) (S'.put hr _) hh
      · rename_i x hargs
        have hargs : c.args = #[x] := by apply Array.ext'; simpa using hargs
        obtain ⟨y', w', s', mem', hrun, S', hr, hh⟩ := clearX_sound (ty := o.type) S (S.ev x) h
        unfold Oper.wp
        rw [hrun0 (y' := y') (w' := w') (by simp [Go.builtin, hargs, hrun])]
        exact hk _ _ _ _ (Ext.refl _) (S'.put hr _) hh
      · exact h.elim
    · exact h.elim
  · exact h.elim
theorem stepOp_sound (hng : NoNG P) {callF : CallF α} (hcall : CallFOK P w0 X R callF) {ow : Nat} {o : Oper} {st : St} {k : St → Tr α} {ρ : Loc} {a : Act} {w : World} (S : Sim ρ w0 X st a w) (h : (stepOp P callF ow o st k).holds R)
    {next : Act → World → Prop} {Q : Exit → Act → World → Prop} (hk : ∀ st' ρ' a' w', Ext ρ ρ' → Sim ρ' w0 X st' a' w' → (k st').holds R → next a' w') : o.wp P a w next Q := by
  unfold stepOp at h
  split at h
  · obtain ⟨s, y, hy, hr, hh⟩ := valOp_sound S.tmps S.mem.memB (fun _ => rfl) h
    exact wp_value (hy w S.mem.memB) (hk _ _ _ _ (Ext.refl _) (S.put hr _) hh)
  · exact effOp_sound hng hcall S h hk
theorem runOps_sound (hng : NoNG P) {callF : CallF α} (hcall : CallFOK P w0 X R callF) (all : Array Oper) {Q : Exit → Act → World → Prop} : ∀ (ops : List Oper) {st : St} {k : St → Tr α} {ρ : Loc} {a : Act} {w : World}, Sim ρ w0 X st a w → (runOps P callF all ops st k).holds R →
    (∀ st' ρ' a' w', Ext ρ ρ' → Sim ρ' w0 X st' a' w' → (k st').holds R → Q .normal a' w') → wpList P all Q ops a w
  | [], st, k, ρ, a, w, S, h, hk => hk _ _ _ _ (Ext.refl _) S h
  | o :: os, st, k, ρ, a, w, S, h, hk => by
    have go : ∀ {st : St} {a : Act}, Sim ρ w0 X st a w → (stepOp P callF (owLit all o) o st fun st' => runOps P callF all os st' k).holds R → o.wp P a w (wpList P all Q os) Q := fun S h =>
      stepOp_sound hng hcall S h fun st' ρ' a' w' he S' h' => runOps_sound hng hcall all os S' h' fun st'' ρ'' a'' w'' he' S'' h'' => hk _ _ _ _ (he.trans he') S'' h''
    have pass : ∀ {st : St} {a : Act}, Sim ρ w0 X st a w → (runOps P callF all os (st.put o.dst (.v undef)) k).holds R → wpList P all Q os (a.put o.dst undef) w := fun S h =>
      runOps_sound hng hcall all os (S.put (by simp [Rel]) _) h hk
    unfold wpList
    unfold runOps at h
    split at h
    · rename_i hg
      rw [if_pos (by simp [Region.wanted, hg])]
      exact .inl (go S h)
    · rename_i j want hg
      have hw : Region.wanted o (yielded all a.tmps) = (yielded all a.tmps j == some want) := by simp [Region.wanted, hg]
      rw [hw]
      split at h
      · rename_i hd
        rw [if_neg (by simp [yielded, hd])]
        exact pass S h
      · rename_i d hd
        split at h
        · rename_i ht
          have hl := S.tmps.length
          have hnone : a.tmps[d]? = none := by
            have : st.tmps.length ≤ d := by simpa using ht
            simp at hl ⊢; omega
          rw [if_neg (by simp [yielded, hd, hnone])]
          exact pass S h
        · rename_i b ht
          obtain ⟨y, hy, hr⟩ := S.tmps.get ht
          simp only [Rel] at hr
          subst hr
          have hy' : a.tmps[d]? = some (.bool b) := by simpa using hy
          have hyl : yielded all a.tmps j = some b := by simp [yielded, hd, hy']
          have Sb : Sim ρ w0 X (st.put (some d) (.v (.bool b))) a w := by
            have := S.put (ρ := ρ) (s := .v (.bool b)) (y := .bool b) (by simp [Rel]) (some d)
            have e : a.put (some d) (.bool b) = a := by
              cases a with
              | mk tmps defers =>
                simp only [Act.put]
                congr 1
                apply Array.ext'
                simp only [Array.toList_setIfInBounds]
                have hlt : d < tmps.toList.length := (List.getElem?_eq_some_iff.1 hy).1
                apply List.ext_getElem?
                intro i
                by_cases hi : d = i
                · subst hi; rw [List.getElem?_set_self hlt]; exact hy.symm
                · rw [List.getElem?_set_ne hi]
            rw [e] at this; exact this
          rw [hyl]
          cases want with
          | true =>
            cases b with
            | true => rw [if_pos (by decide)]; exact .inl (go Sb (h.1 rfl))
            | false => rw [if_neg (by decide)]; exact pass Sb (h.2 rfl)
          | false =>
            cases b with
            | true => rw [if_neg (by decide)]; exact pass Sb (h.1 rfl)
            | false => rw [if_pos (by decide)]; exact .inl (go Sb (h.2 rfl))
        · rename_i vs ht
          obtain ⟨y, hy, hr⟩ := S.tmps.get ht
          simp only [Rel] at hr
          subst hr
          have hy' : a.tmps[d]? = some (.tuple vs) := by simpa using hy
          rw [if_neg (by simp [yielded, hd, hy'])]
          exact pass S h
        · exact h.elim
theorem guardB_sound {ρ : Loc} {all : Array Oper} {o : Oper} {st : St} {a : Act} {b : Bool} (ht : RelL ρ st.tmps a.tmps.toList) (h : guardB all o st = some b) : Region.wanted o (yielded all a.tmps) = b := by
  unfold guardB at h
  split at h
  · rename_i hg; cases h; simp [Region.wanted, hg]
  · rename_i j want hg
    have hw : Region.wanted o (yielded all a.tmps) = (yielded all a.tmps j == some want) := by simp [Region.wanted, hg]
    rw [hw]
    split at h
    · rename_i hd; cases h; simp [yielded, hd]
    · rename_i d hd
      split at h
      · rename_i hn
        cases h
        have hl := ht.length
        have hnone : a.tmps[d]? = none := by
          have : st.tmps.length ≤ d := by simpa using hn
          simp at hl ⊢; omega
        simp [yielded, hd, hnone]
      · rename_i b0 hb
        cases h
        obtain ⟨y, hy, hr⟩ := ht.get hb
        simp only [Rel] at hr
        subst hr
        have hy' : a.tmps[d]? = some (.bool b0) := by simpa using hy
        simp [yielded, hd, hy']
      · rename_i vs hb
        cases h
        obtain ⟨y, hy, hr⟩ := ht.get hb
        simp only [Rel] at hr
        subst hr
        have hy' : a.tmps[d]? = some (.tuple vs) := by simpa using hy
        simp [yielded, hd, hy']
      · cases h
theorem put_same {a : Act} {d : Tmp} {y : Value} (hy : a.tmps.toList[d]? = some y) : a.put (some d) y = a := by
  cases a with
  | mk tmps defers =>
    simp only [Act.put]
    congr 1
    apply Array.ext'
    simp only [Array.toList_setIfInBounds]
    have hlt : d < tmps.toList.length := (List.getElem?_eq_some_iff.1 hy).1
    apply List.ext_getElem?
    intro i
    by_cases hi : d = i
    · subst hi; rw [List.getElem?_set_self hlt]; exact hy.symm
    · rw [List.getElem?_set_ne hi]
theorem decideTmp_sim {ρ : Loc} {all : Array Oper} {i : Nat} {d : Option Tmp} {st : St} {k : St → Tr α} {a : Act} {w : World} (S : Sim ρ w0 X st a w) (h : (decideTmp all i d st k).holds R) : ∃ st', Sim ρ w0 X st' a w ∧ (k st').holds R := by
  unfold decideTmp at h
  split at h
  · rename_i d _
    split at h
    · rename_i b hb
      obtain ⟨y, hy, hr⟩ := S.tmps.get hb
      simp only [Rel] at hr
      subst hr
      have := S.put (ρ := ρ) (s := .v (.bool b)) (y := .bool b) (by simp [Rel]) (some d)
      rw [put_same hy] at this
      cases b with
      | true => exact ⟨_, this, h.1 rfl⟩
      | false => exact ⟨_, this, h.2 rfl⟩
    · exact ⟨st, S, h⟩
  · exact ⟨st, S, h⟩
theorem maskMem_get (wr : List Nat) : ∀ (mem : List Blk) (i0 i : Nat), (maskMem wr i0 mem)[i]? = (mem[i]?).map fun b => if wr.contains (i0 + i) then ⟨b.rw, .dead⟩ else b
  | [], i0, i => by simp [maskMem]
  | b :: bs, i0, i => by
    cases i with
    | zero => simp [maskMem]
    | succ i => simp only [maskMem, List.getElem?_cons_succ, maskMem_get wr bs (i0 + 1) i]; rw [show i0 + 1 + i = i0 + (i + 1) by omega]
mutual
/-- what is known of a value later, and was good before, is known of it as before -/
theorem Rel.pull {n : Nat} {ρ' ρ : Loc} (h : ∀ i, i < n → ∀ r, ρ' i = some r → ρ i = some r) : ∀ (s : SV) {y0 y : Value}, s.lo n = true → Rel ρ s y0 → Rel ρ' s y → Rel ρ s y
  | .v x, _, y, _, _, h1 => by simpa only [Rel] using h1
  | .any, _, y, _, _, h1 => by simp [Rel]
  | .ptr b off, _, y, hb, _, h1 => by simp only [Rel, SV.lo, decide_eq_true_eq] at hb h1 ⊢; obtain ⟨r, hr, e⟩ := h1; exact ⟨r, h _ hb _ hr, e⟩
  | .eptr b sz k j, _, y, hb, _, h1 => by simp only [Rel, SV.lo, decide_eq_true_eq] at hb h1 ⊢; obtain ⟨r, hr, e⟩ := h1; exact ⟨r, h _ hb _ hr, e⟩
  | .slc b off len cap, _, y, hb, _, h1 => by simp only [Rel, SV.lo, decide_eq_true_eq] at hb h1 ⊢; obtain ⟨r, hr, e⟩ := h1; exact ⟨r, h _ hb _ hr, e⟩
  | .eslc b sz k len cap, _, y, hb, _, h1 => by simp only [Rel, SV.lo, decide_eq_true_eq] at hb h1 ⊢; obtain ⟨r, hr, e⟩ := h1; exact ⟨r, h _ hb _ hr, e⟩
  | .oslc b sz k len, _, y, hb, _, h1 => by simp only [Rel, SV.lo, decide_eq_true_eq] at hb h1 ⊢; obtain ⟨r, hr, e⟩ := h1; exact ⟨r, h _ hb _ hr, e⟩
  | .zslc b, _, y, hb, _, h1 => by simp only [Rel, SV.lo, decide_eq_true_eq] at hb h1 ⊢; obtain ⟨r, hr, e⟩ := h1; exact ⟨r, h _ hb _ hr, e⟩
  | .sv k x, _, y, _, h0, h1 => by simp only [Rel] at h0 h1 ⊢; exact ⟨h1.1, h0.2⟩
  | .sptr k x i j, _, y, _, h0, h1 => by simp only [Rel] at h0 h1 ⊢; exact ⟨h0.1, h1.2⟩
  | .osv .., _, y, _, _, h1 => by simpa only [Rel] using h1
  | .optr .., _, y, _, _, h1 => by simpa only [Rel] using h1
  | .fn f cs, _, y, hb, h0, h1 => by simp only [Rel, SV.lo] at hb h0 h1 ⊢; obtain ⟨ys, hy, e⟩ := h1; obtain ⟨zs, hz, _⟩ := h0; exact ⟨ys, RelL.pull h cs hb hz hy, e⟩
  | .agg cs, _, y, hb, h0, h1 => by simp only [Rel, SV.lo] at hb h0 h1 ⊢; obtain ⟨ys, hy, e⟩ := h1; obtain ⟨zs, hz, _⟩ := h0; exact ⟨ys, RelL.pull h cs hb hz hy, e⟩
  | .tup cs, _, y, hb, h0, h1 => by simp only [Rel, SV.lo] at hb h0 h1 ⊢; obtain ⟨ys, hy, e⟩ := h1; obtain ⟨zs, hz, _⟩ := h0; exact ⟨ys, RelL.pull h cs hb hz hy, e⟩
theorem RelL.pull {n : Nat} {ρ' ρ : Loc} (h : ∀ i, i < n → ∀ r, ρ' i = some r → ρ i = some r) : ∀ (s : List SV) {y0 y : List Value}, loL n s = true → RelL ρ s y0 → RelL ρ' s y → RelL ρ s y
  | [], _, y, _, _, h1 => by simpa only [RelL] using h1
  | s :: ss, _, y, hb, h0, h1 => by
    simp only [RelL, loL, Bool.and_eq_true] at hb h0 h1 ⊢
    obtain ⟨y0, ys, e, a1, a2⟩ := h1
    obtain ⟨z0, zs, _, b1, b2⟩ := h0
    exact ⟨y0, ys, e, Rel.pull h s hb.1 b1 a1, RelL.pull h ss hb.2 b2 a2⟩
end
theorem lo_at {n : Nat} : ∀ (l : List SV) (j : Nat) (s : SV), loL n l = true → l[j]? = some s → s.lo n = true := by
  intro l
  induction l with
  | nil => intro j s _ hj; simp at hj
  | cons x l ih =>
    intro j s hl hj
    simp only [loL, Bool.and_eq_true] at hl
    cases j with
    | zero => simp at hj; subst hj; exact hl.1
    | succ j => exact ih j s hl.2 (by simpa using hj)
theorem BodyOK.pull {n : Nat} {ρ ρ' : Loc} (hd : ∀ i, i < n → ∀ r, ρ' i = some r → ρ i = some r) {w w' : World} {rw rw0 : Bool} {r : Place} {b : Body} (hb : b.lo n = true) (h0 : BodyOK ρ w rw0 r b) (h : BodyOK ρ' w' rw r b) : BodyOK ρ w' rw r b := by
  cases b with
  | lit cs =>
    intro j s hj
    obtain ⟨y, h1, h2, h3⟩ := h j s hj
    obtain ⟨y0, _, g2, _⟩ := h0 j s hj
    exact ⟨y, h1, Rel.pull hd s (lo_at cs j s hb hj) g2 h2, h3⟩
  | row m sz get =>
    intro k hk
    refine ⟨(h k hk).1, fun j s hj => ?_⟩
    obtain ⟨h0', y, h1, h2, h3⟩ := (h k hk).2 j s hj
    obtain ⟨_, y0, _, g2, _⟩ := (h0 k hk).2 j s hj
    exact ⟨h0', y, h1, Rel.pull (n := 0) (fun i hi => absurd hi (Nat.not_lt_zero _)) s h0' g2 h2, h3⟩
  | rows ks l => exact ⟨h.1, h0.2⟩
  | own e ks l => exact ⟨h.1, h.2.1, ⟨h0.2.2.good, h.2.2.osl, h.2.2.nodup, h.2.2.self⟩⟩
  | dead => trivial
/-- the blocks that are kept, in a later world -/
theorem masked_later {ρ ρ' : Loc} {wr : List Nat} {mem mem' masked : List Blk} {w w' : World} (hmask : maskMem wr 0 mem = masked) (hdom : ∀ i, i < mem.length → ∃ r, ρ i = some r) (he : Ext ρ ρ') (hlo : memLo mem.length masked = true) (hS : MemQ false ρ masked w) (hm : MemB ρ' mem' w') (hkeep : maskMem wr 0 (mem'.take mem.length) = masked) : MemQ false ρ masked w' := by
  refine ⟨fun i b hi => ?_, fun h => nomatch h⟩
  have hlen : masked.length = mem.length := by
    rw [← hmask]
    have : ∀ (l : List Blk) (i0 : Nat), (maskMem wr i0 l).length = l.length := by
      intro l; induction l with
      | nil => intro _; rfl
      | cons x l ih => intro i0; simp [maskMem, ih]
    exact this _ _
  have hil : i < mem.length := by rw [← hlen]; exact (List.getElem?_eq_some_iff.1 hi).1
  obtain ⟨r, hr, hbody0⟩ := hS i b hi
  have hi2 := hi
  rw [← hkeep, maskMem_get] at hi2
  obtain ⟨b', hb', hbe⟩ := Option.map_eq_some_iff.1 hi2
  rw [List.getElem?_take_of_lt hil] at hb'
  obtain ⟨r', hr', hbody⟩ := hm i b' hb'
  rw [he _ _ hr] at hr'; cases hr'
  refine ⟨r, hr, ?_⟩
  have hlob : b.body.lo mem.length = true := by
    unfold memLo at hlo
    rw [List.all_eq_true] at hlo
    exact hlo b (List.mem_of_getElem? hi)
  have hdown : ∀ i, i < mem.length → ∀ r, ρ' i = some r → ρ i = some r := fun i hi r hr' => by
    obtain ⟨r0, hr0⟩ := hdom i hi
    rw [he _ _ hr0] at hr'; cases hr'; exact hr0
  refine BodyOK.pull hdown hlob hbody0 ?_
  split at hbe
  · subst hbe; trivial
  · subst hbe; exact hbody
theorem runDraw_sound (hng : NoNG P) {callF : CallF α} (hcall : CallFOK P w0 X R callF) {ops : Array Oper} (hsel : Region.noSelect ops = true) {wr : List Nat} {mem0 masked : List Blk} {ρ0 : Loc} (hmask : maskMem wr 0 mem0 = masked) (hdom : ∀ i, i < mem0.length → ∃ r, ρ0 i = some r) (hlo : memLo mem0.length masked = true)
    {Q : Exit → Act → World → Prop} (hQ : ∀ c a w, ¬ Q (.panic c) a w) : ∀ (n : Nat) {listed : Array Bool} {st : St} {k : St → Tr α} {ρ : Loc} {a : Act} {w : World}, Ext ρ0 ρ → Sim ρ w0 X st a w → MemQ false ρ0 masked w →
    (runDraw P callF ops wr mem0.length masked n listed st k).holds R → (∀ st' ρ' a' w', Ext ρ0 ρ' → Sim ρ' w0 X st' a' w' → (k st').holds R → Q .normal a' w') → wpAnyH P .any ops Q (MemQ false ρ0 masked) n listed a w
  | 0, listed, st, k, ρ, a, w, he0, S, hS, h, hk => by
    unfold runDraw at h
    split at h
    · rename_i hr; exact ⟨hr, hk _ _ _ _ he0 S h⟩
    · exact h.elim
  | n + 1, listed, st, k, ρ, a, w, he0, S, hS, h, hk => by
    unfold runDraw at h
    split at h
    · rename_i hr; exact wpAnyH_done hr (hk _ _ _ _ he0 S h) _
    · rename_i r rs hr
      split at h
      · rename_i i hi
        split at h
        · exact h.elim
        · rename_i o ho
          split at h
          · rename_i hg
            split at h
            · rename_i hc
              simp only [Bool.and_eq_true] at hc
              obtain ⟨hcq, hfree⟩ := hc
              have hcon := hcq.1
              have hm : MemQ false ρ masked w := ⟨fun i b hb => by
                obtain ⟨r, hr, hbody⟩ := hS i b hb
                exact ⟨r, he0 _ _ hr, hbody.mono he0⟩, fun h => nomatch h⟩
              have hst : opStab { st with mem := masked } o = true → false = true := fun he => by
                have hq := hcq.2
                unfold quietOK at hq
                simp only [Bool.and_eq_true, Bool.not_eq_true'] at hq
                exact hq.2.1 ▸ he
              obtain ⟨s, y, hy, hry, hh⟩ := valOp_sound (st := { st with mem := masked }) S.tmps hm hst h
              obtain ⟨st', S', hh'⟩ := decideTmp_sim (S.put hry o.dst) hh
              refine wpAnyH_take ho hsel hfree hcon (fun c a w hq => absurd hq (hQ _ _ _)) (.inl ⟨guardB_sound S.tmps hg, fun w' hS' => hy w' ⟨fun i b hb => ?_, fun h => nomatch h⟩⟩) hS (runDraw_sound hng hcall hsel hmask hdom hlo hQ n he0 S' hS hh' hk)
              obtain ⟨r, hr, hbody⟩ := hS' i b hb
              exact ⟨r, he0 _ _ hr, hbody.mono he0⟩
            · exact h.elim
          · rename_i hg
            split at h
            · rename_i hc
              simp only [Bool.and_eq_true] at hc
              exact wpAnyH_take ho hsel hc.2 hc.1 (fun c a w hq => absurd hq (hQ _ _ _)) (.inr ⟨guardB_sound S.tmps hg, rfl⟩) hS (runDraw_sound hng hcall hsel hmask hdom hlo hQ n he0 (S.put (by simp [Rel]) _) hS h hk)
            · exact h.elim
          · exact h.elim
      · refine wpAnyH_all hr (by simp) ?_
        have hall : ∀ (l : List Nat) (f : Nat → Tr α), (allOf l f).holds R → ∀ i ∈ l, (f i).holds R := by
          intro l
          induction l with
          | nil => intro f _ i hi; cases hi
          | cons x l ih =>
            intro f hf i hi
            cases l with
            | nil =>
              simp only [List.mem_singleton] at hi
              subst hi; exact hf
            | cons x' l' =>
              obtain ⟨h1, h2⟩ := hf
              rcases List.mem_cons.1 hi with rfl | hi
              · exact h1
              · exact ih f h2 i hi
        intro i hi
        have hi' := hall _ _ h i hi
        split at hi'
        · exact hi'.elim
        · rename_i o ho
          split at hi'
          · rename_i hg
            have hw := guardB_sound S.tmps hg
            unfold wpOp
            rw [ho]
            simp only [hw, if_true]
            refine .inl (stepOp_sound hng hcall S hi' ?_)
            intro st' ρ' a' w' he S' hh
            obtain ⟨hkeep, hh⟩ := hh
            obtain ⟨st'', S'', hh''⟩ := decideTmp_sim S' (hh hkeep)
            have hS' := masked_later hmask hdom (he0.trans he) hlo hS S'.mem.memB hkeep
            exact ⟨hS', runDraw_sound hng hcall hsel hmask hdom hlo hQ n (he0.trans he) S'' hS' hh'' hk⟩
          · rename_i hg
            have hw := guardB_sound S.tmps hg
            unfold wpOp
            rw [ho]
            simp only [hw, Bool.false_eq_true, if_false]
            exact ⟨hS, runDraw_sound hng hcall hsel hmask hdom hlo hQ n he0 (S.put (by simp [Rel]) _) hS hi' hk⟩
          · exact hi'.elim
def NoPan (Q : Exit → Act → World → Prop) : Exit → Act → World → Prop
  | .panic _, _, _ => False
  | e, a, w => Q e a w
def resF (tmps : Array Value) : ResultVar → Sem Value
  | .tmp t => pure (tmps.getD t undef)
  | .cell b t => do loadVar t (← asAddr (tmps.getD b undef))
theorem results_eq (fn : Func) (tmps : Array Value) : results fn tmps = (do let vs ← fn.results.mapM (resF tmps); pure (if h : vs.size = 1 then vs[0] else .tuple vs)) := by
  have e : (fun (r : ResultVar) => (match r with | .tmp t => pure (tmps.getD t undef) | .cell b t => do loadVar t (← asAddr (tmps.getD b undef)) : Sem Value)) = resF tmps := funext fun r => by cases r <;> rfl
  rw [← e]
  rfl
theorem res_one {ρ : Loc} {st : St} {a : Act} {w : World} (S : Sim ρ w0 X st a w) {r : ResultVar} {s : SV} (h : resVal P st r = some s) :
    ∃ y, ((resF a.tmps r).run P w = .ok y w) ∧ Rel ρ s y := by
  have hg : ∀ t, Rel ρ (st.tmps.getD t (.v undef)) (a.tmps.getD t undef) := fun t => by
    have := S.tmps.getD t
    simpa [List.getD_eq_getElem?_getD, Array.getD_eq_getD_getElem?] using this
  cases r with
  | tmp t =>
    simp only [resVal, Option.some.injEq] at h
    subst h
    exact ⟨_, rfl, hg t⟩
  | cell b t =>
    simp only [resVal] at h
    obtain ⟨y, hy, hr⟩ := loadAt_sound S.mem.memB (hg b) h
    refine ⟨y, ?_, hr⟩
    have hrel := hg b
    show (do loadVar t (← asAddr (a.tmps.getD b undef)) : Sem Value).run P w = .ok y w
    revert h hy hrel
    generalize st.tmps.getD b (.v undef) = sb
    generalize a.tmps.getD b undef = yb
    intro h hy hrel
    cases sb <;> simp only [loadAtSV] at h <;> try cases h
    simp only [Rel] at hrel
    obtain ⟨r, _, rfl⟩ := hrel
    simpa [asAddr, Instr.loadAt, Instr.sureAddr] using hy
theorem res_sound {ρ : Loc} {st : St} {a : Act} {w : World} (S : Sim ρ w0 X st a w) {fn : Func} {s : SV} (h : resSV P st fn.results.toList = some s) :
    ∃ y, (results fn a.tmps).run P w = .ok y w ∧ Rel ρ s y := by
  have key : ∀ (rs : List ResultVar) (ss : List SV), resVals P st rs = some ss →
      ∃ ys, (rs.mapM (resF a.tmps)).run P w = .ok ys w ∧ RelL ρ ss ys := by
    intro rs
    induction rs with
    | nil => intro ss h; simp [resVals] at h; subst h; exact ⟨[], rfl, .nil⟩
    | cons r rs ih =>
      intro ss h
      simp only [resVals] at h
      split at h
      · rename_i s0 ss0 h1 h2
        cases h
        obtain ⟨y, hy, hr⟩ := res_one S h1
        obtain ⟨ys, hys, hrs⟩ := ih _ h2
        refine ⟨y :: ys, ?_, .cons hr hrs⟩
        rw [List.mapM_cons]
        simp only [Sem.run_bind]
        rw [hy]
        simp only [Result.andThen_ok]
        rw [hys]
        rfl
      · cases h
  unfold resSV at h
  have hrun : ∀ (ys : List Value), (fn.results.toList.mapM (resF a.tmps)).run P w = .ok ys w →
      (results fn a.tmps).run P w = .ok (if h : ys.toArray.size = 1 then ys.toArray[0] else .tuple ys.toArray) w := by
    intro ys hys
    rw [results_eq, Array.mapM_eq_mapM_toList]
    simp only [Sem.run_bind, Sem.run_map]
    rw [hys]
    rfl
  split at h
  · rename_i s1 hr
    cases h
    obtain ⟨ys, hys, hrs⟩ := key _ _ hr
    obtain ⟨y, ys', rfl, h1, h2⟩ := hrs.cons_inv
    simp only [RelL] at h2; subst h2
    exact ⟨y, by rw [hrun _ hys]; rfl, h1⟩
  · rename_i ss hne hr
    cases h
    obtain ⟨ys, hys, hrs⟩ := key _ _ hr
    refine ⟨.tuple ys.toArray, ?_, by simp only [Rel]; exact ⟨ys, hrs, rfl⟩⟩
    rw [hrun _ hys]
    rw [dif_neg]
    intro hsz
    have hl := hrs.length
    match ss, hl with
    | [s1], _ => exact hne s1 rfl
    | [], hl => simp at hl hsz; omega
    | _ :: _ :: _, hl => simp at hl hsz; omega
  · cases h
theorem refine1_sim {ρ : Loc} {st : St} {a : Act} {w : World} (S : Sim ρ w0 X st a w) {c : Operand} {b : Bool} (h : ev st c = .v (.bool b)) : Sim ρ w0 X (refine1 st c b) a w := by
  cases c with
  | tmp d =>
    simp only [refine1]
    have hr := S.ev (.tmp d)
    rw [h] at hr
    simp only [Rel, Act.eval] at hr
    have := S.put (ρ := ρ) (s := .v (.bool b)) (y := .bool b) (by simp [Rel]) (some d)
    have e : a.put (some d) (.bool b) = a := by
      cases a with
      | mk tmps defers =>
        simp only [Act.put]
        congr 1
        apply Array.ext'
        simp only [Array.toList_setIfInBounds]
        have hr3 : tmps.getD d undef = .bool b := hr
        apply List.ext_getElem?
        intro i
        by_cases hi : d = i
        · subst hi
          by_cases hlt : d < tmps.toList.length
          · rw [List.getElem?_set_self hlt, ← hr3]
            have hlt' : d < tmps.size := by simpa using hlt
            simp [Array.getD, hlt']
          · rw [List.set_eq_of_length_le (Nat.le_of_not_lt hlt)]
        · rw [List.getElem?_set_ne hi]
    rw [e] at this; exact this
  | const _ => exact S
  | global _ => exact S
  | func _ => exact S
theorem exec_sound (hng : NoNG P) (hmix : P.follows .mixedOrders = true) {Γ : Env} (hΓ : EnvOK P Γ) : ∀ (n : Nat) (fid : FuncId) (c : Code) {st : St} {k : Ex → St → Tr α} {ρ : Loc} {a : Act} {w : World} {Q : Exit → Act → World → Prop}, Sim ρ w0 X st a w → (exec P Γ n fid c st k).holds R →
    (∀ e st' ρ' a' w', Ext ρ ρ' → Sim ρ' w0 X st' a' w' → (k e st').holds R → Q e.to a' w') → c.wp P Q a w
  | 0, fid, c, st, k, ρ, a, w, Q, S, h, hk => h.elim
  | n + 1, fid, c, st, k, ρ, a, w, Q, S, h, hk => by
    have hcall : CallFOK P w0 X R (callX P Γ n) := by
      intro f args mem k' ρ w ys hm hf hargs h
      unfold callX at h
      split at h
      · exact h.elim
      · rename_i fn hfn
        split at h
        · exact h.elim
        · rename_i cb hb
          refine ⟨⟨fn, cb, hfn, hb⟩, ?_⟩
          split at h
          · rename_i tr htr
            rw [Tr.holds_bind] at h
            exact hΓ f args mem tr htr ρ w0 X w ys _ hm hf hargs h
          · refine calls_of_wp hfn hb ?_
            have S' : Sim ρ w0 X ⟨args ++ List.replicate (fn.ntmps - args.length) (.v undef), mem⟩ { tmps := ys.toArray ++ Array.replicate (fn.ntmps - ys.toArray.size) undef, defers := [] } w := by
              refine ⟨rfl, ?_, hm, hf⟩
              have hl := hargs.length
              simpa [hl] using hargs.append (RelL.replicate (ρ := ρ) (s := .v undef) (y := undef) (by simp [Rel]) (fn.ntmps - args.length))
            refine exec_sound hng hmix hΓ n f cb S' h ?_
            intro e st' ρ' a' w' he S'' hh
            have fin : ∀ (hh : (match resSV P st' fn.results.toList with | some s => k' s st'.mem | none => .fail 6 : Tr α).holds R), a'.defers = [] ∧ ∃ v, (results fn a'.tmps).run P w' = .ok v w' ∧ CallPost ρ w0 X (fun r => (k' r.1 r.2).holds R) (.returned v) w' := by
              intro hh
              split at hh
              · rename_i s hs
                obtain ⟨y, hy, hr⟩ := res_sound S'' hs
                exact ⟨S''.defers, y, hy, ρ', s, y, st'.mem, rfl, he, hr, S''.mem, S''.frame, hh⟩
              · exact hh.elim
            cases e with
            | exit i => exact hh.elim
            | normal => exact fin hh
            | ret => exact fin hh
    unfold exec at h
    split at h
    · exact wp_skip (hk .normal _ _ _ _ (Ext.refl _) S h)
    · exact wp_label (hk .normal _ _ _ _ (Ext.refl _) S h)
    · exact wp_exit (hk (.exit _) _ _ _ _ (Ext.refl _) S h)
    · exact wp_ret (hk .ret _ _ _ _ (Ext.refl _) S h)
    · rename_i x y
      refine wp_seq (exec_sound hng hmix hΓ n fid x S h ?_)
      intro e st' ρ' a' w' he S' hh
      cases e with
      | normal => exact exec_sound hng hmix hΓ n fid y S' hh fun e st'' ρ'' a'' w'' he' S'' hh' => hk _ _ _ _ _ (he.trans he') S'' hh'
      | exit i => exact hk _ _ _ _ _ he S' hh
      | ret => exact hk _ _ _ _ _ he S' hh
    · rename_i id b
      refine wp_block (exec_sound hng hmix hΓ n fid b S h ?_)
      intro e st' ρ' a' w' he S' hh
      cases e with
      | normal => exact hk .normal _ _ _ _ he S' hh
      | exit i =>
        simp only [Ex.to, Exit.inBlock]
        by_cases hi : i = id
        · rw [if_pos hi]; simp only [hi, if_true] at hh; exact hk .normal _ _ _ _ he S' hh
        · rw [if_neg hi]; simp only [hi, if_false] at hh; exact hk (.exit i) _ _ _ _ he S' hh
      | ret => exact hk .ret _ _ _ _ he S' hh
    · rename_i b
      split at h
      · obtain ⟨Y, p, out, hgood, hout⟩ := h
        exact hgood ρ w0 X a w Q S fun y hy ρ' a' w' he S' => hk _ _ _ _ _ he S' (hout y hy)
      · rename_i hcut
        refine wp_loop_rounds (n + 1) ?_
        have key : ∀ (m : Nat), m ≤ n → ∀ {st : St} {ρ1 : Loc} {a : Act} {w : World}, Ext ρ ρ1 → Sim ρ1 w0 X st a w → (exec P Γ m fid b st fun e st' => match e with | .normal => exec P Γ m fid (.loop b) st' k | e => k e st').holds R → Code.rounds P b Q (m + 1) a w := by
          intro m
          induction m with
          | zero => intro _ st ρ1 a w _ _ h; exact h.elim
          | succ m ih =>
            intro hm st ρ1 a w he1 S h
            rw [rounds_succ]
            refine exec_sound hng hmix hΓ (m + 1) fid b S h ?_
            intro e st' ρ' a' w' he S' hh
            cases e with
            | normal => exact ih (by omega) (he1.trans he) S' (by simp only [exec, hcut] at hh; exact hh)
            | exit i => exact hk _ _ _ _ _ (he1.trans he) S' hh
            | ret => exact hk _ _ _ _ _ (he1.trans he) S' hh
        exact key n (Nat.le_refl _) (Ext.refl _) S h
    · rename_i c x y
      split at h
      · rename_i b hb
        have hc := S.ev c
        rw [hb] at hc
        simp only [Rel] at hc
        cases b with
        | true => exact wp_cond_true hc (exec_sound hng hmix hΓ n fid x (refine1_sim S hb) (h.1 rfl) hk)
        | false => exact wp_cond_false hc (exec_sound hng hmix hΓ n fid y (refine1_sim S hb) (h.2 rfl) hk)
      · exact h.elim
    · rename_i id ops draw
      cases draw with
      | false => exact wp_region_list (runOps_sound hng hcall ops ops.toList S h fun st' ρ' a' w' he S' hh => hk .normal _ _ _ _ he S' hh)
      | true =>
        simp only at h
        split at h
        · rename_i hc
          simp only [Bool.and_eq_true] at hc
          have hS0 : MemQ false ρ (maskMem (Γ.wr fid id ++ scanWr P ops.toList st) 0 st.mem) { w with drawn := w.drawn + 1 } := by
            refine ⟨fun i b hb => ?_, fun h => nomatch h⟩
            rw [maskMem_get] at hb
            obtain ⟨b', hb', hbe⟩ := Option.map_eq_some_iff.1 hb
            obtain ⟨r, hr, hbody⟩ := S.mem.memB i b' hb'
            refine ⟨r, hr, ?_⟩
            split at hbe
            · subst hbe; trivial
            · subst hbe; exact hbody.of_block (fun _ => rfl) (fun _ _ => rfl)
          have Sd : Sim ρ w0 X st a { w with drawn := w.drawn + 1 } := ⟨S.defers, S.tmps, S.mem.later (fun _ _ => rfl) (Nat.le_refl _), ⟨S.frame.os, S.frame.tape, S.frame.output, S.frame.size, S.frame.block⟩⟩
          have hdom : ∀ i, i < st.mem.length → ∃ r, ρ i = some r := fun i hi => by
            obtain ⟨r, hr, _⟩ := S.mem.memB i _ (List.getElem?_eq_getElem hi)
            exact ⟨r, hr⟩
          have := wp_region_held (id := id) (P := P) (Q := NoPan Q) hmix (runDraw_sound hng hcall hc.1 rfl hdom hc.2 (Q := NoPan Q) (fun _ _ _ hq => hq) ops.size (Ext.refl _) Sd hS0 h fun st' ρ' a' w' he S' hh => hk .normal _ _ _ _ he S' hh)
          exact wp_mono this fun e a w hq => by cases e <;> first | exact hq | exact hq.elim
        · exact h.elim
    · exact h.elim
/-- a function's body, run -/
def bodyX (P : Program) (Γ : Env) (n : Nat) : CallF (SV × List Blk) := fun f args mem k' =>
  match P.funcs[f]? with
  | none => .fail 3
  | some fn => match fn.body with
    | none => .fail 4
    | some c => exec P Γ n f c ⟨args ++ List.replicate (fn.ntmps - args.length) (.v undef), mem⟩ fun e st' => match e with
      | .exit _ => .fail 5
      | _ => match resSV P st' fn.results.toList with
        | some s => k' s st'.mem
        | none => .fail 6
/-- A call, by its run. -/
theorem calls_of_body (hng : NoNG P) (hmix : P.follows .mixedOrders = true) {Γ : Env} (hΓ : EnvOK P Γ) (n : Nat) (f : FuncId) {fn : Func} {c : Code} (hfn : P.funcs[f]? = some fn) (hb : fn.body = some c) {args : List SV} {mem : List Blk} {ρ : Loc} {w : World} {ys : List Value} {R : SV × List Blk → Prop}
    (hm : MemOK ρ w0 X mem w) (hf : Frm w0 X w) (hargs : RelL ρ args ys) (h : (bodyX P Γ n f args mem fun s mem => .ok (s, mem)).holds R) : Calls P f ys.toArray w (CallPost ρ w0 X R) := by
  unfold bodyX at h
  simp only [hfn, hb] at h
  refine calls_of_wp hfn hb ?_
  have S' : Sim ρ w0 X ⟨args ++ List.replicate (fn.ntmps - args.length) (.v undef), mem⟩ { tmps := ys.toArray ++ Array.replicate (fn.ntmps - ys.toArray.size) undef, defers := [] } w := by
    refine ⟨rfl, ?_, hm, hf⟩
    have hl := hargs.length
    simpa [hl] using hargs.append (RelL.replicate (ρ := ρ) (s := .v undef) (y := undef) (by simp [Rel]) (fn.ntmps - args.length))
  refine exec_sound hng hmix hΓ n f c S' h ?_
  intro e st' ρ' a' w' he S'' hh
  have fin : ∀ (hh : (match resSV P st' fn.results.toList with | some s => .ok (s, st'.mem) | none => .fail 6 : Tr (SV × List Blk)).holds R), a'.defers = [] ∧ ∃ v, (results fn a'.tmps).run P w' = .ok v w' ∧ CallPost ρ w0 X R (.returned v) w' := by
    intro hh
    split at hh
    · rename_i s hs
      obtain ⟨y, hy, hr⟩ := res_sound S'' hs
      exact ⟨S''.defers, y, hy, ρ', s, y, st'.mem, rfl, he, hr, S''.mem, S''.frame, hh⟩
    · exact hh.elim
  cases e with
  | exit i => exact hh.elim
  | normal => exact fin hh
  | ret => exact fin hh
theorem calls_of_exec (hng : NoNG P) (hmix : P.follows .mixedOrders = true) {Γ : Env} (hΓ : EnvOK P Γ) (n : Nat) (f : FuncId) {fn : Func} {c : Code} (hfn : P.funcs[f]? = some fn) (hb : fn.body = some c) (hno : ∀ args mem, Γ.call f args mem = none) {args : List SV} {mem : List Blk} {ρ : Loc} {w : World} {ys : List Value} {R : SV × List Blk → Prop}
    (hm : MemOK ρ w0 X mem w) (hf : Frm w0 X w) (hargs : RelL ρ args ys) (h : (callX P Γ n f args mem fun s mem => .ok (s, mem)).holds R) : Calls P f ys.toArray w (CallPost ρ w0 X R) :=
  calls_of_body hng hmix hΓ n f hfn hb hm hf hargs (by
    unfold callX at h
    simp only [hfn, hb, hno] at h
    unfold bodyX
    simp only [hfn, hb]
    exact h)
end

/-! ## 9. Going along a tree -/
inductive Step where
  | run (n : Nat)
  | yes
  | no
structure Path (α : Type) where
  conds : List (Bool × Bool)
  xs : List (List Blk)
  ys : List (List Blk)
  rest : Tr α
def Tr.runN {α : Type} : Nat → Tr α → Path α
  | 0, t => ⟨[], [], [], t⟩
  | n + 1, .br true t _ => Tr.runN n t
  | n + 1, .br false _ e => Tr.runN n e
  | n + 1, .same x y k => let p := Tr.runN n k; ⟨p.conds, x :: p.xs, y :: p.ys, p.rest⟩
  | _ + 1, t => ⟨[], [], [], .fail 98⟩
def Tr.go {α : Type} : List Step → Tr α → Path α
  | [], t => ⟨[], [], [], t⟩
  | .run n :: ss, t => let p := Tr.runN n t; let q := Tr.go ss p.rest; ⟨q.conds, p.xs ++ q.xs, p.ys ++ q.ys, q.rest⟩
  | .yes :: ss, .br c t _ => let q := Tr.go ss t; ⟨(c, true) :: q.conds, q.xs, q.ys, q.rest⟩
  | .no :: ss, .br c _ e => let q := Tr.go ss e; ⟨(c, false) :: q.conds, q.xs, q.ys, q.rest⟩
  | _, _ => ⟨[], [], [], .fail 99⟩
theorem Tr.runN_holds {α : Type} {Q : α → Prop} : ∀ (n : Nat) (t : Tr α), (Tr.runN n t).xs = (Tr.runN n t).ys → (Tr.runN n t).rest.holds Q → t.holds Q
  | 0, t, _, h => h
  | n + 1, .br true t e, hs, h => ⟨fun _ => Tr.runN_holds n t hs h, (fun c => by cases c)⟩
  | n + 1, .br false t e, hs, h => ⟨(fun c => by cases c), fun _ => Tr.runN_holds n e hs h⟩
  | n + 1, .same x y k, hs, h => by
    simp only [Tr.runN, List.cons.injEq] at hs h
    exact ⟨hs.1, fun _ => Tr.runN_holds n k hs.2 h⟩
  | n + 1, .ok a, _, h => by simp [Tr.runN, Tr.holds] at h
  | n + 1, .both .., _, h => by simp [Tr.runN, Tr.holds] at h
  | n + 1, .need .., _, h => by simp [Tr.runN, Tr.holds] at h
  | n + 1, .all .., _, h => by simp [Tr.runN, Tr.holds] at h
  | n + 1, .lp .., _, h => by simp [Tr.runN, Tr.holds] at h
  | n + 1, .fail _, _, h => by simp [Tr.runN, Tr.holds] at h
theorem Tr.runN_len {α : Type} : ∀ (n : Nat) (t : Tr α), (Tr.runN n t).xs.length = (Tr.runN n t).ys.length
  | 0, t => rfl
  | n + 1, .br true t e => Tr.runN_len n t
  | n + 1, .br false t e => Tr.runN_len n e
  | n + 1, .same x y k => by simp [Tr.runN, Tr.runN_len n k]
  | n + 1, .ok a => rfl
  | n + 1, .both .. => rfl
  | n + 1, .need .. => rfl
  | n + 1, .all .. => rfl
  | n + 1, .lp .. => rfl
  | n + 1, .fail _ => rfl
theorem Tr.go_holds {α : Type} {Q : α → Prop} : ∀ (ss : List Step) (t : Tr α), (Tr.go ss t).xs = (Tr.go ss t).ys → (∀ c ∈ (Tr.go ss t).conds, c.1 = c.2) → (Tr.go ss t).rest.holds Q → t.holds Q
  | [], t, _, _, h => h
  | .run n :: ss, t, hs, hc, h => by
    simp only [Tr.go] at hs hc h
    obtain ⟨h1, h2⟩ := List.append_inj hs (Tr.runN_len n t)
    exact Tr.runN_holds n t h1 (Tr.go_holds ss _ h2 hc h)
  | .yes :: ss, .br c t e, hs, hc, h => by
    simp only [Tr.go] at hs hc h
    have hcc := hc (c, true) (by simp)
    simp only at hcc
    exact ⟨fun _ => Tr.go_holds ss t hs (fun x hx => hc x (by simp [hx])) h, fun hf => by rw [hcc] at hf; cases hf⟩
  | .no :: ss, .br c t e, hs, hc, h => by
    simp only [Tr.go] at hs hc h
    have hcc := hc (c, false) (by simp)
    simp only at hcc
    exact ⟨(fun hf => by rw [hcc] at hf; cases hf), fun _ => Tr.go_holds ss e hs (fun x hx => hc x (by simp [hx])) h⟩
  | .yes :: ss, .ok a, hs, hc, h => h.elim
  | .yes :: ss, .both .., hs, hc, h => h.elim
  | .yes :: ss, .need .., hs, hc, h => h.elim
  | .yes :: ss, .same .., hs, hc, h => h.elim
  | .yes :: ss, .all .., hs, hc, h => h.elim
  | .yes :: ss, .lp .., hs, hc, h => h.elim
  | .yes :: ss, .fail _, hs, hc, h => h.elim
  | .no :: ss, .ok a, hs, hc, h => h.elim
  | .no :: ss, .both .., hs, hc, h => h.elim
  | .no :: ss, .need .., hs, hc, h => h.elim
  | .no :: ss, .same .., hs, hc, h => h.elim
  | .no :: ss, .all .., hs, hc, h => h.elim
  | .no :: ss, .lp .., hs, hc, h => h.elim
  | .no :: ss, .fail _, hs, hc, h => h.elim
def Conds : List (Bool × Bool) → Prop
  | [] => True
  | c :: cs => c.1 = c.2 ∧ Conds cs
theorem Conds.mem : ∀ {cs : List (Bool × Bool)}, Conds cs → ∀ c ∈ cs, c.1 = c.2
  | _ :: _, ⟨h, hs⟩, c, hc => by
    rcases List.mem_cons.1 hc with rfl | hc
    · exact h
    · exact hs.mem c hc
/-- along one way to what is left -/
theorem Tr.along {α : Type} {Q : α → Prop} {t : Tr α} (ss : List Step) {cs : List (Bool × Bool)} (hc : (t.go ss).conds = cs) (hs : (t.go ss).xs = (t.go ss).ys) (h : Conds cs) (hr : (t.go ss).rest.holds Q) : t.holds Q :=
  Tr.go_holds ss t hs (fun c hm => (hc ▸ h).mem c hm) hr
def Tr.leaf? {α β : Type} (f : α → β) : Tr α → Option β
  | .ok a => some (f a)
  | _ => none
theorem Tr.leaf_holds {α β : Type} {Q : α → Prop} {t : Tr α} {f : α → β} {y : β} (h : t.leaf? f = some y) (hq : ∀ a, f a = y → Q a) : t.holds Q := by
  cases t <;> simp [Tr.leaf?] at h
  exact hq _ h
/-- .. to a leaf, of which a part is looked at -/
theorem Tr.end_ {α β : Type} {Q : α → Prop} {t : Tr α} (ss : List Step) {cs : List (Bool × Bool)} (f : α → β) {y : β} (hc : ((t.go ss).conds, (t.go ss).xs, (t.go ss).rest.leaf? f) = (cs, (t.go ss).ys, some y)) (h : Conds cs) (hq : ∀ a, f a = y → Q a) : t.holds Q := by
  simp only [Prod.mk.injEq] at hc
  exact Tr.along ss hc.1 hc.2.1 h (Tr.leaf_holds hc.2.2 hq)
/-- .. to a demand -/
def Tr.needK {α : Type} : Tr α → Tr α
  | .need _ k => k
  | _ => .fail 97
def Tr.needP {α : Type} : Tr α → Option Prop
  | .need p _ => some p
  | _ => none
theorem Tr.need_holds {α : Type} {Q : α → Prop} {t : Tr α} {p : Prop} (h : t.needP = some p) (hp : p) (hk : t.needK.holds Q) : t.holds Q := by
  cases t with
  | need p' k => simp only [Tr.needP, Option.some.injEq] at h; subst h; exact ⟨hp, fun _ => hk⟩
  | _ => simp [Tr.needP] at h
theorem Tr.need_ {α : Type} {Q : α → Prop} {t : Tr α} (ss : List Step) {cs : List (Bool × Bool)} {p : Prop} (hc : ((t.go ss).conds, (t.go ss).xs, (t.go ss).rest.needP) = (cs, (t.go ss).ys, some p)) (h : Conds cs) (hp : p) (hk : (t.go ss).rest.needK.holds Q) : t.holds Q := by
  simp only [Prod.mk.injEq] at hc
  exact Tr.along ss hc.1 hc.2.1 h (Tr.need_holds hc.2.2 hp hk)
/-- .. to a way that can't be -/
theorem Tr.never {α : Type} {Q : α → Prop} {t : Tr α} (ss : List Step) {cs : List (Bool × Bool)} (hc : ((t.go ss).conds, (t.go ss).xs) = (cs, (t.go ss).ys)) (h : Conds cs → False) (hh : Conds cs) : t.holds Q := (h hh).elim
def Tr.both1 {α : Type} : Tr α → Tr α
  | .both t _ => t
  | _ => .fail 96
def Tr.both2 {α : Type} : Tr α → Tr α
  | .both _ t => t
  | _ => .fail 95
theorem Tr.both_holds {α : Type} {Q : α → Prop} {t : Tr α} (h1 : t.both1.holds Q) (h2 : t.both2.holds Q) : t.holds Q := by
  cases t <;> first | exact h1.elim | exact ⟨h1, h2⟩
/-- .. to a cut loop -/
def Tr.lpK {α : Type} (e : Ex) (st : St) : Tr α → Tr α
  | .lp _ _ _ k => k e st
  | _ => .fail 94
def Tr.lpB {α : Type} : Tr α → Code
  | .lp _ b _ _ => b
  | _ => .skip
def Tr.lpSt {α : Type} : Tr α → St
  | .lp _ _ st _ => st
  | _ => ⟨[], []⟩
def Tr.lpIs {α : Type} : Tr α → Option Program
  | .lp P _ _ _ => some P
  | _ => none
theorem Tr.lp_holds {α : Type} {Q : α → Prop} {t : Tr α} {P : Program} (h : t.lpIs = some P) {Y : Type} {p : Y → Prop} {out : Y → Ex × St} (hg : LoopSum P t.lpB t.lpSt Y p out) (hk : ∀ y, p y → (t.lpK (out y).1 (out y).2).holds Q) : t.holds Q := by
  cases t <;> simp [Tr.lpIs] at h
  subst h
  exact ⟨Y, p, out, hg, hk⟩
theorem Tr.lp_ {α : Type} {Q : α → Prop} {t : Tr α} (ss : List Step) {cs : List (Bool × Bool)} {P : Program} (hc : ((t.go ss).conds, (t.go ss).xs, (t.go ss).rest.lpIs) = (cs, (t.go ss).ys, some P)) (h : Conds cs) {Y : Type} {p : Y → Prop} {out : Y → Ex × St} (hg : LoopSum P (t.go ss).rest.lpB (t.go ss).rest.lpSt Y p out) (hk : ∀ y, p y → ((t.go ss).rest.lpK (out y).1 (out y).2).holds Q) : t.holds Q := by
  simp only [Prod.mk.injEq] at hc
  exact Tr.along ss hc.1 hc.2.1 h (Tr.lp_holds hc.2.2 hg hk)
/-- .. to a leaf, whole -/
def Tr.isOk {α : Type} : Tr α → Bool
  | .ok _ => true
  | _ => false
def Tr.get {α : Type} (d : α) : Tr α → α
  | .ok a => a
  | _ => d
theorem Tr.fin_ {α : Type} {Q : α → Prop} {t : Tr α} (ss : List Step) {cs : List (Bool × Bool)} (d : α) (hc : ((t.go ss).conds, (t.go ss).xs, (t.go ss).rest.isOk) = (cs, (t.go ss).ys, true)) (h : Conds cs) (hq : Q ((t.go ss).rest.get d)) : t.holds Q := by
  simp only [Prod.mk.injEq] at hc
  refine Tr.along ss hc.1 hc.2.1 h ?_
  revert hq
  generalize (t.go ss).rest = r at hc
  cases r <;> simp [Tr.isOk] at hc
  exact id
/-- .. to a value that nothing is known of, or but a word -/
def Tr.allT {α : Type} : Tr α → Type
  | .all X _ _ => X
  | _ => Unit
def Tr.allP {α : Type} : (t : Tr α) → t.allT → Prop
  | .all _ p _ => p
  | .ok _ | .br .. | .both .. | .need .. | .same .. | .lp .. | .fail _ => fun _ => True
def Tr.allK {α : Type} : (t : Tr α) → t.allT → Tr α
  | .all _ _ k => k
  | .ok _ | .br .. | .both .. | .need .. | .same .. | .lp .. | .fail _ => fun _ => .fail 93
theorem Tr.all_holds {α : Type} {Q : α → Prop} {t : Tr α} (h : ∀ x : t.allT, t.allP x → (t.allK x).holds Q) : t.holds Q := by
  cases t <;> first | exact h | exact (h () trivial).elim
theorem Tr.all_ {α : Type} {Q : α → Prop} {t : Tr α} (ss : List Step) {cs : List (Bool × Bool)} {X : Type} (hT : (t.go ss).rest.allT = X) {p : X → Prop} (hP : ∀ x, (t.go ss).rest.allP (cast hT.symm x) = p x) (hc : ((t.go ss).conds, (t.go ss).xs) = (cs, (t.go ss).ys)) (h : Conds cs) (hk : ∀ x : X, p x → ((t.go ss).rest.allK (cast hT.symm x)).holds Q) : t.holds Q := by
  subst hT
  simp only [Prod.mk.injEq] at hc
  exact Tr.along ss hc.1 hc.2 h (Tr.all_holds fun x hx => hk x (by rw [← hP x]; exact hx))
theorem show_ {p q : Prop} (h : p = q) (hq : q) : p := h ▸ hq

/-! ## 10. Weaker states, the blocks named anew; a loop -/
section
variable {P : Program} {w0 : World} {X : Lim}
/-- the blocks of a weaker state, each by the block that it was -/
def renLoc (π : List Nat) (ρ : Loc) : Loc := ⟨fun i => match π[i]? with
  | some j => match ρ j with
    | some r => some r
    | none => some ⟨0, 0, none, 0⟩
  | none => none, ρ.base⟩
theorem renLoc_at {π : List Nat} {ρ : Loc} {i j : Nat} {r : Place} (hi : π[i]? = some j) (hr : ρ j = some r) : renLoc π ρ i = some r := by simp [renLoc, hi, hr]
theorem renLoc_pad {π : List Nat} {ρ : Loc} {i j : Nat} (hi : π[i]? = some j) (hr : ρ j = none) : renLoc π ρ i = some ⟨0, 0, none, 0⟩ := by simp [renLoc, hi, hr]
mutual
/-- what is owed that a value may be looked at as another one, of blocks named anew; then more -/
def EqsV (m : Nat) (π : List Nat) : SV → SV → Prop → Prop
  | .v (.slice a l c), .oslc b' s' i' l', k => match π[b']? with
    | some j => match decide (m ≤ j) with
      | true => a = none ∧ (l, c) = (0, 0) ∧ (i', l') = (0, 0) ∧ k
      | false => False
    | none => False
  | .v x, .v y, k => x = y ∧ k
  | .v x, .sv c z, k => c.of (.v x) = some z ∧ k
  | .v x, .osv _ _ _ _ _ z, k => x = z.1 ∧ x = .slice none 0 0 ∧ z.2.2.length = 0 ∧ k
  | .sv c x, .sv c' z, k => c'.of (.sv c x) = some z ∧ k
  | .osv _ _ _ _ ks x, .osv _ _ _ _ ks' z, k => (if h : ks = ks' then (h ▸ x : Value × Bool × List (RowT ks')) = z else False) ∧ k
  | .ptr b o, .ptr b' o', k => match π[b']? with
    | some j => (b, o) = (j, o') ∧ k
    | none => False
  | .eptr b s i j, .eptr b' s' i' j', k => match π[b']? with
    | some b'' => (b, s, i, j) = (b'', s', i', j') ∧ k
    | none => False
  | .slc b o l c, .slc b' o' l' c', k => match π[b']? with
    | some b'' => (b, o, l, c) = (b'', o', l', c') ∧ k
    | none => False
  | .eslc b s i l c, .eslc b' s' i' l' c', k => match π[b']? with
    | some b'' => (b, s, i, l, c) = (b'', s', i', l', c') ∧ k
    | none => False
  | .oslc b s i l, .oslc b' s' i' l', k => match π[b']? with
    | some b'' => (b, s, i, l) = (b'', s', i', l') ∧ k
    | none => False
  | .zslc b, .zslc b', k => match π[b']? with
    | some j => b = j ∧ k
    | none => False
  | .fn f cs, .fn f' cs', k => f = f' ∧ EqsL m π cs cs' k
  | .agg cs, .agg cs', k => EqsL m π cs cs' k
  | .tup cs, .tup cs', k => EqsL m π cs cs' k
  | .any, .any, k => k
  | _, _, _ => False
def EqsL (m : Nat) (π : List Nat) : List SV → List SV → Prop → Prop
  | [], [], k => k
  | s :: ss, t :: ts, k => EqsV m π s t (EqsL m π ss ts k)
  | _, _, _ => False
end
theorem eqs_to_v {m : Nat} {π : List Nat} {s : SV} {y : Value} {k : Prop} (h : EqsV m π s (.v y) k) : s = .v y ∧ k := by
  cases s with
  | v x => cases x <;> (simp only [EqsV] at h; exact ⟨by rw [h.1], h.2⟩)
  | _ => simp only [EqsV] at h
theorem eqs_of_v {m : Nat} {π : List Nat} {x : Value} {t : SV} {k : Prop} (h : EqsV m π (.v x) t k) : (t = .v x ∧ k) ∨ (∃ c z, t = .sv c z ∧ c.of (.v x) = some z ∧ k) ∨ (∃ b i j e ks, ∃ z : Value × Bool × List (RowT ks), t = .osv b i j e ks z ∧ x = z.1 ∧ x = .slice none 0 0 ∧ z.2.2.length = 0 ∧ k) ∨ ∃ b' s' j, t = .oslc b' s' 0 0 ∧ π[b']? = some j ∧ m ≤ j ∧ x = .slice none 0 0 ∧ k := by
  cases t with
  | v y => have := eqs_to_v h; exact .inl ⟨by rw [this.1], this.2⟩
  | oslc b' s' i' l' =>
    cases x <;> simp only [EqsV] at h
    split at h
    · rename_i j hj
      split at h
      · rename_i hm
        obtain ⟨h1, h2, h3, h4⟩ := h
        simp only [Prod.mk.injEq] at h2 h3
        obtain ⟨rfl, rfl⟩ := h2
        obtain ⟨rfl, rfl⟩ := h3
        subst h1
        exact .inr (.inr (.inr ⟨b', s', j, rfl, hj, by simpa using hm, rfl, h4⟩))
      · exact h.elim
    · exact h.elim
  | sv c z =>
    have h : c.of (.v x) = some z ∧ k := by cases x <;> simpa only [EqsV] using h
    exact .inr (.inl ⟨c, z, rfl, h⟩)
  | osv b i j e ks z =>
    have h : x = z.1 ∧ x = .slice none 0 0 ∧ z.2.2.length = 0 ∧ k := by cases x <;> simpa only [EqsV] using h
    exact .inr (.inr (.inl ⟨b, i, j, e, ks, z, rfl, h⟩))
  | _ => cases x <;> simp only [EqsV] at h
mutual
theorem EqsV.rel {m : Nat} {π : List Nat} {ρ : Loc} (hd : ∀ i, m ≤ i → ρ i = none) : ∀ (s t : SV) (k : Prop), EqsV m π s t k → k ∧ ∀ y, Rel ρ s y → Rel (renLoc π ρ) t y
  | .v x, t, k, h => by
    rcases eqs_of_v h with ⟨rfl, hk⟩ | ⟨c, z, rfl, hz, hk⟩ | ⟨b, i, j, e, ks, z, rfl, h1, h2, h3, hk⟩ | ⟨b', s', j, rfl, hj, hm, rfl, hk⟩
    · exact ⟨hk, fun y hy => by simpa only [Rel] using hy⟩
    · exact ⟨hk, fun y hy => by
        have := CK.of_spec hz hy
        unfold Rel; exact this⟩
    · refine ⟨hk, fun y hy => ?_⟩
      simp only [Rel] at hy ⊢
      refine ⟨hy.trans h1, none, 0, ?_, fun h => by omega⟩
      rw [← h1, h2, h3]
    · refine ⟨hk, fun y hy => ?_⟩
      simp only [Rel] at hy ⊢
      subst hy
      exact ⟨_, renLoc_pad hj (hd j hm), by simp, fun h => absurd h (Nat.lt_irrefl _)⟩
  | .ptr b o, t, k, h => by
    cases t <;> simp only [EqsV] at h
    split at h
    · rename_i j hj
      obtain ⟨h1, h2⟩ := h
      simp only [Prod.mk.injEq] at h1
      obtain ⟨rfl, rfl⟩ := h1
      refine ⟨h2, fun y hy => ?_⟩
      simp only [Rel] at hy ⊢
      obtain ⟨r, hr, e⟩ := hy
      exact ⟨r, renLoc_at hj hr, e⟩
    · exact h.elim
  | .eptr b s i j, t, k, h => by
    cases t <;> simp only [EqsV] at h
    split at h
    · rename_i j hj
      obtain ⟨h1, h2⟩ := h
      simp only [Prod.mk.injEq] at h1
      obtain ⟨rfl, rfl, rfl, rfl⟩ := h1
      refine ⟨h2, fun y hy => ?_⟩
      simp only [Rel] at hy ⊢
      obtain ⟨r, hr, e⟩ := hy
      exact ⟨r, renLoc_at hj hr, e⟩
    · exact h.elim
  | .slc b o l c, t, k, h => by
    cases t <;> simp only [EqsV] at h
    split at h
    · rename_i j hj
      obtain ⟨h1, h2⟩ := h
      simp only [Prod.mk.injEq] at h1
      obtain ⟨rfl, rfl, rfl, rfl⟩ := h1
      refine ⟨h2, fun y hy => ?_⟩
      simp only [Rel] at hy ⊢
      obtain ⟨r, hr, e⟩ := hy
      exact ⟨r, renLoc_at hj hr, e⟩
    · exact h.elim
  | .eslc b s i l c, t, k, h => by
    cases t <;> simp only [EqsV] at h
    split at h
    · rename_i j hj
      obtain ⟨h1, h2⟩ := h
      simp only [Prod.mk.injEq] at h1
      obtain ⟨rfl, rfl, rfl, rfl, rfl⟩ := h1
      refine ⟨h2, fun y hy => ?_⟩
      simp only [Rel] at hy ⊢
      obtain ⟨r, hr, e⟩ := hy
      exact ⟨r, renLoc_at hj hr, e⟩
    · exact h.elim
  | .oslc b s i l, t, k, h => by
    cases t <;> simp only [EqsV] at h
    split at h
    · rename_i j hj
      obtain ⟨h1, h2⟩ := h
      simp only [Prod.mk.injEq] at h1
      obtain ⟨rfl, rfl, rfl, rfl⟩ := h1
      refine ⟨h2, fun y hy => ?_⟩
      simp only [Rel] at hy ⊢
      obtain ⟨r, hr, e⟩ := hy
      exact ⟨r, renLoc_at hj hr, e⟩
    · exact h.elim
  | .zslc b, t, k, h => by
    cases t <;> simp only [EqsV] at h
    split at h
    · rename_i j hj
      obtain ⟨rfl, h2⟩ := h
      refine ⟨h2, fun y hy => ?_⟩
      simp only [Rel] at hy ⊢
      obtain ⟨r, hr, e⟩ := hy
      exact ⟨r, renLoc_at hj hr, e⟩
    · exact h.elim
  | .fn f cs, t, k, h => by
    cases t <;> simp only [EqsV] at h
    obtain ⟨rfl, h⟩ := h
    obtain ⟨h1, h2⟩ := EqsL.rel hd cs _ _ h
    refine ⟨h1, fun y hy => ?_⟩
    simp only [Rel] at hy ⊢
    obtain ⟨ys, hy, e⟩ := hy
    exact ⟨ys, h2 ys hy, e⟩
  | .agg cs, t, k, h => by
    cases t <;> simp only [EqsV] at h
    obtain ⟨h1, h2⟩ := EqsL.rel hd cs _ _ h
    refine ⟨h1, fun y hy => ?_⟩
    simp only [Rel] at hy ⊢
    obtain ⟨ys, hy, e⟩ := hy
    exact ⟨ys, h2 ys hy, e⟩
  | .tup cs, t, k, h => by
    cases t <;> simp only [EqsV] at h
    obtain ⟨h1, h2⟩ := EqsL.rel hd cs _ _ h
    refine ⟨h1, fun y hy => ?_⟩
    simp only [Rel] at hy ⊢
    obtain ⟨ys, hy, e⟩ := hy
    exact ⟨ys, h2 ys hy, e⟩
  | .any, t, k, h => by
    cases t <;> simp only [EqsV] at h
    exact ⟨h, fun y hy => by simp [Rel]⟩
  | .sv c x, t, k, h => by
    cases t <;> simp only [EqsV] at h
    exact ⟨h.2, fun y hy => by
      have := CK.of_spec h.1 hy
      unfold Rel; exact this⟩
  | .osv b i j e ks x, t, k, h => by
    cases t <;> simp only [EqsV] at h
    obtain ⟨h1, h2⟩ := h
    split at h1
    · rename_i hk
      subst hk
      subst h1
      exact ⟨h2, fun y hy => by simpa only [Rel] using hy⟩
    · exact h1.elim
  | .sptr .., t, k, h => by cases t <;> simp only [EqsV] at h
  | .optr .., t, k, h => by cases t <;> simp only [EqsV] at h
theorem EqsL.rel {m : Nat} {π : List Nat} {ρ : Loc} (hd : ∀ i, m ≤ i → ρ i = none) : ∀ (s t : List SV) (k : Prop), EqsL m π s t k → k ∧ ∀ ys, RelL ρ s ys → RelL (renLoc π ρ) t ys
  | [], t, k, h => by
    cases t <;> simp only [EqsL] at h
    exact ⟨h, fun ys hy => by simpa only [RelL] using hy⟩
  | s :: ss, t, k, h => by
    cases t with
    | nil => simp only [EqsL] at h
    | cons t ts =>
      simp only [EqsL] at h
      obtain ⟨h1, h2⟩ := EqsV.rel hd s t _ h
      obtain ⟨h3, h4⟩ := EqsL.rel hd ss ts _ h1
      refine ⟨h3, fun ys hy => ?_⟩
      obtain ⟨y, ys', rfl, a, b⟩ := hy.cons_inv
      exact .cons (h2 y a) (h4 ys' b)
end
def OwedT (m : Nat) (π : List Nat) : List SV → List SV → Prop → Prop
  | [], [], k => k
  | _ :: ss, .any :: ts, k => OwedT m π ss ts k
  | s :: ss, t :: ts, k => EqsV m π s t (OwedT m π ss ts k)
  | _, _, _ => False
theorem OwedT.rel {m : Nat} {π : List Nat} {ρ : Loc} (hd : ∀ i, m ≤ i → ρ i = none) : ∀ (ss ts : List SV) {k : Prop}, OwedT m π ss ts k → k ∧ ∀ ys, RelL ρ ss ys → RelL (renLoc π ρ) ts ys
  | [], [], k, h => ⟨h, fun ys hy => by simpa only [RelL] using hy⟩
  | s :: ss, t :: ts, k, h => by
    by_cases ht : t = .any
    · subst ht
      have h : OwedT m π ss ts k := h
      obtain ⟨h1, h2⟩ := OwedT.rel hd ss ts h
      refine ⟨h1, fun ys hy => ?_⟩
      obtain ⟨y, ys', rfl, a, b⟩ := hy.cons_inv
      exact .cons (by simp [Rel]) (h2 ys' b)
    · have h : EqsV m π s t (OwedT m π ss ts k) := by
        unfold OwedT at h
        cases t <;> first | exact absurd rfl ht | exact h
      obtain ⟨h1, h2⟩ := EqsV.rel hd s t _ h
      obtain ⟨h3, h4⟩ := OwedT.rel hd ss ts h1
      refine ⟨h3, fun ys hy => ?_⟩
      obtain ⟨y, ys', rfl, a, b⟩ := hy.cons_inv
      exact .cons (h2 y a) (h4 ys' b)
  | [], _ :: _, k, h => by simp [OwedT] at h
  | _ :: _, [], k, h => by simp [OwedT] at h
abbrev nilRows (ks : List CK) : List (RowT ks) := []
/-- what is owed that a block may be looked at as another one -/
def OwedB (m : Nat) (π : List Nat) (x : Option Blk) (c : Blk) (k : Prop) : Prop :=
  match c.body with
  | .dead => k
  | .lit l' => match x with
    | some ⟨rw, .lit l⟩ => rw = c.rw ∧ EqsL m π l l' k
    | _ => False
  | .row n sz g => match x with
    | some b => b.body = .row n sz g ∧ b.rw = c.rw ∧ k
    | none => False
  | .rows ks l => match x with
    | some b => b.body = .rows ks l ∧ b.rw = c.rw ∧ k
    | none => False
  | .own e ks l => match x with
    | some b => b.body = .own e ks l ∧ b.rw = c.rw ∧ k
    | none => l = nilRows ks ∧ k
def OwedM (m : Nat) (π : List Nat) (mem : List Blk) : List Nat → List Blk → Prop → Prop
  | [], [], k => k
  | j :: js, c :: cs, k => OwedB m π mem[j]? c (OwedM m π mem js cs k)
  | _, _, _ => False
/-- is the naming one of the blocks, the first ones as they were? -/
def piOK (m0 : Nat) (π : List Nat) : Bool := (List.range m0).all fun i => π[i]? == some i
/-- no two blocks that live have one name -/
def liveHas (j : Nat) : List Nat → List Blk → Bool
  | j' :: js, c :: cs => (c.body.live && j == j') || liveHas j js cs
  | _, _ => false
def liveN : List Nat → List Blk → Bool
  | j :: js, c :: cs => (!c.body.live || !liveHas j js cs) && liveN js cs
  | _, _ => true
theorem liveHas_spec {j : Nat} : ∀ {js : List Nat} {cs : List Blk}, liveHas j js cs = false → ∀ {k : Nat} {c : Blk}, js[k]? = some j → cs[k]? = some c → c.body.live = false
  | [], _, _, k, c, hk, _ => by simp at hk
  | _ :: _, [], _, k, c, _, hc => by simp at hc
  | j' :: js, c' :: cs, h, 0, c, hk, hc => by
    simp only [liveHas, Bool.or_eq_false_iff, Bool.and_eq_false_iff, beq_eq_false_iff_ne] at h
    simp only [List.getElem?_cons_zero, Option.some.injEq] at hk hc
    subst hk hc
    exact h.1.resolve_right fun e => e rfl
  | j' :: js, c' :: cs, h, k + 1, c, hk, hc => by
    simp only [liveHas, Bool.or_eq_false_iff] at h
    exact liveHas_spec h.2 (by simpa using hk) (by simpa using hc)
theorem liveN_spec : ∀ {π : List Nat} {cs : List Blk}, liveN π cs = true → ∀ {i k x : Nat} {bi bk : Blk}, i < k → π[i]? = some x → π[k]? = some x → cs[i]? = some bi → cs[k]? = some bk → bi.body.live = true → bk.body.live = true → False
  | [], _, _, i, k, x, bi, bk, _, h1, _, _, _, _, _ => by simp at h1
  | _ :: _, [], _, i, k, x, bi, bk, _, _, _, h3, _, _, _ => by simp at h3
  | j :: js, c :: cs, h, 0, k + 1, x, bi, bk, _, h1, h2, h3, h4, h5, h6 => by
    simp only [liveN, Bool.and_eq_true, Bool.or_eq_true, Bool.not_eq_true'] at h
    simp only [List.getElem?_cons_zero, Option.some.injEq] at h1 h3
    subst h1 h3
    rcases h.1 with h | h
    · rw [h5] at h; cases h
    · have := liveHas_spec h (by simpa using h2) (by simpa using h4)
      rw [h6] at this; cases this
  | j :: js, c :: cs, h, i + 1, k + 1, x, bi, bk, hik, h1, h2, h3, h4, h5, h6 => by
    simp only [liveN, Bool.and_eq_true] at h
    exact liveN_spec h.2 (i := i) (k := k) (by omega) (by simpa using h1) (by simpa using h2) (by simpa using h3) (by simpa using h4) h5 h6
  | j :: js, c :: cs, h, i, 0, x, bi, bk, hik, _, _, _, _, _, _ => by omega
theorem Body.hold_live {b : Body} {r : Place} (h : b.hold r) : b.live = true := by cases b <;> first | rfl | exact h.elim
theorem Body.own2_live {b : Body} {k : Nat} (h : k ∈ b.own2) : b.live = true := by cases b <;> first | rfl | cases h
theorem piOK.spec {m0 : Nat} {π : List Nat} (h : piOK m0 π = true) : True ∧ ∀ i, i < m0 → π[i]? = some i := by
  simp only [piOK, List.all_eq_true, List.mem_range, beq_iff_eq] at h
  exact ⟨trivial, h⟩
/-- what is owed for a weaker state, as one proposition that the kernel lays out -/
def Owed (π : List Nat) (st st' : St) : Prop := liveN π st'.mem = true ∧ OwedT st.mem.length π st.tmps st'.tmps (OwedM st.mem.length π st.mem π st'.mem True)
structure Weak (m0 : Nat) (st st' : St) : Prop where
  ex : ∃ π, piOK m0 π = true ∧ Owed π st st'
theorem OwedB.last {d : Nat} {π : List Nat} {x : Option Blk} {c : Blk} {q : Prop} (h : OwedB d π x c q) : q := by
  unfold OwedB at h
  split at h
  · exact h
  · split at h
    · exact (EqsL.rel (ρ := ⟨fun _ => none, fun _ => none⟩) (fun _ _ => rfl) _ _ _ h.2).1
    · exact h.elim
  · split at h
    · exact h.2.2
    · exact h.elim
  · split at h
    · exact h.2.2
    · exact h.elim
  · split at h
    · exact h.2.2
    · exact h.2
theorem OwedM.len {m : Nat} {π : List Nat} {mem : List Blk} : ∀ {js : List Nat} {cs : List Blk} {k : Prop}, OwedM m π mem js cs k → js.length = cs.length
  | [], [], _, _ => rfl
  | j :: js, c :: cs, k, h => by
    have hb : OwedB m π mem[j]? c (OwedM m π mem js cs k) := h
    simp only [List.length_cons]
    rw [OwedM.len hb.last]
  | [], _ :: _, _, h => h.elim
  | _ :: _, [], _, h => h.elim
theorem OwedM.get {m : Nat} {π : List Nat} {mem : List Blk} : ∀ {js : List Nat} {cs : List Blk} {k : Prop}, OwedM m π mem js cs k → k ∧ ∀ (i : Nat) c, cs[i]? = some c → ∃ j, js[i]? = some j ∧ ∃ q : Prop, OwedB m π mem[j]? c q
  | [], [], k, h => ⟨h, fun i c hc => by simp at hc⟩
  | j :: js, c :: cs, k, h => by
    have hb : OwedB m π mem[j]? c (OwedM m π mem js cs k) := h
    have hq : OwedM m π mem js cs k := hb.last
    obtain ⟨h1, h2⟩ := OwedM.get hq
    refine ⟨h1, fun i c' hc => ?_⟩
    cases i with
    | zero => simp at hc; subst hc; exact ⟨j, by simp, _, hb⟩
    | succ i => simpa using h2 i c' (by simpa using hc)
  | [], _ :: _, k, h => h.elim
  | _ :: _, [], k, h => h.elim
/-- a frame of temporaries: all forgotten but for some -/
def slots : Nat → Nat → List (Nat × SV) → List SV
  | 0, _, _ => []
  | n + 1, i, l => ((l.find? fun p => p.1 == i).map (·.2)).getD .any :: slots n (i + 1) l
theorem OwedB.ok {m : Nat} {π : List Nat} {ρ : Loc} (hd : ∀ i, m ≤ i → ρ i = none) {mem : List Blk} (hml : mem.length = m) {w : World} (hm : MemOK ρ w0 X mem w) {j : Nat} {c : Blk} {q : Prop} (h : OwedB m π mem[j]? c q) {i : Nat} (hi : π[i]? = some j) :
    ∃ r, renLoc π ρ i = some r ∧ BodyOK (renLoc π ρ) w c.rw r c.body ∧ (c.body.hold r → ∃ b, mem[j]? = some b ∧ ρ j = some r ∧ b.rw = c.rw ∧ b.body.hold r) ∧ ∀ q ∈ c.body.own2, ∃ b, mem[j]? = some b ∧ b.rw = c.rw ∧ q ∈ b.body.own2 := by
  obtain ⟨rwc, bc⟩ := c
  have place : ∃ r, renLoc π ρ i = some r := by
    cases hr : ρ j with
    | none => exact ⟨_, renLoc_pad hi hr⟩
    | some r => exact ⟨r, renLoc_at hi hr⟩
  have lo0 : ∀ {rw : Bool} {r : Place} {b : Body}, (match b with | .lit _ => False | _ => True) → BodyOK ρ w rw r b → BodyOK (renLoc π ρ) w rw r b := by
    intro rw r b hb h
    cases b with
    | lit cs => exact hb.elim
    | row n sz g =>
      intro k hk
      refine ⟨(h k hk).1, fun j s hj => ?_⟩
      obtain ⟨h0, y, h1, h2, h3⟩ := (h k hk).2 j s hj
      exact ⟨h0, y, h1, Rel.down (n := 0) (ρ' := ρ) (ρ := renLoc π ρ) ⟨fun i hi => absurd hi (Nat.not_lt_zero _), Base.le_refl _⟩ s h0 h2, h3⟩
    | rows ks l => exact h
    | own e ks l => exact h
    | dead => trivial
  cases bc with
  | dead =>
    obtain ⟨r, hr⟩ := place
    exact ⟨r, hr, trivial, (fun h => h.elim), fun q hq => nomatch hq⟩
  | lit l' =>
    unfold OwedB at h
    simp only at h
    split at h
    · rename_i rw l hb
      obtain ⟨rfl, h⟩ := h
      obtain ⟨r, hr, hok, _⟩ := hm.blk j _ hb
      refine ⟨r, renLoc_at hi hr, fun k t hk => ?_, (fun _ => ⟨_, hb, hr, rfl, trivial⟩), fun q hq => nomatch hq⟩
      have key : ∀ (s t : List SV) {q : Prop}, EqsL m π s t q → s.length = t.length ∧ ∀ (k : Nat) a b, s[k]? = some a → t[k]? = some b → ∀ y, Rel ρ a y → Rel (renLoc π ρ) b y := by
        intro s
        induction s with
        | nil => intro t q h; cases t <;> simp only [EqsL] at h; exact ⟨rfl, fun k a b ha => by simp at ha⟩
        | cons s0 ss ih =>
          intro t q h
          cases t with
          | nil => simp only [EqsL] at h
          | cons t0 ts =>
            simp only [EqsL] at h
            obtain ⟨h1, h2⟩ := EqsV.rel hd s0 t0 _ h
            obtain ⟨h3, h4⟩ := ih ts h1
            refine ⟨by simp [h3], fun k a b ha hb => ?_⟩
            cases k with
            | zero => simp at ha hb; subst ha; subst hb; exact h2
            | succ k => exact h4 k a b (by simpa using ha) (by simpa using hb)
      obtain ⟨hl, hk2⟩ := key l l' h
      have hkl : k < l.length := by rw [hl]; exact (List.getElem?_eq_some_iff.1 hk).1
      obtain ⟨y, h1, h2, h3⟩ := hok k _ (List.getElem?_eq_getElem hkl)
      exact ⟨y, h1, hk2 k _ _ (List.getElem?_eq_getElem hkl) hk y h2, h3⟩
    · exact h.elim
  | row n sz g =>
    unfold OwedB at h
    simp only at h
    split at h
    · rename_i b hb
      obtain ⟨he, hrw, _⟩ := h
      obtain ⟨r, hr, hok, _⟩ := hm.blk j _ hb
      rw [he, hrw] at hok
      exact ⟨r, renLoc_at hi hr, lo0 trivial hok, (fun _ => ⟨_, hb, hr, hrw, by rw [he]; trivial⟩), fun q hq => nomatch hq⟩
    · exact h.elim
  | rows ks l =>
    unfold OwedB at h
    simp only at h
    split at h
    · rename_i b hb
      obtain ⟨he, hrw, _⟩ := h
      obtain ⟨r, hr, hok, _⟩ := hm.blk j _ hb
      rw [he, hrw] at hok
      exact ⟨r, renLoc_at hi hr, lo0 trivial hok, (fun hh => ⟨_, hb, hr, hrw, by rw [he]; exact hh⟩), fun q hq => nomatch hq⟩
    · exact h.elim
  | own e ks l =>
    unfold OwedB at h
    simp only at h
    split at h
    · rename_i b hb
      obtain ⟨he, hrw, _⟩ := h
      obtain ⟨r, hr, hok, _⟩ := hm.blk j _ hb
      rw [he, hrw] at hok
      exact ⟨r, renLoc_at hi hr, lo0 trivial hok, (fun hh => ⟨_, hb, hr, hrw, by rw [he]; exact hh⟩), fun q hq => ⟨_, hb, hrw, by rw [he]; exact hq⟩⟩
    · rename_i hb
      obtain ⟨rfl, _⟩ := h
      have hj : m ≤ j := by rw [← hml]; simpa using hb
      refine ⟨_, renLoc_pad hi (hd j hj), ⟨fun k x hk => by simp at hk, ⟨by simp, by simp, fun h => absurd h (Nat.lt_irrefl _)⟩, ⟨(fun r hr => nomatch hr), (fun r hr => nomatch hr), List.nodup_nil, fun q hq => nomatch hq⟩⟩, (fun h => absurd h (Nat.lt_irrefl _)), fun q hq => nomatch hq⟩
theorem Owed.sim {π : List Nat} {ρ : Loc} {st st' : St} {a : Act} {w : World} (_ : True) (h : Owed π st st') (S : Sim ρ w0 X st a w) : Sim (renLoc π ρ) w0 X st' a w ∧ π.length = st'.mem.length := by
  have hd : ∀ i, st.mem.length ≤ i → ρ i = none := S.mem.past
  obtain ⟨hlive, h⟩ := h
  obtain ⟨hM, ht⟩ := OwedT.rel hd _ _ h
  have hlen := OwedM.len hM
  obtain ⟨_, hget⟩ := OwedM.get hM
  have inj : ∀ {i j i' j' : Nat} {bi bj : Blk}, i ≠ j → π[i]? = some i' → π[j]? = some j' → st'.mem[i]? = some bi → st'.mem[j]? = some bj → bi.body.live = true → bj.body.live = true → i' ≠ j' := by
    rintro i j i' j' bi bj hij hi' hj' h1 h2 h3 h4 rfl
    rcases Nat.lt_or_ge i j with hlt | hge
    · exact liveN_spec hlive hlt hi' hj' h1 h2 h3 h4
    · exact liveN_spec hlive (show j < i by omega) hj' hi' h2 h1 h4 h3
  refine ⟨⟨S.defers, ht _ S.tmps, ⟨fun i b hi => ?_, fun i hi => ?_, fun i j bi bj ri rj hij hbi hbj hrw hri hrj hli hlj => ?_, fun i bi k hi hk => ?_, fun i j bi bj rj k hbi hbj hk hrw hrj hlj => ?_, fun i j bi bj k hij hbi hbj hrw hk hk2 => ?_, S.mem.base, fun i bi ri hi hrw hri hl => ?_, S.mem.grow⟩, S.frame⟩, hlen⟩
  · obtain ⟨j, hj, q, hq⟩ := hget i b hi
    obtain ⟨r, hr, hok, hh, _⟩ := hq.ok hd rfl S.mem hj
    refine ⟨r, hr, hok, fun hk => ?_⟩
    obtain ⟨b', hb', hrj, hrw, hhold⟩ := hh hk
    obtain ⟨r', hr', _, hx⟩ := S.mem.blk j b' hb'
    rw [hrj] at hr'; cases hr'
    exact ⟨(hx hhold).1, fun e => (hx hhold).2 (hrw.trans e)⟩
  · have : π[i]? = none := by simp; omega
    simp [renLoc, this]
  · obtain ⟨i', hi', q1, hq1⟩ := hget i bi hbi
    obtain ⟨j', hj', q2, hq2⟩ := hget j bj hbj
    obtain ⟨r1, hr1, _, hh1, _⟩ := hq1.ok hd rfl S.mem hi'
    obtain ⟨r2, hr2, _, hh2, _⟩ := hq2.ok hd rfl S.mem hj'
    rw [hri] at hr1; cases hr1
    rw [hrj] at hr2; cases hr2
    obtain ⟨b1, hb1, hp1, hw1, hl1⟩ := hh1 hli
    obtain ⟨b2, hb2, hp2, hw2, hl2⟩ := hh2 hlj
    have hne : i' ≠ j' := inj hij hi' hj' hbi hbj (Body.hold_live hli) (Body.hold_live hlj)
    exact S.mem.apart i' j' b1 b2 ri rj hne hb1 hb2 (hw1.trans hrw) hp1 hp2 hl1 hl2
  · obtain ⟨i', hi', q1, hq1⟩ := hget i bi hi
    obtain ⟨r1, hr1, _, _, ho1⟩ := hq1.ok hd rfl S.mem hi'
    obtain ⟨b1, hb1, hw1, hk1⟩ := ho1 k hk
    have := S.mem.more i' b1 k hb1 hk1
    exact ⟨this.1, fun e => this.2 (hw1.trans e)⟩
  · obtain ⟨i', hi', q1, hq1⟩ := hget i bi hbi
    obtain ⟨j', hj', q2, hq2⟩ := hget j bj hbj
    obtain ⟨r1, hr1, _, _, ho1⟩ := hq1.ok hd rfl S.mem hi'
    obtain ⟨r2, hr2, _, hh2, _⟩ := hq2.ok hd rfl S.mem hj'
    rw [hrj] at hr2; cases hr2
    obtain ⟨b1, hb1, hw1, hk1⟩ := ho1 k hk
    obtain ⟨b2, hb2, hp2, hw2, hl2⟩ := hh2 hlj
    exact S.mem.moreA i' j' b1 b2 rj k hb1 hb2 hk1 (by rw [hw1, hw2]; exact hrw) hp2 hl2
  · obtain ⟨i', hi', q1, hq1⟩ := hget i bi hbi
    obtain ⟨j', hj', q2, hq2⟩ := hget j bj hbj
    obtain ⟨r1, hr1, _, _, ho1⟩ := hq1.ok hd rfl S.mem hi'
    obtain ⟨r2, hr2, _, _, ho2⟩ := hq2.ok hd rfl S.mem hj'
    obtain ⟨b1, hb1, hw1, hk1⟩ := ho1 k hk
    obtain ⟨b2, hb2, hw2, hk3⟩ := ho2 k hk2
    exact S.mem.moreB i' j' b1 b2 k (inj hij hi' hj' hbi hbj (Body.own2_live hk) (Body.own2_live hk2)) hb1 hb2 (hw1.trans hrw) hk1 hk3
  · obtain ⟨i', hi', q1, hq1⟩ := hget i bi hi
    obtain ⟨r1, hr1, _, hh1, _⟩ := hq1.ok hd rfl S.mem hi'
    rw [hri] at hr1; cases hr1
    obtain ⟨b1, hb1, hp1, hw1, hl1⟩ := hh1 hl
    exact S.mem.free i' b1 ri hb1 (hw1.trans hrw) hp1 hl1
theorem renLoc_ext {m0 : Nat} {π : List Nat} {ρ ρ' : Loc} (hd : ∀ b r, ρ b = some r → b < m0) (hlow : ∀ i, i < m0 → π[i]? = some i) (he : Ext ρ ρ') : Ext ρ (renLoc π ρ') := ⟨fun b r hb => renLoc_at (hlow b (hd b r hb)) (he b r hb), he.base⟩
/-- how a round ends -/
def RoundPost {Z Y : Type} (I : Z → Prop) (S : Z → St) (μ : Z → Nat) (m0 : Nat) (p : Y → Prop) (out : Y → Ex × St) (m : Nat) (r : Ex × St) : Prop :=
  match r.1 with
  | .normal => ∃ z', I z' ∧ μ z' < m ∧ Weak m0 r.2 (S z')
  | e => ∃ y, p y ∧ (out y).1 = e ∧ Weak m0 r.2 (out y).2
theorem RoundPost.again {Z Y : Type} {I : Z → Prop} {S : Z → St} {μ : Z → Nat} {m0 : Nat} {p : Y → Prop} {out : Y → Ex × St} {m : Nat} {r : Ex × St} (z' : Z) (hr : r.1 = .normal) (hI : I z') (hm : μ z' < m) (π : List Nat) (hπ : piOK m0 π = true) {q : Prop} (ho : Owed π r.2 (S z') = q) (hq : q) : RoundPost I S μ m0 p out m r := by
  unfold RoundPost
  rw [hr]
  exact ⟨z', hI, hm, ⟨π, hπ, ho ▸ hq⟩⟩
theorem RoundPost.out {Z Y : Type} {I : Z → Prop} {S : Z → St} {μ : Z → Nat} {m0 : Nat} {p : Y → Prop} {out : Y → Ex × St} {m : Nat} {r : Ex × St} (y : Y) (hr : (match r.1 with | .normal => false | _ => true) = true) (he : (out y).1 = r.1) (hp : p y) (π : List Nat) (hπ : piOK m0 π = true) {q : Prop} (ho : Owed π r.2 (out y).2 = q) (hq : q) : RoundPost I S μ m0 p out m r := by
  unfold RoundPost
  obtain ⟨e, st⟩ := r
  cases e with
  | normal => simp at hr
  | exit i => exact ⟨y, hp, he, ⟨π, hπ, ho ▸ hq⟩⟩
  | ret => exact ⟨y, hp, he, ⟨π, hπ, ho ▸ hq⟩⟩
theorem Tr.again_ {t : Tr (Ex × St)} (ss : List Step) {cs : List (Bool × Bool)} (hc : ((t.go ss).conds, (t.go ss).xs, (t.go ss).rest.isOk) = (cs, (t.go ss).ys, true)) (h : Conds cs) {Z Y : Type} {I : Z → Prop} {S : Z → St} {μ : Z → Nat} {m0 : Nat} {p : Y → Prop} {out : Y → Ex × St} {m : Nat} (z' : Z)
    (hr : ((t.go ss).rest.get (.ret, ⟨[], []⟩)).1 = .normal) (hI : I z') (hm : μ z' < m) (π : List Nat) (hπ : piOK m0 π = true) {q : Prop} (ho : Owed π ((t.go ss).rest.get (.ret, ⟨[], []⟩)).2 (S z') = q) (hq : q) : t.holds (RoundPost I S μ m0 p out m) :=
  Tr.fin_ ss _ hc h (RoundPost.again z' hr hI hm π hπ ho hq)
def isOut : Ex → Bool
  | .normal => false
  | _ => true
theorem Tr.out_ {t : Tr (Ex × St)} (ss : List Step) {cs : List (Bool × Bool)} (hc : ((t.go ss).conds, (t.go ss).xs, (t.go ss).rest.isOk) = (cs, (t.go ss).ys, true)) (h : Conds cs) {Z Y : Type} {I : Z → Prop} {S : Z → St} {μ : Z → Nat} {m0 : Nat} {p : Y → Prop} {out : Y → Ex × St} {m : Nat} (y : Y)
    (hr : isOut ((t.go ss).rest.get (.ret, ⟨[], []⟩)).1 = true) (he : (out y).1 = ((t.go ss).rest.get (.ret, ⟨[], []⟩)).1) (hp : p y) (π : List Nat) (hπ : piOK m0 π = true) {q : Prop} (ho : Owed π ((t.go ss).rest.get (.ret, ⟨[], []⟩)).2 (out y).2 = q) (hq : q) : t.holds (RoundPost I S μ m0 p out m) :=
  Tr.fin_ ss _ hc h (RoundPost.out y (by revert hr; generalize ((t.go ss).rest.get (.ret, ⟨[], []⟩)).1 = e; cases e <;> simp [isOut]) he hp π hπ ho hq)
/-- the words on a loop, from any state that is at least so -/
def LoopFrom (P : Program) (b : Code) (m0 : Nat) (st1 : St) (Y : Type) (p : Y → Prop) (out : Y → Ex × St) : Prop :=
  ∀ st0 : St, st0.mem.length = m0 → Weak m0 st0 st1 → LoopSum P b st0 Y p out
theorem Tr.loop_ {α : Type} {Q : α → Prop} {t : Tr α} (ss : List Step) {cs : List (Bool × Bool)} (hc : ((t.go ss).conds, (t.go ss).xs, (t.go ss).rest.lpIs) = (cs, (t.go ss).ys, some P)) (h : Conds cs) {b : Code} (hb : (t.go ss).rest.lpB = b) {m0 : Nat} {st1 : St} (hl : (t.go ss).rest.lpSt.mem.length = m0) (π : List Nat) (hπ : piOK m0 π = true) {q : Prop} (ho : Owed π (t.go ss).rest.lpSt st1 = q) (hq : q)
    {Y : Type} {p : Y → Prop} {out : Y → Ex × St} (hg : LoopFrom P b m0 st1 Y p out) (hk : ∀ y, p y → ((t.go ss).rest.lpK (out y).1 (out y).2).holds Q) : t.holds Q :=
  Tr.lp_ ss hc h (hb ▸ hg _ hl ⟨π, hπ, ho ▸ hq⟩) hk
/-- A loop, by an invariant over ghosts. -/
theorem loopSum (hng : NoNG P) (hmix : P.follows .mixedOrders = true) {Γ : Env} (hΓ : EnvOK P Γ) (n : Nat) (fid : FuncId) {b : Code} {Z : Type} (I : Z → Prop) (S : Z → St) (μ : Z → Nat) (m0 : Nat) (z0 : Z) (h0 : I z0) {st0 : St} (hst : st0.mem.length = m0) (hw0 : Weak m0 st0 (S z0)) {Y : Type} {p : Y → Prop} {out : Y → Ex × St}
    (round : ∀ z, I z → (exec P Γ n fid b (S z) fun e st => .ok (e, st)).holds (RoundPost I S μ m0 p out (μ z))) : LoopSum P b st0 Y p out := by
  intro ρ w0 X a w Q S0 hQ
  refine wp_loop_rounds (μ z0 + 1) ?_
  have hdom : ∀ b r, ρ b = some r → b < m0 := fun b r hb => by
    rcases Nat.lt_or_ge b m0 with h | h
    · exact h
    · rw [S0.mem.past b (by rw [hst]; omega)] at hb; cases hb
  have key : ∀ (k : Nat) (z : Z), I z → μ z < k → ∀ {ρ' : Loc} {a' : Act} {w' : World}, Ext ρ ρ' → Sim ρ' w0 X (S z) a' w' → Code.rounds P b Q k a' w' := by
    intro k
    induction k with
    | zero => intro z _ h; omega
    | succ k ih =>
      intro z hz hk ρ' a' w' he Sz
      rw [rounds_succ]
      refine exec_sound hng hmix hΓ n fid b Sz (round z hz) ?_
      intro e st' ρ'' a'' w'' he' S' hh
      cases e with
      | normal =>
        obtain ⟨z', hz', hlt, ⟨π, hπ, hweak⟩⟩ := hh
        obtain ⟨h1, h2⟩ := piOK.spec hπ
        exact ih z' hz' (by omega) (renLoc_ext hdom h2 (he.trans he')) (hweak.sim h1 S').1
      | exit i =>
        obtain ⟨y, hy, hye, ⟨π, hπ, hweak⟩⟩ := hh
        obtain ⟨h1, h2⟩ := piOK.spec hπ
        have := hQ y hy _ _ _ (renLoc_ext hdom h2 (he.trans he')) (hweak.sim h1 S').1
        rw [hye] at this
        exact this
      | ret =>
        obtain ⟨y, hy, hye, ⟨π, hπ, hweak⟩⟩ := hh
        obtain ⟨h1, h2⟩ := piOK.spec hπ
        have := hQ y hy _ _ _ (renLoc_ext hdom h2 (he.trans he')) (hweak.sim h1 S').1
        rw [hye] at this
        exact this
  obtain ⟨π, hπ, hweak⟩ := hw0
  obtain ⟨h1, h2⟩ := piOK.spec hπ
  exact key _ z0 h0 (by omega) (renLoc_ext hdom h2 (Ext.refl _)) (hweak.sim h1 S0).1
theorem loopFrom (hng : NoNG P) (hmix : P.follows .mixedOrders = true) {Γ : Env} (hΓ : EnvOK P Γ) (n : Nat) (fid : FuncId) {b : Code} {Z : Type} (I : Z → Prop) (S : Z → St) (μ : Z → Nat) (m0 : Nat) (z0 : Z) (h0 : I z0) {Y : Type} {p : Y → Prop} {out : Y → Ex × St}
    (round : ∀ z, I z → (exec P Γ n fid b (S z) fun e st => .ok (e, st)).holds (RoundPost I S μ m0 p out (μ z))) : LoopFrom P b m0 (S z0) Y p out := fun st0 hl hw =>
  loopSum hng hmix hΓ n fid I S μ m0 z0 h0 hl hw round
/-- the body of the loop whose first region has this number -/
def findLoop (r : Nat) : Code → Option Code
  | .seq a c => match findLoop r a with
    | some x => some x
    | none => findLoop r c
  | .cond _ a c => match findLoop r a with
    | some x => some x
    | none => findLoop r c
  | .block _ a | .scope a => findLoop r a
  | .loop a => if firstReg a = r then some a else findLoop r a
  | _ => none
noncomputable def loopOf (P : Program) (f : FuncId) (r : Nat) : Code := (findLoop r (((P.funcs[f]?).bind (·.body)).getD .skip)).getD .skip
end

/-! ## 11. What comes in -/
/-- cells of the given kinds -/
def Typed (ks : List CK) (cs : List Value) : Prop := ∃ r : RowT ks, cs = rowV ks r ∧ RowWF ks r
theorem Typed.nil : Typed [] [] := ⟨(), rfl, trivial⟩
theorem Typed.append : ∀ {ks ks' : List CK} {cs cs' : List Value}, Typed ks cs → Typed ks' cs' → Typed (ks ++ ks') (cs ++ cs')
  | [], ks', cs, cs', ⟨r, h, _⟩, h' => by simp [rowV] at h; subst h; simpa using h'
  | k :: ks, ks', cs, cs', ⟨r, h, hw⟩, h' => by
    obtain ⟨r', e, hw'⟩ := Typed.append (ks := ks) (ks' := ks') ⟨r.2, rfl, hw.2⟩ h'
    exact ⟨(r.1, r'), by rw [h]; simp [rowV, e], hw.1, hw'⟩
theorem Typed.length {ks : List CK} {cs : List Value} (h : Typed ks cs) : cs.length = ks.length := by obtain ⟨r, rfl, _⟩ := h; exact rowV_length ks r
section
variable {H : Type} {enc : TypeId × Value → H} {P : Program} {w : World} {base : Nat} {spare : Nat → Bool} {held : Bool}
theorem typed_fields {fuel : Nat} {fk : TypeId → Option (List CK)} (ih : ∀ {t : TypeId} {ks : List CK} {cs : List Value} {x : DataW H × List MemPlace}, fk t = some ks → DataW.trod enc P w base spare held fuel t cs = some x → Typed ks cs)
    {cs : List Value} : ∀ (fs : List Field) (off : Nat) {ks : List CK}, flatFields P fk fs off = some ks → (∀ f ∈ fs, ∃ x, DataW.trod enc P w base spare held fuel f.type ((cs.drop f.offset).take (P.cellsOf f.type)) = some x) → Typed ks ((cs.drop off).take ks.length)
  | [], off, ks, h, _ => by simp [flatFields] at h; subst h; simpa using Typed.nil
  | f :: fs, off, ks, h, hx => by
    unfold flatFields at h
    split at h
    · rename_i hoff
      split at h
      · rename_i ks1 hk
        split at h
        · rename_i hl
          obtain ⟨ks2, h2, rfl⟩ := Option.map_eq_some_iff.1 h
          obtain ⟨x, hx1⟩ := hx f (by simp)
          have t1 := ih hk hx1
          have t2 := typed_fields ih fs (off + ks1.length) h2 (fun g hg => hx g (by simp [hg]))
          rw [hoff, ← hl] at t1
          have := t1.append t2
          rw [List.length_append, List.take_add, List.drop_drop]
          exact this
        · cases h
      · cases h
    · cases h
theorem typed_rep {fuel : Nat} {e : TypeId} {ks : List CK} (ih : ∀ {cs : List Value} {x : DataW H × List MemPlace}, DataW.trod enc P w base spare held fuel e cs = some x → Typed ks cs) {cs : List Value} :
    ∀ (n i : Nat), (∀ j, i ≤ j → j < i + n → ∃ x, DataW.trod enc P w base spare held fuel e ((cs.drop (j * ks.length)).take ks.length) = some x) → Typed (rep ks n) ((cs.drop (i * ks.length)).take (n * ks.length))
  | 0, i, _ => by simpa [rep] using Typed.nil
  | n + 1, i, h => by
    obtain ⟨x, hx⟩ := h i (Nat.le_refl _) (by omega)
    have t1 := ih hx
    have t2 := typed_rep ih (cs := cs) n (i + 1) (fun j h1 h2 => h j (by omega) (by omega))
    have := t1.append t2
    rw [show (n + 1) * ks.length = ks.length + n * ks.length by rw [Nat.add_mul]; omega, List.take_add, List.drop_drop]
    rw [show i * ks.length + ks.length = (i + 1) * ks.length by rw [Nat.add_mul]; omega]
    exact this
theorem flat_typed : ∀ (d : Nat) {t : TypeId} {ks : List CK} {fuel : Nat} {cs : List Value} {x : DataW H × List MemPlace}, flatK P d t = some ks → DataW.trod enc P w base spare held fuel t cs = some x → Typed ks cs
  | 0, t, ks, fuel, cs, x, h, _ => by simp [flatK] at h
  | d + 1, t, ks, fuel, cs, x, h, hx => by
    unfold flatK at h
    split at h
    · rename_i hu; cases h; obtain ⟨b, rfl, _⟩ := DataW.trod_bool hu hx; exact ⟨(b, ()), rfl, trivial, trivial⟩
    · rename_i k hu; cases h; obtain ⟨n, rfl, _, hw⟩ := DataW.trod_int hu hx; exact ⟨(n, ()), rfl, hw, trivial⟩
    · rename_i hu; cases h; obtain ⟨s, rfl, _, hs⟩ := DataW.trod_string hu hx; exact ⟨(s, ()), rfl, hs, trivial⟩
    · rename_i fs hu
      split at h
      · rename_i ks' hk
        split at h
        · rename_i hl
          cases h
          obtain ⟨xs, n, rfl, _, hlen, hxl, hf⟩ := DataW.trod_struct hu hx
          have := typed_fields (cs := cs) (fun hk hx => flat_typed d hk hx) fs.toList 0 hk (fun f hf' => by
            obtain ⟨i, hi⟩ := List.mem_iff_getElem?.1 hf'
            have hi' : fs[i]? = some f := by simpa using hi
            have := hf i f hi'
            have hlt : i < xs.length := by rw [hxl]; exact (Array.getElem?_eq_some_iff.1 hi').1
            rw [List.getElem?_eq_getElem hlt] at this
            exact ⟨_, this⟩)
          rw [List.drop_zero, hl, ← hlen, List.take_length] at this
          exact this
        · cases h
      · cases h
    · rename_i n e hu
      split at h
      · rename_i ks' hk
        split at h
        · rename_i hl
          cases h
          obtain ⟨xs, m, rfl, _, hlen, hxl, hf⟩ := DataW.trod_array hu hx
          have := typed_rep (cs := cs) (fun hx => flat_typed d hk hx) n 0 (fun j _ hj => by
            have := hf j (by omega)
            have hlt : j < xs.length := by omega
            rw [List.getElem?_eq_getElem hlt, ← hl.1] at this
            exact ⟨_, this⟩)
          rw [Nat.zero_mul, List.drop_zero, hl.2, ← hlen, List.take_length] at this
          exact this
        · cases h
      · cases h
    · cases h
/-- a slice of flat elements -/
theorem open_row {t e : TypeId} {d fuel : Nat} {ks : List CK} {v : Value} {x : DataW H × List MemPlace} (hu : P.underlying t = some (.slice e)) (hk : flatK P d e = some ks) (hc : P.cellsOf e = ks.length) (hpos : 0 < ks.length) (hv : v.cells.toList = [v])
    (h : DataW.trod enc P w base (fun _ => true) held fuel t [v] = some x) :
    (∃ a, v = .slice a 0 0) ∨ ∃ (b o len cap : Nat) (g : Nat → RowT ks), v = .slice (some ⟨b, o, none⟩) len cap ∧ len ≤ cap ∧ cap ≤ maxLen ∧ b < w.heap.size ∧ ∀ i, i < cap → RowWF ks (g i) ∧ ∀ j c, (rowV ks (g i))[j]? = some c → w.cell? ⟨b, o + (i * ks.length + j), none⟩ = some c := by
  rcases Deep.open_slice hu h with ⟨hcs, _⟩ | ⟨a, len, cap, m, n, D, Pl, hcs, _, hl, hm, hmm, _, hi⟩
  · simp only [List.cons.injEq, and_true] at hcs; exact .inl ⟨none, hcs⟩
  · simp only [if_true] at hmm
    subst hmm
    simp only [List.cons.injEq, and_true] at hcs
    by_cases hcap : m = 0
    · subst hcap
      have : len = 0 := by omega
      subst this
      exact .inl ⟨_, hcs⟩
    · right
      have cells : ∀ i, i < m → ∃ r : RowT ks, RowWF ks r ∧ ∀ j c, (rowV ks r)[j]? = some c → w.cell? (a.add (i * ks.length + j)) = some c := by
        intro i him
        obtain ⟨cs', hcs', ht⟩ := hi i him
        obtain ⟨r, hr, hw⟩ := flat_typed d hk ht
        obtain ⟨_, hlen, hat⟩ := World.cells?_some hcs'
        refine ⟨r, hw, fun j c hj => ?_⟩
        rw [← hr] at hj
        have hjl : j < P.cellsOf e := by rw [← hlen]; exact (List.getElem?_eq_some_iff.1 hj).1
        have := hat j hjl
        rw [hj, hc] at this
        rw [← this]
        congr 1
        unfold Addr.add
        split
        · rename_i h0
          have : i * ks.length = 0 := by omega
          have hj0 : j = 0 := by omega
          simp [this, hj0]
        · rename_i h0
          split
          · rename_i h1
            subst h1
            by_cases hi0 : i * ks.length = 0
            · omega
            · simp [hi0]
          · rename_i h1
            by_cases hi0 : i * ks.length = 0
            · simp [hi0]
            · simp [hi0, Nat.add_assoc]
      have h0 := hi 0 (by omega)
      obtain ⟨cs0, hcs0, _⟩ := h0
      obtain ⟨_, hlen0, hat0⟩ := World.cells?_some hcs0
      have hc0 := hat0 0 (by omega)
      have hlt0 : 0 < cs0.length := by omega
      rw [List.getElem?_eq_getElem hlt0] at hc0
      have hspot : a.spot = none := by
        have := World.cell?_spot hc0
        simpa [Addr.add] using this
      obtain ⟨b, o, spot⟩ := a
      simp only at hspot
      subst hspot
      have hb : b < w.heap.size := by
        have := World.block_lt_of_cell? w _ hc0
        simpa [Addr.add] using this
      refine ⟨b, o, len, m, fun i => if h : i < m then Classical.choose (cells i h) else RowT.dflt ks, hcs, hl, hm, hb, fun i him => ?_⟩
      simp only [him, dif_pos]
      obtain ⟨h1, h2⟩ := Classical.choose_spec (cells i him)
      exact ⟨h1, fun j c hj => by have := h2 j c hj; rwa [addr_add] at this⟩
end
/-- all that there was at first stays as it is -/
def World.stay (W : World) : Base := fun k => W.heap[k]?
/-- the blocks of what came in -/
theorem MemOK.start {W : World} {X : Lim} {mem : List Blk} {locs : List Place} {B : Base} (hB : ∀ k o, B k = some o → W.heap[k]? = some o) (hX : X.b0 = B) (hl : locs.length = mem.length) (h : ∀ (i : Nat) b r, mem[i]? = some b → locs[i]? = some r → b.rw = false ∧ r.1 < W.heap.size ∧ b.body.own2 = [] ∧ BodyOK ⟨fun i => locs[i]?, B⟩ W false r b.body) : MemOK ⟨fun i => locs[i]?, B⟩ W X mem W := by
  have rwf : ∀ (i : Nat) b, mem[i]? = some b → ∃ r : Place, locs[i]? = some r ∧ b.rw = false ∧ b.body.own2 = [] := fun i b hi => by
    have hlt : i < mem.length := (List.getElem?_eq_some_iff.1 hi).1
    have hr : locs[i]? = some (locs[i]'(by omega)) := List.getElem?_eq_getElem (by omega)
    obtain ⟨h1, h2, h3, _⟩ := h i b _ hi hr
    exact ⟨_, hr, h1, h3⟩
  refine ⟨fun i b hi => ?_, fun i hi => by simp; omega, fun i j bi bj ri rj hij hbi hbj hrw hri hrj _ _ => ?_, fun i b k hi hk => ?_, fun i j bi bj rj k hbi hbj hk => ?_, fun i j bi bj k hij hbi hbj hrw hk => ?_, hB, fun i b r hi hrw => ?_, fun k o hk => .inl (by rw [hX]; exact hk)⟩
  · have hlt : i < mem.length := (List.getElem?_eq_some_iff.1 hi).1
    have hr : locs[i]? = some (locs[i]'(by omega)) := List.getElem?_eq_getElem (by omega)
    obtain ⟨h1, h2, _, h3⟩ := h i b _ hi hr
    exact ⟨_, hr, by rw [h1]; exact h3, fun _ => ⟨h2, fun h => by rw [h1] at h; cases h⟩⟩
  · obtain ⟨_, _, h1, _⟩ := rwf i bi hbi
    rw [h1] at hrw; cases hrw
  · obtain ⟨_, _, _, h1⟩ := rwf i b hi
    rw [h1] at hk; cases hk
  · obtain ⟨_, _, _, h1⟩ := rwf i bi hbi
    rw [h1] at hk; cases hk
  · obtain ⟨_, _, _, h1⟩ := rwf i bi hbi
    rw [h1] at hk; cases hk
  · obtain ⟨_, _, h1, _⟩ := rwf i b hi
    rw [h1] at hrw; cases hrw
theorem BodyOK.row {W : World} {ρ : Loc} {ks : List CK} {b o len cap : Nat} {g : Nat → RowT ks} (hlc : len ≤ cap) (hlo : ∀ (r : RowT ks) (n j : Nat) (s : SV), (rowSV ks r)[j]? = some s → s.lo n = true) (hg : ∀ i, i < cap → RowGood ρ.base ks (g i)) (h : ∀ i, i < cap → RowWF ks (g i) ∧ ∀ j c, (rowV ks (g i))[j]? = some c → W.cell? ⟨b, o + (i * ks.length + j), none⟩ = some c) :
    BodyOK ρ W false ⟨b, o, none, 0⟩ (.row len ks.length fun i => rowSV ks (g i)) := by
  intro k hk
  refine ⟨rowSV_length ks _, fun j s hj => ⟨rowSV_lo ks _ _ j s hj, ?_⟩⟩
  obtain ⟨y, hy, hr⟩ := (row_rel (ρ := ρ) ks (g k) (hg k (by omega))).get hj
  exact ⟨y, (h k (by omega)).2 j y hy, hr, fun h => by cases h⟩
theorem Frm.below {W W' : World} {B : Base} (h : Frm W ⟨fun _ => False, B⟩ W') : RowKit.Below W.heap.size W W' := ⟨h.os, h.tape, h.output, h.size, fun k hk => h.block k hk id⟩
/-- a call that needs nothing of memory, in whatever memory -/
theorem env_body {P : Program} (hng : NoNG P) (hmix : P.follows .mixedOrders = true) {Γ : Env} (hΓ : EnvOK P Γ) (n : Nat) (f : FuncId) {fn : Func} {c : Code} (hfn : P.funcs[f]? = some fn) (hb : fn.body = some c) {args : List SV} {res : SV} (hla : loL 0 args = true) (hlr : res.lo 0 = true)
    (h : (bodyX P Γ n f args [] fun s mem => .ok (s, mem)).holds fun r => r.1 = res) {ρ : Loc} {w0 : World} {X : Lim} {mem : List Blk} {w : World} {ys : List Value} {R : SV × List Blk → Prop} (hm : MemOK ρ w0 X mem w) (hf : Frm w0 X w) (hargs : RelL ρ args ys) (hR : R (res, mem)) : Calls P f ys.toArray w (CallPost ρ w0 X R) := by
  have hm0 : MemOK ⟨fun _ => none, ρ.base⟩ w ⟨fun _ => False, ρ.base⟩ [] w := ⟨fun i b hi => by simp at hi, fun _ _ => rfl, fun i j bi bj ri rj _ hi => by simp at hi, fun i b k hi => by simp at hi, fun i j bi bj rj k hi => by simp at hi, fun i j bi bj k _ hi => by simp at hi, hm.base, fun i b r hi => by simp at hi, fun k o hk => .inl hk⟩
  have hC := calls_of_body (w0 := w) (X := ⟨fun _ => False, ρ.base⟩) hng hmix hΓ n f hfn hb hm0 (Frm.refl w _) (RelL.down (n := 0) (ρ' := ρ) (ρ := ⟨fun _ => none, ρ.base⟩) ⟨fun i hi => absurd hi (Nat.not_lt_zero _), Base.le_refl _⟩ args hla hargs) h
  refine hC.mono ?_
  rintro e w' ⟨ρ', s, v, mem', rfl, he, hr, hmm, hfr, hs⟩
  simp only at hs
  subst hs
  have hl := hm.later (w' := w') (fun k hk => hfr.block k hk id) hfr.size
  have hnew : ∀ k, k < w.heap.size → ρ.base k = none → ρ'.base k = none := fun k hk hn => by
    cases hb : ρ'.base k with
    | none => rfl
    | some o =>
      rcases hmm.grow k o hb with h1 | h1 | h1
      · have h1 : ρ.base k = some o := h1
        rw [hn] at h1; cases h1
      · omega
      · exact h1.elim
  have he2 : Ext ρ ⟨ρ.at_, ρ'.base⟩ := ⟨fun _ _ h => h, he.base⟩
  have hm2 : MemOK ⟨ρ.at_, ρ'.base⟩ w0 X mem w' := by
    refine ⟨fun i b hi => ?_, hl.past, hl.apart, fun i b k hi hk => ?_, hl.moreA, hl.moreB, hmm.base, fun i b r hi hrw hr hh => ?_, fun k o hk => ?_⟩
    · obtain ⟨r, h1, h2, h3⟩ := hl.blk i b hi
      exact ⟨r, h1, h2.mono he2, h3⟩
    · have h1 := hl.more i b k hi hk
      exact ⟨h1.1, fun hrw => ⟨(h1.2 hrw).1, hnew k (hm.more i b k hi hk).1 (h1.2 hrw).2⟩⟩
    · obtain ⟨r', h1, _, h3⟩ := hm.blk i b hi
      rw [show ρ i = some r from hr] at h1; cases h1
      exact hnew _ (h3 hh).1 (hl.free i b r hi hrw hr hh)
    · rcases hmm.grow k o hk with h1 | h1 | h1
      · exact hm.grow k o h1
      · exact .inr (.inl (Nat.le_trans hf.size h1))
      · exact h1.elim
  refine ⟨⟨ρ.at_, ρ'.base⟩, s, v, mem, rfl, he2, Rel.down (n := 0) (ρ' := ρ') (ρ := ⟨ρ.at_, ρ'.base⟩) ⟨fun i hi => absurd hi (Nat.not_lt_zero _), Base.le_refl _⟩ s hlr hr, hm2, ⟨hfr.os.trans hf.os, hfr.tape.trans hf.tape, hfr.output.trans hf.output, Nat.le_trans hf.size hfr.size, fun k hk hx => ?_⟩, hR⟩
  rw [hfr.block k (Nat.lt_of_lt_of_le hk hf.size) id]; exact hf.block k hk hx
theorem env_pure {P : Program} (hng : NoNG P) (hmix : P.follows .mixedOrders = true) {Γ : Env} (hΓ : EnvOK P Γ) (n : Nat) (f : FuncId) {fn : Func} {c : Code} (hfn : P.funcs[f]? = some fn) (hb : fn.body = some c) (hno : ∀ args mem, Γ.call f args mem = none) {args : List SV} {res : SV} (hla : loL 0 args = true) (hlr : res.lo 0 = true)
    (h : (callX P Γ n f args [] fun s mem => .ok (s, mem)).holds fun r => r.1 = res) {ρ : Loc} {w0 : World} {X : Lim} {mem : List Blk} {w : World} {ys : List Value} {R : SV × List Blk → Prop} (hm : MemOK ρ w0 X mem w) (hf : Frm w0 X w) (hargs : RelL ρ args ys) (hR : R (res, mem)) : Calls P f ys.toArray w (CallPost ρ w0 X R) :=
  env_body hng hmix hΓ n f hfn hb hla hlr (by
    unfold callX at h
    simp only [hfn, hb, hno] at h
    unfold bodyX
    simp only [hfn, hb]
    exact h) hm hf hargs hR

/-! ## 12. Environments, entry by entry -/
abbrev Entry := FuncId × (List SV → List Blk → Option (Tr (SV × List Blk)))
def lookE : List Entry → FuncId → List SV → List Blk → Option (Tr (SV × List Blk))
  | [], _, _, _ => none
  | e :: es, f, args, mem => if e.1 = f then e.2 args mem else lookE es f args mem
def Env.of (l : List Entry) (cut : FuncId → Nat → Bool) (wr : FuncId → Nat → List Nat) : Env := ⟨lookE l, cut, wr⟩
def EntryOK (P : Program) (e : Entry) : Prop :=
  ∀ args mem tr, e.2 args mem = some tr → ∀ (ρ : Loc) (w0 : World) (X : Lim) (w : World) (ys : List Value) (R : SV × List Blk → Prop), MemOK ρ w0 X mem w → Frm w0 X w → RelL ρ args ys → tr.holds R →
    Calls P e.1 ys.toArray w (CallPost ρ w0 X R)
theorem EnvOK.of {P : Program} : ∀ {l : List Entry} {cut : FuncId → Nat → Bool} {wr : FuncId → Nat → List Nat}, (∀ e ∈ l, EntryOK P e) → EnvOK P (Env.of l cut wr)
  | [], cut, wr, _ => fun f args mem tr h => by simp [Env.of, lookE] at h
  | e :: es, cut, wr, hl => fun f args mem tr h => by
    simp only [Env.of, lookE] at h
    split at h
    · rename_i he
      subst he
      exact hl e (by simp) args mem tr h
    · exact EnvOK.of (l := es) (cut := cut) (wr := wr) (fun e he => hl e (by simp [he])) f args mem tr h
theorem lookE_none {f : FuncId} : ∀ {l : List Entry}, (∀ e ∈ l, e.1 ≠ f) → ∀ args mem, lookE l f args mem = none
  | [], _, args, mem => rfl
  | e :: es, h, args, mem => by
    simp only [lookE]
    rw [if_neg (h e (by simp))]
    exact lookE_none (fun e he => h e (by simp [he])) args mem
/-- an entry of a function that needs nothing of memory: its value alone -/
def pureE (f : FuncId) (g : List SV → Option SV) : Entry := (f, fun args mem => (g args).map fun s => .ok (s, mem))
theorem pureE_ok {P : Program} (hng : NoNG P) (hmix : P.follows .mixedOrders = true) {l : List Entry} {cut : FuncId → Nat → Bool} {wr : FuncId → Nat → List Nat} (hl : ∀ e ∈ l, EntryOK P e) (n : Nat) (f : FuncId) {fn : Func} {c : Code} (hfn : P.funcs[f]? = some fn) (hb : fn.body = some c) (hno : ∀ e ∈ l, e.1 ≠ f) {g : List SV → Option SV}
    (h : ∀ args s, g args = some s → loL 0 args = true ∧ s.lo 0 = true ∧ (callX P (Env.of l cut wr) n f args [] fun s mem => .ok (s, mem)).holds fun r => r.1 = s) : EntryOK P (pureE f g) := by
  intro args mem tr htr ρ w0 X w ys R hm hf hargs hR
  obtain ⟨s, hs, rfl⟩ := Option.map_eq_some_iff.1 htr
  obtain ⟨h1, h2, h3⟩ := h args s hs
  exact env_pure hng hmix (EnvOK.of hl) n f hfn hb (lookE_none hno) h1 h2 h3 hm hf hargs hR

/-- a call that needs nothing of memory, but something of what comes in -/
def needE (f : FuncId) (g : List SV → Option (Prop × SV)) : Entry := (f, fun args mem => (g args).map fun s => .need s.1 (.ok (s.2, mem)))
theorem needE_ok {P : Program} (hng : NoNG P) (hmix : P.follows .mixedOrders = true) {l : List Entry} {cut : FuncId → Nat → Bool} {wr : FuncId → Nat → List Nat} (hl : ∀ e ∈ l, EntryOK P e) (n : Nat) (f : FuncId) {fn : Func} {c : Code} (hfn : P.funcs[f]? = some fn) (hb : fn.body = some c) (hno : ∀ e ∈ l, e.1 ≠ f) {g : List SV → Option (Prop × SV)}
    (h : ∀ args p s, g args = some (p, s) → loL 0 args = true ∧ s.lo 0 = true ∧ (p → (callX P (Env.of l cut wr) n f args [] fun s mem => .ok (s, mem)).holds fun r => r.1 = s)) : EntryOK P (needE f g) := by
  intro args mem tr htr ρ w0 X w ys R hm hf hargs hR
  obtain ⟨⟨p, s⟩, hs, rfl⟩ := Option.map_eq_some_iff.1 htr
  obtain ⟨h1, h2, h3⟩ := h args p s hs
  exact env_pure hng hmix (EnvOK.of hl) n f hfn hb (lookE_none hno) h1 h2 (h3 hR.1) hm hf hargs (hR.2 hR.1)

/-! ### the same, in a box that nothing opens by itself -/
variable {P : Program}
structure Tr.Holds {α : Type} (t : Tr α) (Q : α → Prop) : Prop where
  out : t.holds Q
theorem Tr.alongH {α : Type} {Q : α → Prop} {t : Tr α} (ss : List Step) {cs : List (Bool × Bool)} (hc : (t.go ss).conds = cs) (hs : (t.go ss).xs = (t.go ss).ys) (h : Conds cs) (hr : (t.go ss).rest.Holds Q) : t.Holds Q :=
  ⟨Tr.along ss hc hs h hr.out⟩
theorem Tr.bothH {α : Type} {Q : α → Prop} {t : Tr α} (h1 : t.both1.Holds Q) (h2 : t.both2.Holds Q) : t.Holds Q := ⟨Tr.both_holds h1.out h2.out⟩
theorem Tr.needH {α : Type} {Q : α → Prop} {t : Tr α} (ss : List Step) {cs : List (Bool × Bool)} {p : Prop} (hc : ((t.go ss).conds, (t.go ss).xs, (t.go ss).rest.needP) = (cs, (t.go ss).ys, some p)) (h : Conds cs) (hp : p) (hk : (t.go ss).rest.needK.Holds Q) : t.Holds Q :=
  ⟨Tr.need_ ss hc h hp hk.out⟩
theorem Tr.endH {α β : Type} {Q : α → Prop} {t : Tr α} (ss : List Step) {cs : List (Bool × Bool)} (f : α → β) {y : β} (hc : ((t.go ss).conds, (t.go ss).xs, (t.go ss).rest.leaf? f) = (cs, (t.go ss).ys, some y)) (h : Conds cs) (hq : ∀ a, f a = y → Q a) : t.Holds Q :=
  ⟨Tr.end_ ss f hc h hq⟩
theorem Tr.allH {α : Type} {Q : α → Prop} {t : Tr α} (ss : List Step) {cs : List (Bool × Bool)} {X : Type} (hT : (t.go ss).rest.allT = X) {p : X → Prop} (hP : ∀ x, (t.go ss).rest.allP (cast hT.symm x) = p x) (hc : ((t.go ss).conds, (t.go ss).xs) = (cs, (t.go ss).ys)) (h : Conds cs) (hk : ∀ x : X, p x → ((t.go ss).rest.allK (cast hT.symm x)).Holds Q) : t.Holds Q :=
  ⟨Tr.all_ ss hT hP hc h fun x hx => (hk x hx).out⟩
theorem Tr.neverH {α : Type} {Q : α → Prop} {t : Tr α} (ss : List Step) {cs : List (Bool × Bool)} (hc : ((t.go ss).conds, (t.go ss).xs) = (cs, (t.go ss).ys)) (h : Conds cs → False) (hh : Conds cs) : t.Holds Q := ⟨Tr.never ss hc h hh⟩
theorem Tr.againH {t : Tr (Ex × St)} (ss : List Step) {cs : List (Bool × Bool)} (hc : ((t.go ss).conds, (t.go ss).xs, (t.go ss).rest.isOk) = (cs, (t.go ss).ys, true)) (h : Conds cs) {Z Y : Type} {I : Z → Prop} {S : Z → St} {μ : Z → Nat} {m0 : Nat} {p : Y → Prop} {out : Y → Ex × St} {m : Nat} (z' : Z)
    (hr : ((t.go ss).rest.get (.ret, ⟨[], []⟩)).1 = .normal) (hI : I z') (hm : μ z' < m) (π : List Nat) (hπ : piOK m0 π = true) {q : Prop} (ho : Owed π ((t.go ss).rest.get (.ret, ⟨[], []⟩)).2 (S z') = q) (hq : q) : t.Holds (RoundPost I S μ m0 p out m) :=
  ⟨Tr.again_ ss hc h z' hr hI hm π hπ ho hq⟩
theorem Tr.outH {t : Tr (Ex × St)} (ss : List Step) {cs : List (Bool × Bool)} (hc : ((t.go ss).conds, (t.go ss).xs, (t.go ss).rest.isOk) = (cs, (t.go ss).ys, true)) (h : Conds cs) {Z Y : Type} {I : Z → Prop} {S : Z → St} {μ : Z → Nat} {m0 : Nat} {p : Y → Prop} {out : Y → Ex × St} {m : Nat} (y : Y)
    (hr : isOut ((t.go ss).rest.get (.ret, ⟨[], []⟩)).1 = true) (he : (out y).1 = ((t.go ss).rest.get (.ret, ⟨[], []⟩)).1) (hp : p y) (π : List Nat) (hπ : piOK m0 π = true) {q : Prop} (ho : Owed π ((t.go ss).rest.get (.ret, ⟨[], []⟩)).2 (out y).2 = q) (hq : q) : t.Holds (RoundPost I S μ m0 p out m) :=
  ⟨Tr.out_ ss hc h y hr he hp π hπ ho hq⟩
theorem Tr.loopH {α : Type} {Q : α → Prop} {t : Tr α} (ss : List Step) {cs : List (Bool × Bool)} (hc : ((t.go ss).conds, (t.go ss).xs, (t.go ss).rest.lpIs) = (cs, (t.go ss).ys, some P)) (h : Conds cs) {b : Code} (hb : (t.go ss).rest.lpB = b) {m0 : Nat} {st1 : St} (hl : (t.go ss).rest.lpSt.mem.length = m0) (π : List Nat) (hπ : piOK m0 π = true) {q : Prop} (ho : Owed π (t.go ss).rest.lpSt st1 = q) (hq : q)
    {Y : Type} {p : Y → Prop} {out : Y → Ex × St} (hg : LoopFrom P b m0 st1 Y p out) (hk : ∀ y, p y → ((t.go ss).rest.lpK (out y).1 (out y).2).Holds Q) : t.Holds Q :=
  ⟨Tr.loop_ ss hc h hb hl π hπ ho hq hg fun y hy => (hk y hy).out⟩
/-- the loop, whose rounds stand in boxes -/
theorem loopFromH (hng : NoNG P) (hmix : P.follows .mixedOrders = true) {Γ : Env} (hΓ : EnvOK P Γ) (n : Nat) (fid : FuncId) {b : Code} {Z : Type} (I : Z → Prop) (S : Z → St) (μ : Z → Nat) (m0 : Nat) (z0 : Z) (h0 : I z0) {Y : Type} {p : Y → Prop} {out : Y → Ex × St}
    (round : ∀ z, I z → (exec P Γ n fid b (S z) fun e st => .ok (e, st)).Holds (RoundPost I S μ m0 p out (μ z))) : LoopFrom P b m0 (S z0) Y p out :=
  loopFrom hng hmix hΓ n fid I S μ m0 z0 h0 fun z hz => (round z hz).out

/-! ### a law's row -/
theorem law_calls (hng : NoNG P) (hmix : P.follows .mixedOrders = true) {Γ : Env} (hΓ : EnvOK P Γ) (n : Nat) (f : FuncId) {fn : Func} (hfn : P.funcs[f]? = some fn) (hb : fn.body.isSome = true) (hno : ∀ args mem, Γ.call f args mem = none) {args : List SV} {mem : List Blk} {ρ : Loc} {W : World} {ys : List Value} {B : Base} (hm : MemOK ρ W ⟨fun _ => False, B⟩ mem W) (hargs : RelL ρ args ys)
    (h : (callX P Γ n f args mem fun s mem => .ok (s, mem)).Holds fun r => r.1 = .v (.bool true)) : Calls P f ys.toArray W fun e w' => e = .returned (.bool true) ∧ RowKit.Below W.heap.size W w' := by
  obtain ⟨c, hb⟩ := Option.isSome_iff_exists.1 hb
  refine (calls_of_exec hng hmix hΓ n f hfn hb hno hm (Frm.refl _ _) hargs h.out).mono ?_
  rintro e w' ⟨ρ', s, v, mem', rfl, _, hv, _, hf, hr⟩
  simp only at hr
  subst hr
  simp only [Rel] at hv
  subst hv
  exact ⟨rfl, hf.below⟩
theorem MemOK.none {B : Base} {W : World} (hB : ∀ k o, B k = some o → W.heap[k]? = some o) {X : Lim} (hX : X.b0 = B) : MemOK ⟨fun _ => Option.none, B⟩ W X [] W :=
  MemOK.start (locs := []) hB hX rfl (fun i b r hb => by simp at hb)
theorem open_flat {H : Type} {enc : TypeId × Value → H} {w W : World} {base b0 : Nat} {spare : Nat → Bool} {held : Bool} {rr : Reach} {t : TypeId} {d : Nat} {ks : List CK} {fs : Array Field} {v : Value} {dd : DataW H} {ps : List MemPlace} (hk : flatK P d t = some ks) (hu : P.underlying t = some (.struct fs)) (hval : Value.okWide P W rr b0 t v) (h : DataW.Trod enc P w base spare held t v dd ps) :
    ∃ r : RowT ks, v = .agg (rowV ks r).toArray ∧ RowWF ks r := by
  obtain ⟨cs, rfl, _⟩ := WideShapes.okWide_struct hu hval
  obtain ⟨fuel, hf⟩ := h
  obtain ⟨r, hr, hw⟩ := flat_typed d hk hf
  refine ⟨r, ?_, hw⟩
  simp only [Value.cells] at hr
  rw [← hr]
/-- what a slice of flat values is, as it came in -/
def RowsIn (ks : List CK) (W : World) (a : Option Addr) (len cap : Nat) : Prop :=
  (len = 0 ∧ cap = 0) ∨ ∃ (b o : Nat) (g : Nat → RowT ks), a = some ⟨b, o, Option.none⟩ ∧ len ≤ cap ∧ cap ≤ maxLen ∧ b < W.heap.size ∧ ∀ i, i < cap → RowWF ks (g i) ∧ ∀ j c, (rowV ks (g i))[j]? = some c → W.cell? ⟨b, o + (i * ks.length + j), Option.none⟩ = some c
theorem open_rows {H : Type} {enc : TypeId × Value → H} {W : World} {base : Nat} {held : Bool} {t e : TypeId} {d : Nat} {ks : List CK} {a : Option Addr} {len cap : Nat} {dd : DataW H} {ps : List MemPlace} (hk : flatK P d e = some ks) (hc : P.cellsOf e = ks.length) (hpos : 0 < ks.length) (hu : P.underlying t = some (.slice e))
    (h : DataW.Trod enc P W base (fun _ => true) held t (.slice a len cap) dd ps) : RowsIn ks W a len cap := by
  obtain ⟨fuel, hf⟩ := h
  rcases open_row hu hk hc hpos (v := .slice a len cap) rfl hf with ⟨a', h⟩ | ⟨b, o, len', cap', g, h, h1, h2, h3, h4⟩
  · cases h; exact .inl ⟨rfl, rfl⟩
  · cases h; exact .inr ⟨b, o, g, rfl, h1, h2, h3, h4⟩
/-- the rows, as a list -/
theorem RowsIn.list {ks : List CK} {W : World} {a : Option Addr} {len cap : Nat} (h : RowsIn ks W a len cap) :
    (len = 0 ∧ cap = 0) ∨ ∃ (b o : Nat) (l : List (RowT ks)), a = some ⟨b, o, Option.none⟩ ∧ len = l.length ∧ l.length ≤ cap ∧ cap ≤ maxLen ∧ b < W.heap.size ∧ (∀ r ∈ l, RowWF ks r) ∧ RowsOK W false ⟨b, o, Option.none, 0⟩ ks l := by
  rcases h with h | ⟨b, o, g, rfl, h1, h2, h3, h4⟩
  · exact .inl h
  · refine .inr ⟨b, o, (List.range len).map g, rfl, by simp, by simpa using h1, h2, h3, fun r hr => ?_, fun k x hk j c hj => ⟨?_, fun e => by cases e⟩⟩
    · obtain ⟨i, hi, rfl⟩ := List.mem_map.1 hr
      have hi : i < len := by simpa using hi
      exact (h4 i (by omega)).1
    · have hkl : k < len := by have := (List.getElem?_eq_some_iff.1 hk).1; simpa using this
      simp only [List.getElem?_map, List.getElem?_range hkl, Option.map_some, Option.some.injEq] at hk
      subst hk
      exact (h4 k (by omega)).2 j c hj
end Go.Proofs.Ytdimocgjcneedaa.Sx
