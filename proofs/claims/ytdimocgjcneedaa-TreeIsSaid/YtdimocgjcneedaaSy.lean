import Derived.Test.YtdimocgjcneedaaSx
set_option linter.unusedVariables false
set_option linter.unusedSimpArgs false
namespace Go.Proofs.Ytdimocgjcneedaa.Sx

/-! ### texts of bytes are compared as they should be -/
theorem ba_beq_iff (a b : ByteArray) : (a == b) = true ↔ a = b := by
  cases a with | mk a => cases b with | mk b =>
  show ((a == b) = true) ↔ _
  rw [beq_iff_eq]
  constructor
  · rintro rfl; rfl
  · intro h; injection h
instance : LawfulBEq ByteArray where
  eq_of_beq h := (ba_beq_iff _ _).1 h
  rfl := (ba_beq_iff _ _).2 rfl
/-! ## 13. Calls in a small memory -/
def posOf : List Nat → Nat → Option Nat
  | [], _ => none
  | x :: xs, b => if x = b then some 0 else (posOf xs b).map (· + 1)
theorem posOf_cons (x : Nat) (xs : List Nat) (b : Nat) : posOf (x :: xs) b = if x = b then some 0 else (posOf xs b).map (· + 1) := rfl
theorem posOf_some : ∀ {σ : List Nat} {b i : Nat}, posOf σ b = some i → σ[i]? = some b
  | x :: xs, b, i, h => by
    unfold posOf at h
    split at h
    · rename_i e; cases h; simp [e]
    · obtain ⟨j, hj, rfl⟩ := Option.map_eq_some_iff.1 h
      simpa using posOf_some hj
  | [], b, i, h => by simp [posOf] at h
theorem posOf_none : ∀ {σ : List Nat} {b : Nat}, posOf σ b = none → b ∉ σ
  | [], b, _ => by simp
  | x :: xs, b, h => by
    unfold posOf at h
    split at h
    · cases h
    · rename_i e
      have := posOf_none (Option.map_eq_none_iff.1 h)
      simp only [List.mem_cons, not_or]
      exact ⟨fun e' => e e'.symm, this⟩
mutual
/-- a value, its blocks named anew; what has no name is forgotten -/
def SV.ren (f : Nat → Option Nat) : SV → SV
  | .v x => .v x
  | .ptr b off => match f b with
    | some i => .ptr i off
    | none => .any
  | .eptr b sz k j => match f b with
    | some i => .eptr i sz k j
    | none => .any
  | .slc b off len cap => match f b with
    | some i => .slc i off len cap
    | none => .any
  | .eslc b sz k len cap => match f b with
    | some i => .eslc i sz k len cap
    | none => .any
  | .oslc b sz k len => match f b with
    | some i => .oslc i sz k len
    | none => .any
  | .zslc b => match f b with
    | some i => .zslc i
    | none => .any
  | .fn g cs => .fn g (renL f cs)
  | .agg cs => .agg (renL f cs)
  | .tup cs => .tup (renL f cs)
  | .sv k x => .sv k x
  | .sptr k x i j => .sptr k x i j
  | .osv b i j e ks x => match f b with
    | some b' => .osv b' i j e ks x
    | none => .any
  | .optr b k j e ks x i jj => match f b with
    | some b' => .optr b' k j e ks x i jj
    | none => .any
  | .any => .any
def renL (f : Nat → Option Nat) : List SV → List SV
  | [] => []
  | s :: ss => s.ren f :: renL f ss
end
structure RenOK (f : Nat → Option Nat) (ρ ρ' : Loc) : Prop where
  places : ∀ b i r, f b = some i → ρ b = some r → ρ' i = some r
  base : Base.le ρ.base ρ'.base
mutual
theorem Rel.ren {f : Nat → Option Nat} {ρ ρ' : Loc} (h : RenOK f ρ ρ') : ∀ (s : SV) {y : Value}, Rel ρ s y → Rel ρ' (s.ren f) y
  | .v x, y, h1 => by simpa only [Rel, SV.ren] using h1
  | .any, y, h1 => by simp [Rel, SV.ren]
  | .ptr b off, y, h1 => by
    simp only [Rel] at h1; obtain ⟨r, hr, e⟩ := h1
    simp only [SV.ren]; split
    · simp only [Rel]; exact ⟨r, h.places _ _ _ ‹_› hr, e⟩
    · simp [Rel]
  | .eptr b sz k j, y, h1 => by
    simp only [Rel] at h1; obtain ⟨r, hr, e⟩ := h1
    simp only [SV.ren]; split
    · simp only [Rel]; exact ⟨r, h.places _ _ _ ‹_› hr, e⟩
    · simp [Rel]
  | .slc b off len cap, y, h1 => by
    simp only [Rel] at h1; obtain ⟨r, hr, e⟩ := h1
    simp only [SV.ren]; split
    · simp only [Rel]; exact ⟨r, h.places _ _ _ ‹_› hr, e⟩
    · simp [Rel]
  | .eslc b sz k len cap, y, h1 => by
    simp only [Rel] at h1; obtain ⟨r, hr, e⟩ := h1
    simp only [SV.ren]; split
    · simp only [Rel]; exact ⟨r, h.places _ _ _ ‹_› hr, e⟩
    · simp [Rel]
  | .oslc b sz k len, y, h1 => by
    simp only [Rel] at h1; obtain ⟨r, hr, e⟩ := h1
    simp only [SV.ren]; split
    · simp only [Rel]; exact ⟨r, h.places _ _ _ ‹_› hr, e⟩
    · simp [Rel]
  | .zslc b, y, h1 => by
    simp only [Rel] at h1; obtain ⟨r, hr, e⟩ := h1
    simp only [SV.ren]; split
    · simp only [Rel]; exact ⟨r, h.places _ _ _ ‹_› hr, e⟩
    · simp [Rel]
  | .fn g cs, y, h1 => by simp only [Rel, SV.ren] at h1 ⊢; obtain ⟨ys, hy, e⟩ := h1; exact ⟨ys, RelL.ren h cs hy, e⟩
  | .agg cs, y, h1 => by simp only [Rel, SV.ren] at h1 ⊢; obtain ⟨ys, hy, e⟩ := h1; exact ⟨ys, RelL.ren h cs hy, e⟩
  | .tup cs, y, h1 => by simp only [Rel, SV.ren] at h1 ⊢; obtain ⟨ys, hy, e⟩ := h1; exact ⟨ys, RelL.ren h cs hy, e⟩
  | .sv k x, y, h1 => by simp only [Rel, SV.ren] at h1 ⊢; exact ⟨h1.1, CK.good.le h.base k x h1.2⟩
  | .sptr k x i j, y, h1 => by simp only [Rel, SV.ren] at h1 ⊢; exact ⟨CK.good.le h.base k x h1.1, h1.2⟩
  | .osv b i j e ks x, y, h1 => by
    simp only [Rel] at h1
    simp only [SV.ren]; split
    · simp only [Rel]; exact h1
    · simp [Rel]
  | .optr b k j e ks x i jj, y, h1 => by
    simp only [Rel] at h1
    simp only [SV.ren]; split
    · simp only [Rel]; exact h1
    · simp [Rel]
theorem RelL.ren {f : Nat → Option Nat} {ρ ρ' : Loc} (h : RenOK f ρ ρ') : ∀ (s : List SV) {y : List Value}, RelL ρ s y → RelL ρ' (renL f s) y
  | [], y, h1 => by simpa only [RelL, renL] using h1
  | s :: ss, y, h1 => by
    simp only [RelL, renL] at h1 ⊢
    obtain ⟨y0, ys, e, a1, a2⟩ := h1
    exact ⟨y0, ys, e, Rel.ren h s a1, RelL.ren h ss a2⟩
end
theorem renL_get (f : Nat → Option Nat) : ∀ (l : List SV) (j : Nat), (renL f l)[j]? = (l[j]?).map (SV.ren f)
  | [], j => by simp [renL]
  | s :: ss, 0 => by simp [renL]
  | s :: ss, j + 1 => by simpa [renL] using renL_get f ss j
def Body.ren (f : Nat → Option Nat) : Body → Body
  | .lit cs => .lit (renL f cs)
  | b => b
theorem Body.ren_own2 (f : Nat → Option Nat) (b : Body) : (b.ren f).own2 = b.own2 := by cases b <;> rfl
theorem Body.ren_hold (f : Nat → Option Nat) (b : Body) (r : Place) : (b.ren f).hold r ↔ b.hold r := by cases b <;> rfl
theorem BodyOK.ren {f : Nat → Option Nat} {ρ ρ' : Loc} (h : RenOK f ρ ρ') {w : World} {rw : Bool} {r : Place} {b : Body} (hb : BodyOK ρ w rw r b) : BodyOK ρ' w rw r (b.ren f) := by
  cases b with
  | lit cs =>
    intro j s hj
    rw [renL_get] at hj
    obtain ⟨s0, h0, rfl⟩ := Option.map_eq_some_iff.1 hj
    obtain ⟨y, h1, h2, h3⟩ := hb j s0 h0
    exact ⟨y, h1, h2.ren h, h3⟩
  | row n sz g =>
    intro k hk
    refine ⟨(hb k hk).1, fun j s hj => ?_⟩
    obtain ⟨h0, y, h1, h2, h3⟩ := (hb k hk).2 j s hj
    exact ⟨h0, y, h1, Rel.down (n := 0) (ρ' := ρ) (ρ := ρ') ⟨fun i hi => absurd hi (Nat.not_lt_zero _), h.base⟩ s h0 h2, h3⟩
  | rows ks l => exact ⟨hb.1, hb.2.le h.base⟩
  | own e ks l => exact ⟨hb.1, hb.2.1, hb.2.2.le h.base⟩
  | dead => trivial
mutual
def SV.refs : SV → List Nat
  | .ptr b _ | .eptr b _ _ _ | .slc b _ _ _ | .eslc b _ _ _ _ | .oslc b _ _ _ | .zslc b => [b]
  | .fn _ cs | .agg cs | .tup cs => refsL cs
  | .osv b _ _ _ _ _ => [b]
  | .optr b _ _ _ _ _ _ _ => [b]
  | .v _ | .any | .sv _ _ | .sptr _ _ _ _ => []
def refsL : List SV → List Nat
  | [] => []
  | s :: ss => s.refs ++ refsL ss
end
def addNew : List Nat → List Nat → List Nat
  | σ, [] => σ
  | σ, b :: bs => addNew (if σ.contains b then σ else σ ++ [b]) bs
/-- the blocks that are reached, in the order in which they are met -/
def closeR (mem : List Blk) : Nat → Nat → List Nat → List Nat
  | 0, _, σ => σ
  | n + 1, i, σ => match σ[i]? with
    | none => σ
    | some b => closeR mem n (i + 1) (addNew σ (match mem[b]? with
      | some ⟨_, .lit cs⟩ => refsL cs
      | _ => []))
def canonS (mem : List Blk) (args : List SV) : List Nat := closeR mem mem.length 0 (addNew [] (refsL args))
def okS (σ : List Nat) (m : Nat) : Bool := decide σ.Nodup && σ.all fun b => decide (b < m)
/-- rows that a slice has, to be looked at only -/
def viewOf (mem : List Blk) (ks : List CK) (s : SV) : Option (Prop × Nat × List (RowT ks) × Option Nat) :=
  match readRows mem ks s with
  | some (p, n, l) => match s with
    | .v _ => some (p, n, l, none)
    | .zslc _ => some (p, n, l, none)
    | .slc b _ len cap => some (p ∧ len ≤ cap, n, l, some b)
    | .eslc b _ _ len cap => some (p ∧ len ≤ cap, n, l, some b)
    | .oslc b _ _ _ => some (p, n, l, some b)
    | _ => none
  | none => none
theorem viewOf_spec {mem : List Blk} {ks : List CK} {s : SV} {p : Prop} {n : Nat} {l : List (RowT ks)} {src : Option Nat} (h : viewOf mem ks s = some (p, n, l, src)) (hp : p) {ρ : Loc} {w : World} {y : Value} (hm : MemB ρ mem w) (hs : Rel ρ s y) :
    ∃ r : Place, (∀ (ρs : Loc) (j : Nat), ρs j = some r → Rel ρs (.oslc j ks.length 0 n) y) ∧ (RowsOK w false r ks l ∧ RowsGood ρ.base ks l) ∧ l.length = n ∧ (0 < n → ∃ b B rb, src = some b ∧ mem[b]? = some B ∧ ρ b = some rb ∧ rb.1 = r.1 ∧ B.body.hold rb) := by
  have main : ∀ {p' : Prop} {n' : Nat} {l' : List (RowT ks)}, readRows mem ks s = some (p', n', l') → p' → ∀ {src' : Option Nat}, (0 < n' → ∀ base c, y = .slice base n' c → n' ≤ c ∧ ∃ b B rb o, src' = some b ∧ mem[b]? = some B ∧ ρ b = some rb ∧ base = some ⟨rb.1, o, none⟩ ∧ B.body.hold rb) →
      ∃ r : Place, (∀ (ρs : Loc) (j : Nat), ρs j = some r → Rel ρs (.oslc j ks.length 0 n') y) ∧ (RowsOK w false r ks l' ∧ RowsGood ρ.base ks l') ∧ l'.length = n' ∧ (0 < n' → ∃ b B rb, src' = some b ∧ mem[b]? = some B ∧ ρ b = some rb ∧ rb.1 = r.1 ∧ B.body.hold rb) := by
    intro p' n' l' hr hp' src' hplace
    have hgood := (readRows_more hr hp' hm hs).1
    obtain ⟨hl, base, c, rfl, hcell⟩ := readRows_spec hr hp' hm hs fun _ => rfl
    rcases Nat.eq_zero_or_pos n' with h0 | h0
    · subst h0
      have hl0 : l' = [] := List.eq_nil_of_length_eq_zero hl
      subst hl0
      refine ⟨⟨0, 0, base, c⟩, fun ρs j hj => ?_, ⟨fun k x hk => by simp at hk, hgood⟩, rfl, fun h => absurd h (Nat.lt_irrefl _)⟩
      simp only [Rel]
      refine ⟨_, hj, ?_, fun h => absurd h (Nat.lt_irrefl _)⟩
      by_cases hc : c = 0
      · simp [hc]
      · simp only [if_neg hc, Nat.zero_mul, Nat.sub_zero]
        cases base <;> simp [Addr.add]
    · obtain ⟨hle, b, B, rb, o, h1, h2, h3, rfl, h5⟩ := hplace h0 base c rfl
      rcases hcell with hz | ⟨a, ha, hcell⟩
      · omega
      · cases ha
        refine ⟨⟨rb.1, o, some ⟨rb.1, o, none⟩, c⟩, fun ρs j hj => ?_, ⟨RowsOK.iff.2 fun j v hj => ⟨?_, fun e => by cases e⟩, hgood⟩, hl, fun _ => ⟨b, B, rb, h1, h2, h3, rfl, h5⟩⟩
        · simp only [Rel]
          refine ⟨_, hj, ?_, fun _ => ⟨rfl, by show 0 + n' ≤ c; omega⟩⟩
          simp only [if_neg (show ¬ c = 0 by omega), Nat.zero_mul, Nat.sub_zero, Option.map_some]
          rfl
        · have := hcell j v hj
          rwa [addr_add] at this
  unfold viewOf at h
  split at h
  · rename_i p' n' l' hr
    split at h
    · rename_i x
      cases h
      refine main hr hp fun hn base c hy => ?_
      unfold readRows at hr
      split at hr <;> first | cases hr | skip
      all_goals (first | (split at hr <;> first | (cases hr; omega) | cases hr) | skip)
      all_goals simp_all
    · cases h
      refine main hr hp fun hn base c hy => ?_
      simp only [readRows, Option.some.injEq, Prod.mk.injEq] at hr
      omega
    · rename_i b off len cap
      cases h
      refine main hr hp.1 fun hn base c hy => ?_
      simp only [Rel] at hs
      obtain ⟨r, hr1, rfl⟩ := hs
      cases hy
      unfold readRows at hr
      simp only at hr
      split at hr
      · rename_i rw cs hb
        exact ⟨hp.2, b, _, r, r.2 + off, rfl, hb, hr1, rfl, trivial⟩
      · cases hr
    · rename_i b sz k len cap
      cases h
      have hs' := hs
      simp only [Rel] at hs
      obtain ⟨r, hr1, rfl⟩ := hs
      refine main hr hp.1 fun hn base c hy => ?_
      cases hy
      have hlen := (readRows_spec hr hp.1 hm hs' fun _ => rfl).1
      have hr0 := hr
      unfold readRows at hr
      simp only at hr
      split at hr
      · rename_i rw ks' l0 hb
        split at hr
        · rename_i he
          subst he
          split at hr
          · cases hr
            refine ⟨hp.2, b, _, r, r.2 + k * sz, rfl, hb, hr1, rfl, ?_⟩
            show 0 < l0.length
            have := hp.1; omega
          · cases hr
        · cases hr
      · rename_i rw e0 ks' l0 hb
        split at hr
        · rename_i he
          subst he
          split at hr
          · cases hr
            refine ⟨hp.2, b, _, r, r.2 + k * sz, rfl, hb, hr1, rfl, ?_⟩
            obtain ⟨r', hr', hbody⟩ := hm b _ hb
            rw [hr1] at hr'; cases hr'
            have : l0.length ≤ r.cap := hbody.2.1.1
            show 0 < r.cap
            have := hp.1; omega
          · cases hr
        · cases hr
      · cases hr
    · rename_i b sz k len
      cases h
      have hs' := hs
      simp only [Rel] at hs
      obtain ⟨r, hr1, rfl, hpos⟩ := hs
      refine main hr hp fun hn base c hy => ?_
      obtain ⟨rfl, hy2, rfl⟩ : (if r.cap = k then r.ptr else r.ptr.map (·.add (k * sz))) = base ∧ len = n ∧ r.cap - k = c := by
        injection hy with e1 e2 e3; exact ⟨e1, e2, e3⟩
      subst hy2
      obtain ⟨hp1, hp2⟩ := hpos hn
      have hbase : (if r.cap = k then r.ptr else r.ptr.map (·.add (k * sz))) = some ⟨r.1, r.2 + k * sz, none⟩ := by
        rw [if_neg (by omega), hp1]; simp [addr_add]
      have hr0 := hr
      unfold readRows at hr
      simp only at hr
      split at hr
      · rename_i rw ks' l0 hb
        split at hr
        · rename_i he
          subst he
          split at hr
          · cases hr
            refine ⟨by omega, b, _, r, r.2 + k * sz, rfl, hb, hr1, hbase, ?_⟩
            show 0 < l0.length
            have := hp; omega
          · cases hr
        · cases hr
      · rename_i rw e0 ks' l0 hb
        split at hr
        · rename_i he
          subst he
          split at hr
          · cases hr
            refine ⟨by omega, b, _, r, r.2 + k * sz, rfl, hb, hr1, hbase, ?_⟩
            show 0 < r.cap
            omega
          · cases hr
        · cases hr
      · cases hr
    · cases h
  · cases h
/-! ### the frame rule -/
def shutB (b : Blk) : Blk := if b.rw = true then b else ⟨true, .dead⟩
/-- blocks laid back where they were; what was only to be read stays as it was -/
def putAll : List Nat → List Blk → List Blk → List Blk
  | b :: bs, n :: ns, mem => putAll bs ns (match mem[b]? with
    | some ⟨true, _⟩ => mem.set b (shutB n)
    | _ => mem)
  | _, _, mem => mem
theorem putAll_get : ∀ (σ : List Nat) (ns mem : List Blk), σ.Nodup → σ.length ≤ ns.length → ∀ j, (putAll σ ns mem)[j]? = match posOf σ j with
    | some i => (match mem[j]? with
      | some ⟨true, _⟩ => (ns[i]?).map shutB
      | x => x)
    | none => mem[j]?
  | [], ns, mem, _, _, j => by simp [putAll, posOf]
  | b :: bs, [], mem, _, hl, j => by simp at hl
  | b :: bs, n :: ns, mem, hn, hl, j => by
    have hn' := List.nodup_cons.1 hn
    simp only [putAll]
    rw [putAll_get bs ns _ hn'.2 (by simpa using hl) j, posOf_cons]
    by_cases hbj : b = j
    · subst hbj
      have hnone : posOf bs b = none := by
        cases hp : posOf bs b with
        | none => rfl
        | some i => exact absurd (List.mem_of_getElem? (posOf_some hp)) hn'.1
      rw [hnone, if_pos rfl]
      simp only
      cases hm : mem[b]? with
      | none => simp [hm]
      | some x =>
        obtain ⟨rw, body⟩ := x
        cases rw with
        | true =>
          have hlt := (List.getElem?_eq_some_iff.1 hm).1
          simp [hlt]
        | false => simp [hm]
    · rw [if_neg hbj]
      have hset : (match mem[b]? with
        | some ⟨true, _⟩ => mem.set b (shutB n)
        | _ => mem)[j]? = mem[j]? := by
        split
        · rw [List.getElem?_set_ne hbj]
        · rfl
      rw [hset]
      cases posOf bs j with
      | none => rfl
      | some i => simp
theorem putAll_length : ∀ (σ : List Nat) (ns mem : List Blk), (putAll σ ns mem).length = mem.length
  | [], ns, mem => by simp [putAll]
  | b :: bs, [], mem => by simp [putAll]
  | b :: bs, n :: ns, mem => by
    simp only [putAll]
    rw [putAll_length bs ns _]
    split <;> simp
/-- the blocks' names in the great memory -/
def upN (σ : List Nat) (m nv i : Nat) : Option Nat := if i < σ.length then σ[i]? else if i < σ.length + nv then none else some (m + (i - (σ.length + nv)))
def Blk.ren (f : Nat → Option Nat) (b : Blk) : Blk := ⟨b.rw, b.body.ren f⟩
def backMem (σ : List Nat) (nv : Nat) (mem ms : List Blk) : List Blk :=
  putAll σ (ms.map (Blk.ren (upN σ mem.length nv))) mem ++ (ms.drop (σ.length + nv)).map fun b => shutB (b.ren (upN σ mem.length nv))
def upLoc (σ : List Nat) (m nv : Nat) (ρ ρs : Loc) : Loc := ⟨fun j => if j < m then ρ j else ρs (σ.length + nv + (j - m)), ρs.base⟩
/-- the same to be had of a block, as far as others are concerned -/
structure LikeB (ρ ρs : Loc) (w : World) (r : Place) (B B' : Blk) : Prop where
  ok : BodyOK ρs w B'.rw r B'.body
  hold : B'.body.hold r ↔ B.body.hold r
  own2 : B'.body.own2 = B.body.own2
theorem frame_rule {P : Program} {f : FuncId} {σ : List Nat} {nv : Nat} {ms mem : List Blk} {ρ ρs : Loc} {w0 w : World} {X : Lim} {ys : List Value} {T : Tr (SV × List Blk)} {R : SV × List Blk → Prop}
    (he : ∀ (w0 : World) (X : Lim) (R : SV × List Blk → Prop), MemOK ρs w0 X ms w → Frm w0 X w → T.holds R → Calls P f ys.toArray w (CallPost ρs w0 X R))
    (hm : MemOK ρ w0 X mem w) (hf : Frm w0 X w) (hσ : σ.Nodup) (hσm : ∀ b ∈ σ, b < mem.length) (hlen : ms.length = σ.length + nv) (hbase : ρs.base = ρ.base)
    (hold : ∀ (i b : Nat), σ[i]? = some b → ∀ B, mem[b]? = some B → ∃ B', ms[i]? = some B' ∧ B'.rw = B.rw ∧ ρs i = ρ b ∧ ∀ r, ρ b = some r → BodyOK ρ w B.rw r B.body → LikeB ρ ρs w r B B')
    (hview : ∀ i B', σ.length ≤ i → ms[i]? = some B' → B'.rw = false ∧ B'.body.own2 = [] ∧ ∃ r, ρs i = some r ∧ BodyOK ρs w false r B'.body ∧ (B'.body.hold r → ∃ b B rb, b ∉ σ ∧ mem[b]? = some B ∧ ρ b = some rb ∧ rb.1 = r.1 ∧ B.body.hold rb))
    (hpast : ∀ i, ms.length ≤ i → ρs i = none)
    (hR : T.holds fun r => R (r.1.ren (upN σ mem.length nv), backMem σ nv mem r.2)) : Calls P f ys.toArray w (CallPost ρ w0 X R) := by
  have hget : ∀ b, b < mem.length → ∃ B, mem[b]? = some B := fun b hb => ⟨_, List.getElem?_eq_getElem hb⟩
  have hσget : ∀ {i b}, σ[i]? = some b → ∃ B, mem[b]? = some B := fun h => hget _ (hσm _ (List.mem_of_getElem? h))
  have inj : ∀ {i j b}, σ[i]? = some b → σ[j]? = some b → i = j := fun {i j b} hi hj => (List.getElem?_inj (List.getElem?_eq_some_iff.1 hi).1 hσ).1 (hi.trans hj.symm)
  let X' : Lim := ⟨fun k => ∃ (i b : Nat) (B : Blk) (r : Place), σ[i]? = some b ∧ mem[b]? = some B ∧ B.rw = true ∧ ρ b = some r ∧ ((B.body.hold r ∧ r.1 = k) ∨ k ∈ B.body.own2), ρ.base⟩
  -- what may be written is of the great memory's own
  have mine : ∀ k, X' k → w0.heap.size ≤ k ∨ X k := by
    rintro k ⟨i0, b0, B0, r0, k1, k2, k3, k4, k5⟩
    rcases k5 with ⟨k5, k6⟩ | k5
    · obtain ⟨r0', k7, _, k8⟩ := hm.blk b0 B0 k2
      rw [k4] at k7; cases k7
      have := (k8 k5).2 k3
      rwa [k6] at this
    · exact ((hm.more b0 B0 k k2 k5).2 k3).1
  -- a block that is not one of them keeps what it has
  have notX : ∀ (b : Nat) (B : Blk) (r : Place), mem[b]? = some B → ρ b = some r → (∀ (i : Nat), σ[i]? = some b → B.rw = false) → ∀ k, (B.body.hold r ∧ k = r.1) ∨ k ∈ B.body.own2 → k < w.heap.size ∧ ¬ X' k := by
    intro b B r hB hr hno k hk
    obtain ⟨r', hr', _, hx⟩ := hm.blk b B hB
    rw [hr] at hr'; cases hr'
    refine ⟨?_, ?_⟩
    · rcases hk with ⟨hk, rfl⟩ | hk
      · exact (hx hk).1
      · exact (hm.more b B k hB hk).1
    · rintro ⟨i, c, C, rc, k1, k2, k3, k4, k5⟩
      have hne : c ≠ b := by
        rintro rfl
        rw [hB] at k2; cases k2
        rw [hno i k1] at k3; cases k3
      rcases hk with ⟨hk, rfl⟩ | hk
      · rcases k5 with ⟨k5, k6⟩ | k5
        · exact hm.apart c b C B rc r hne k2 hB k3 k4 hr k5 hk k6
        · exact hm.moreA c b C B r r.1 k2 hB k5 (.inl k3) hr hk rfl
      · rcases k5 with ⟨k5, k6⟩ | k5
        · exact hm.moreA b c B C rc k hB k2 hk (.inr k3) k4 k5 k6.symm
        · exact hm.moreB c b C B k hne k2 hB k3 k5 hk
  -- the small blocks' places are those of great ones
  have place : ∀ i b, σ[i]? = some b → ∃ B B' r, mem[b]? = some B ∧ ms[i]? = some B' ∧ B'.rw = B.rw ∧ ρ b = some r ∧ ρs i = some r ∧ LikeB ρ ρs w r B B' ∧ (B.body.hold r → r.1 < w.heap.size ∧ (B.rw = true → w0.heap.size ≤ r.1 ∨ X r.1)) := by
    intro i b hi
    obtain ⟨B, hB⟩ := hσget hi
    obtain ⟨B', h1, h2, h3, h4⟩ := hold i b hi B hB
    obtain ⟨r, hr, hb, hx⟩ := hm.blk b B hB
    exact ⟨B, B', r, hB, h1, h2, hr, h3.trans hr, h4 r hr hb, hx⟩
  have own : ∀ (i : Nat) (bi : Blk) (k : Nat), ms[i]? = some bi → k ∈ bi.body.own2 → ∃ b B, σ[i]? = some b ∧ mem[b]? = some B ∧ bi.rw = B.rw ∧ k ∈ B.body.own2 := by
    intro i bi k hi hk
    by_cases hiσ : i < σ.length
    · obtain ⟨B, B', r, h1, h2, h3, h4, h5, h6, h7⟩ := place i _ (List.getElem?_eq_getElem hiσ)
      rw [hi] at h2; cases h2
      exact ⟨_, B, List.getElem?_eq_getElem hiσ, h1, h3, h6.own2 ▸ hk⟩
    · obtain ⟨_, h1, _⟩ := hview i bi (Nat.le_of_not_lt hiσ) hi
      rw [h1] at hk; cases hk
  -- a block that holds something holds it in the great memory too
  have held : ∀ (j : Nat) (bj : Blk) (rj : Place), ms[j]? = some bj → ρs j = some rj → bj.body.hold rj → ∃ b B rb, mem[b]? = some B ∧ ρ b = some rb ∧ rb.1 = rj.1 ∧ B.body.hold rb ∧ ((σ[j]? = some b ∧ bj.rw = B.rw) ∨ (b ∉ σ ∧ bj.rw = false ∧ bj.body.own2 = [])) := by
    intro j bj rj hj hrj hh
    by_cases hjσ : j < σ.length
    · obtain ⟨B, B', r, h1, h2, h3, h4, h5, h6, h7⟩ := place j _ (List.getElem?_eq_getElem hjσ)
      rw [hj] at h2; cases h2
      rw [hrj] at h5; cases h5
      exact ⟨_, B, rj, h1, h4, rfl, h6.hold.1 hh, .inl ⟨List.getElem?_eq_getElem hjσ, h3⟩⟩
    · obtain ⟨g0, g00, r', g1, g2, g3⟩ := hview j bj (Nat.le_of_not_lt hjσ) hj
      rw [hrj] at g1; cases g1
      obtain ⟨b, C, rb, k1, k2, k3, k4, k5⟩ := g3 hh
      exact ⟨b, C, rb, k2, k3, k4, k5, .inr ⟨k1, g0, g00⟩⟩
  have hms : MemOK ρs w X' ms w := by
    refine ⟨fun i B' hi => ?_, hpast, fun i j bi bj ri rj hij hbi hbj hrw hri hrj hli hlj => ?_, fun i b k hi hk => ?_, fun i j bi bj rj k hbi hbj hk hrw hrj hlj => ?_, fun i j bi bj k hij hbi hbj hrw hk hk2 => ?_, fun k o hk => hm.base k o (by rw [← hbase]; exact hk), fun i b r hi hrw hr hl => ?_, fun k o hk => .inl (by show ρ.base k = some o; rw [← hbase]; exact hk)⟩
    · by_cases hiσ : i < σ.length
      · obtain ⟨B, B'', r, h1, h2, h3, h4, h5, h6, h8⟩ := place i _ (List.getElem?_eq_getElem hiσ)
        rw [hi] at h2; cases h2
        exact ⟨r, h5, h6.ok, fun hh => ⟨(h8 (h6.hold.1 hh)).1, fun e => .inr ⟨i, _, B, r, List.getElem?_eq_getElem hiσ, h1, by rw [← h3]; exact e, h4, .inl ⟨h6.hold.1 hh, rfl⟩⟩⟩⟩
      · obtain ⟨h1, _, r, h2, h3, h4⟩ := hview i B' (Nat.le_of_not_lt hiσ) hi
        refine ⟨r, h2, by rw [h1]; exact h3, fun hh => ⟨?_, fun e => by rw [h1] at e; cases e⟩⟩
        obtain ⟨b, B, rb, _, g2, g3, g4, g5⟩ := h4 hh
        obtain ⟨rb', g6, _, g7⟩ := hm.blk b B g2
        rw [g3] at g6; cases g6
        rw [← g4]; exact (g7 g5).1
    · obtain ⟨b, B, rb, h1, h2, h3, h4, h5⟩ := held i bi ri hbi hri hli
      obtain ⟨c, C, rc, k1, k2, k3, k4, k5⟩ := held j bj rj hbj hrj hlj
      rcases h5 with ⟨h5, h6⟩ | ⟨_, h5, _⟩
      · rw [← h3, ← k3]
        refine hm.apart b c B C rb rc ?_ h1 k1 (by rw [← h6]; exact hrw) h2 k2 h4 k4
        rintro rfl
        rcases k5 with ⟨k5, _⟩ | ⟨k5, _⟩
        · exact hij (inj h5 k5)
        · exact k5 (List.mem_of_getElem? h5)
      · rw [h5] at hrw; cases hrw
    · obtain ⟨c, C, h1, h2, h3, h4⟩ := own i b k hi hk
      obtain ⟨r, hr, _⟩ := hm.blk c C h2
      have := hm.more c C k h2 h4
      exact ⟨this.1, fun e => ⟨.inr ⟨i, c, C, r, h1, h2, by rw [← h3]; exact e, hr, .inr h4⟩, by rw [hbase]; exact (this.2 (by rw [← h3]; exact e)).2⟩⟩
    · obtain ⟨c, C, h1, h2, h3, h4⟩ := own i bi k hbi hk
      obtain ⟨b, B, rb, k1, k2, k3, k4, k5⟩ := held j bj rj hbj hrj hlj
      rw [← k3]
      refine hm.moreA c b C B rb k h2 k1 h4 ?_ k2 k4
      rcases k5 with ⟨_, k5⟩ | ⟨_, k5, _⟩
      · rw [← h3, ← k5]; exact hrw
      · rw [k5] at hrw; rw [← h3]; exact .inl (hrw.resolve_right (by simp))
    · obtain ⟨c, C, h1, h2, h3, h4⟩ := own i bi k hbi hk
      obtain ⟨b, B, k1, k2, k3, k4⟩ := own j bj k hbj hk2
      exact hm.moreB c b C B k (fun e => hij (inj h1 (e ▸ k1))) h2 k2 (by rw [← h3]; exact hrw) h4 k4
    · obtain ⟨c, C, rc, k1, k2, k3, k4, k5⟩ := held i b r hi hr hl
      rw [hbase, ← k3]
      rcases k5 with ⟨_, k5⟩ | ⟨_, k5, _⟩
      · exact hm.free c C rc k1 (by rw [← k5]; exact hrw) k2 k4
      · rw [k5] at hrw; cases hrw
  refine (he w X' _ hms (Frm.refl _ _) hR).mono ?_
  rintro e w' ⟨ρs', s, v, ms', rfl, hext, hrel, hmem', hfr', hRr⟩
  have hl' : σ.length + nv ≤ ms'.length := by
    rw [← hlen]
    refine Nat.le_of_not_lt fun hlt => ?_
    have : ∃ r, ρs ms'.length = some r := by
      obtain ⟨r, hr, _⟩ := hms.blk ms'.length _ (List.getElem?_eq_getElem hlt)
      exact ⟨r, hr⟩
    obtain ⟨r, hr⟩ := this
    have := hext _ _ hr
    rw [hmem'.past _ (Nat.le_refl _)] at this; cases this
  have upAt : ∀ j, upLoc σ mem.length nv ρ ρs' j = if j < mem.length then ρ j else ρs' (σ.length + nv + (j - mem.length)) := fun _ => rfl
  have hren : RenOK (upN σ mem.length nv) ρs' (upLoc σ mem.length nv ρ ρs') := by
    refine ⟨fun i j r hij hr => ?_, Base.le_refl _⟩
    rw [upAt]
    unfold upN at hij
    split at hij
    · rename_i hi
      obtain ⟨B, B', r', h1, h2, h3, h4, h5, _⟩ := place i j hij
      rw [hext _ _ h5] at hr; cases hr
      rw [if_pos (List.getElem?_eq_some_iff.1 h1).1]; exact h4
    · split at hij
      · cases hij
      · cases hij
        rw [if_neg (by omega)]
        rw [show σ.length + nv + (mem.length + (i - (σ.length + nv)) - mem.length) = i by omega]
        exact hr
  have hextB : Ext ρ (upLoc σ mem.length nv ρ ρs') := by
    refine ⟨fun b r hb => ?_, fun k o hk => hext.base k o (by rw [hbase]; exact hk)⟩
    rw [upAt, if_pos]
    · exact hb
    · refine Nat.lt_of_not_le fun hle => ?_
      rw [hm.past b hle] at hb; cases hb
  -- what was free to be written, and is not written, is not laid to rest
  have rest : ∀ k, k < w.heap.size → ¬ X' k → ρ.base k = none → ρs'.base k = none := by
    intro k h1 h2 h3
    cases hb : ρs'.base k with
    | none => rfl
    | some o =>
      rcases hmem'.grow k o hb with h4 | h4 | h4
      · have h4 : ρ.base k = some o := h4
        rw [h3] at h4; cases h4
      · omega
      · exact absurd h4 h2
  have hback : ∀ (j : Nat) (bj : Blk), (backMem σ nv mem ms')[j]? = some bj → (∃ (i : Nat) (B' : Blk), (upN σ mem.length nv i = some j) ∧ ms'[i]? = some B' ∧ bj = shutB (B'.ren (upN σ mem.length nv)) ∧ (∀ (b : Nat), σ[i]? = some b → ∃ B, mem[b]? = some B ∧ B.rw = true)) ∨ (mem[j]? = some bj ∧ ∀ (i : Nat), σ[i]? = some j → bj.rw = false) := by
    intro j bj hj
    unfold backMem at hj
    by_cases hjm : j < mem.length
    · rw [List.getElem?_append_left (by rw [putAll_length]; exact hjm), putAll_get _ _ _ hσ (by simp; omega)] at hj
      split at hj
      · rename_i i hi
        have hσi := posOf_some hi
        split at hj
        · rename_i body hB
          left
          rw [List.getElem?_map, Option.map_map] at hj
          obtain ⟨B', h1, rfl⟩ := Option.map_eq_some_iff.1 hj
          refine ⟨i, B', ?_, h1, rfl, fun b hb => ?_⟩
          · unfold upN; rw [if_pos (List.getElem?_eq_some_iff.1 hσi).1]; exact hσi
          · rw [hσi] at hb; cases hb; exact ⟨_, hB, rfl⟩
        · rename_i hne
          refine .inr ⟨hj, fun _ _ => ?_⟩
          obtain ⟨rw, body⟩ := bj
          cases rw with
          | false => rfl
          | true => exact absurd hj (hne body)
      · rename_i hno
        exact .inr ⟨hj, fun i hi => absurd (List.mem_of_getElem? hi) (posOf_none hno)⟩
    · rw [List.getElem?_append_right (by rw [putAll_length]; omega), putAll_length, List.getElem?_map] at hj
      obtain ⟨B', h1, rfl⟩ := Option.map_eq_some_iff.1 hj
      rw [List.getElem?_drop] at h1
      refine .inl ⟨σ.length + nv + (j - mem.length), B', ?_, h1, rfl, fun b hb => ?_⟩
      · unfold upN; rw [if_neg (by omega), if_neg (by omega)]; congr 1; omega
      · have := (List.getElem?_eq_some_iff.1 hb).1; omega
  have shutB_hold : ∀ {B : Blk} {r : Place}, (shutB B).body.hold r → B.rw = true ∧ B.body.hold r := by
    intro B r h
    unfold shutB at h
    split at h
    · exact ⟨‹_›, h⟩
    · exact h.elim
  have shutB_own : ∀ {B : Blk} {k : Nat}, k ∈ (shutB B).body.own2 → B.rw = true ∧ k ∈ B.body.own2 := by
    intro B k h
    unfold shutB at h
    split at h
    · exact ⟨‹_›, h⟩
    · cases h
  have shutB_rw : ∀ (B : Blk), (shutB B).rw = true := by
    intro B; unfold shutB; split
    · assumption
    · rfl
  -- what a block of the new memory has: of the call's, or as it was
  have has : ∀ (j : Nat) (bj : Blk) (rj : Place), (backMem σ nv mem ms')[j]? = some bj → upLoc σ mem.length nv ρ ρs' j = some rj → ∀ k, (bj.body.hold rj ∧ k = rj.1) ∨ k ∈ bj.body.own2 →
      (∃ i B', upN σ mem.length nv i = some j ∧ ms'[i]? = some B' ∧ B'.rw = true ∧ bj.rw = true ∧ ρs' i = some rj ∧ (bj.body.hold rj → B'.body.hold rj) ∧ (k ∈ bj.body.own2 → k ∈ B'.body.own2) ∧ k < w'.heap.size ∧ (w.heap.size ≤ k ∨ X' k)) ∨
      (mem[j]? = some bj ∧ ρ j = some rj ∧ k < w.heap.size ∧ ¬ X' k) := by
    intro j bj rj hj hrj k hk
    rcases hback j bj hj with ⟨i, B', h1, h2, rfl, h4⟩ | ⟨h1, h2⟩
    · obtain ⟨r, hr, _, hx⟩ := hmem'.blk i B' h2
      have hrr := hren.places _ _ _ h1 hr
      rw [hrj] at hrr; cases hrr
      have own' : ∀ k, k ∈ (shutB (B'.ren (upN σ mem.length nv))).body.own2 → B'.rw = true ∧ k ∈ B'.body.own2 := fun k h => by
        have := shutB_own h
        exact ⟨this.1, Body.ren_own2 _ _ ▸ this.2⟩
      have hold' : ∀ {r}, (shutB (B'.ren (upN σ mem.length nv))).body.hold r → B'.rw = true ∧ B'.body.hold r := fun h => by
        have := shutB_hold h
        exact ⟨this.1, (Body.ren_hold _ _ _).1 this.2⟩
      rcases hk with ⟨hk, rfl⟩ | hk
      · obtain ⟨h5, h6⟩ := hold' hk
        exact .inl ⟨i, B', h1, h2, h5, shutB_rw _, hr, fun _ => h6, fun h => (own' _ h).2, (hx h6).1, (hx h6).2 h5⟩
      · obtain ⟨h5, h6⟩ := own' k hk
        have h7 := hmem'.more i B' k h2 h6
        exact .inl ⟨i, B', h1, h2, h5, shutB_rw _, hr, fun h => (hold' h).2, fun _ => h6, h7.1, (h7.2 h5).1⟩
    · obtain ⟨r, hr, _⟩ := hm.blk j bj h1
      have := hextB _ _ hr
      rw [hrj] at this; cases this
      have h3 := notX j bj rj h1 hr h2 k hk
      exact .inr ⟨h1, hr, h3.1, h3.2⟩
  have loc : ∀ (j : Nat) (bj : Blk), (backMem σ nv mem ms')[j]? = some bj → ∃ rj, upLoc σ mem.length nv ρ ρs' j = some rj := by
    intro j bj hj
    rcases hback j bj hj with ⟨i, B', h1, h2, rfl, h4⟩ | ⟨h1, h2⟩
    · obtain ⟨r, hr, _⟩ := hmem'.blk i B' h2
      exact ⟨r, hren.places _ _ _ h1 hr⟩
    · obtain ⟨r, hr, _⟩ := hm.blk j bj h1
      exact ⟨r, hextB _ _ hr⟩
  have frm : ∀ k, k < w.heap.size → ¬ X' k → w'.heap[k]? = w.heap[k]? := fun k h1 h2 => hfr'.block k h1 h2
  refine ⟨upLoc σ mem.length nv ρ ρs', _, v, _, rfl, hextB, hrel.ren hren, ⟨fun j bj hj => ?_, fun j hj => ?_, fun i j bi bj ri rj hij hbi hbj hrw hri hrj hli hlj => ?_, fun i b k hi hk => ?_, fun i j bi bj rj k hbi hbj hk hrw hrj hlj => ?_, fun i j bi bj k hij hbi hbj hrw hk hk2 => ?_, hmem'.base, fun i b r hi hrw hr hl => ?_, fun k o hk => ?_⟩, ⟨hfr'.os.trans hf.os, hfr'.tape.trans hf.tape, hfr'.output.trans hf.output, Nat.le_trans hf.size hfr'.size, fun k hk hx => ?_⟩, hRr⟩
  · rcases hback j bj hj with ⟨i, B', h1, h2, rfl, h4⟩ | ⟨h1, h2⟩
    · obtain ⟨r, hr, hb, hx⟩ := hmem'.blk i B' h2
      refine ⟨r, hren.places _ _ _ h1 hr, ?_, fun hh => ?_⟩
      · unfold shutB
        split
        · exact hb.ren hren
        · trivial
      · obtain ⟨hrw, hh⟩ := shutB_hold hh
        have hh := (Body.ren_hold _ _ _).1 hh
        obtain ⟨h5, h6⟩ := hx hh
        refine ⟨h5, fun _ => ?_⟩
        rcases h6 hrw with h6 | h6
        · exact .inl (Nat.le_trans hf.size h6)
        · exact mine _ h6
    · obtain ⟨r, hr, hb, hx⟩ := hm.blk j bj h1
      refine ⟨r, hextB _ _ hr, (hb.mono hextB).of_block (fun hh => ?_) (fun k hk => ?_), fun hh => ⟨Nat.lt_of_lt_of_le (hx hh).1 hfr'.size, (hx hh).2⟩⟩
      · have := notX j bj r h1 hr h2 r.1 (.inl ⟨hh, rfl⟩)
        exact frm _ this.1 this.2
      · have := notX j bj r h1 hr h2 k (.inr hk)
        exact frm _ this.1 this.2
  · unfold backMem at hj
    simp only [List.length_append, putAll_length, List.length_map, List.length_drop] at hj
    rw [upAt, if_neg (by omega)]
    exact hmem'.past _ (by omega)
  · rcases has i bi ri hbi hri ri.1 (.inl ⟨hli, rfl⟩) with ⟨i', Bi, h1, h2, h3, _, h5, h6, _, _, h9⟩ | ⟨h1, h2, h3, h4⟩
    · rcases has j bj rj hbj hrj rj.1 (.inl ⟨hlj, rfl⟩) with ⟨j', Bj, k1, k2, k3, _, k5, k6, _⟩ | ⟨k1, k2, k3, k4⟩
      · refine hmem'.apart i' j' Bi Bj _ _ (fun e => hij ?_) h2 k2 h3 h5 k5 (h6 hli) (k6 hlj)
        subst e; rw [h1] at k1; exact Option.some.inj k1
      · intro e
        rw [← e] at k3 k4
        rcases h9 with h9 | h9
        · omega
        · exact k4 h9
    · rcases has j bj rj hbj hrj rj.1 (.inl ⟨hlj, rfl⟩) with ⟨j', Bj, k1, k2, k3, _, k5, k6, _, _, k9⟩ | ⟨k1, k2, k3, k4⟩
      · intro e
        rw [e] at h3 h4
        rcases k9 with k9 | k9
        · omega
        · exact h4 k9
      · exact hm.apart i j bi bj _ _ hij h1 k1 hrw h2 k2 hli hlj
  · obtain ⟨r, hr⟩ := loc i b hi
    rcases has i b r hi hr k (.inr hk) with ⟨i', Bi, h1, h2, h3, h4, h5, h6, h7, h8, h9⟩ | ⟨h1, h2, h3, h4⟩
    · refine ⟨h8, fun _ => ⟨h9.elim (fun h => .inl (Nat.le_trans hf.size h)) (mine k), ((hmem'.more i' Bi k h2 (h7 hk)).2 h3).2⟩⟩
    · have h5 := hm.more i b k h1 hk
      exact ⟨Nat.lt_of_lt_of_le h3 hfr'.size, fun e => ⟨(h5.2 e).1, rest k h3 h4 (h5.2 e).2⟩⟩
  · obtain ⟨ri, hri⟩ := loc i bi hbi
    rcases has i bi ri hbi hri k (.inr hk) with ⟨i', Bi, h1, h2, h3, h4, h5, h6, h7, h8, h9⟩ | ⟨h1, h2, h3, h4⟩
    · rcases has j bj rj hbj hrj rj.1 (.inl ⟨hlj, rfl⟩) with ⟨j', Bj, k1, k2, k3, _, k5, k6, _⟩ | ⟨k1, k2, k3, k4⟩
      · exact hmem'.moreA i' j' Bi Bj rj k h2 k2 (h7 hk) (.inl h3) k5 (k6 hlj)
      · intro e
        rw [← e] at k3 k4
        rcases h9 with h9 | h9
        · omega
        · exact k4 h9
    · rcases has j bj rj hbj hrj rj.1 (.inl ⟨hlj, rfl⟩) with ⟨j', Bj, k1, k2, k3, _, k5, k6, _, _, k9⟩ | ⟨k1, k2, k3, k4⟩
      · intro e
        rw [e] at h3 h4
        rcases k9 with k9 | k9
        · omega
        · exact h4 k9
      · exact hm.moreA i j bi bj rj k h1 k1 hk hrw k2 hlj
  · obtain ⟨ri, hri⟩ := loc i bi hbi
    obtain ⟨rj, hrj⟩ := loc j bj hbj
    rcases has i bi ri hbi hri k (.inr hk) with ⟨i', Bi, h1, h2, h3, h4, h5, h6, h7, h8, h9⟩ | ⟨h1, h2, h3, h4⟩
    · rcases has j bj rj hbj hrj k (.inr hk2) with ⟨j', Bj, k1, k2, k3, _, k5, k6, k7, _⟩ | ⟨k1, k2, k3, k4⟩
      · refine hmem'.moreB i' j' Bi Bj k (fun e => hij ?_) h2 k2 h3 (h7 hk) (k7 hk2)
        subst e; rw [h1] at k1; exact Option.some.inj k1
      · rcases h9 with h9 | h9
        · omega
        · exact k4 h9
    · rcases has j bj rj hbj hrj k (.inr hk2) with ⟨j', Bj, k1, k2, k3, _, k5, k6, _, _, k9⟩ | ⟨k1, k2, k3, k4⟩
      · rcases k9 with k9 | k9
        · omega
        · exact h4 k9
      · exact hm.moreB i j bi bj k hij h1 k1 hrw hk hk2
  · rcases has i b r hi hr r.1 (.inl ⟨hl, rfl⟩) with ⟨i', Bi, h1, h2, h3, h4, h5, h6, h7, h8, h9⟩ | ⟨h1, h2, h3, h4⟩
    · exact hmem'.free i' Bi r h2 h3 h5 (h6 hl)
    · exact rest r.1 h3 h4 (hm.free i b r h1 hrw h2 hl)
  · rcases hmem'.grow k o hk with h1 | h1 | h1
    · exact hm.grow k o h1
    · exact .inr (.inl (Nat.le_trans hf.size h1))
    · exact .inr (mine k h1)
  · rw [hfr'.block k (Nat.lt_of_lt_of_le hk hf.size) ?_]
    · exact hf.block k hk hx
    · intro h
      rcases mine k h with h | h
      · omega
      · exact hx h
/-! ### what is only looked at -/
def needAll {α : Type} : List Prop → Tr α → Tr α
  | [], t => t
  | p :: ps, t => .need p (needAll ps t)
theorem needAll_holds {α : Type} {Q : α → Prop} : ∀ (ps : List Prop) (t : Tr α), (needAll ps t).holds Q → (∀ p ∈ ps, p) ∧ t.holds Q
  | [], t, h => ⟨fun p hp => by simp at hp, h⟩
  | p :: ps, t, h => by
    obtain ⟨h1, h2⟩ := h
    obtain ⟨h3, h4⟩ := needAll_holds ps t (h2 h1)
    exact ⟨fun q hq => by
      rcases List.mem_cons.1 hq with rfl | hq
      · exact h1
      · exact h3 q hq, h4⟩
inductive VA where
  | keep (s : SV)
  | view (sz n : Nat)
structure Views where
  ps : List Prop
  as : List VA
  bs : List Blk
  os : List (Option Nat)
def roOf : List (Nat × List CK) → Nat → Option (List CK)
  | [], _ => none
  | x :: xs, i => if x.1 = i then some x.2 else roOf xs i
def viewAll (mem : List Blk) (ro : List (Nat × List CK)) : Nat → List SV → Option Views
  | _, [] => some ⟨[], [], [], []⟩
  | i, s :: ss => match viewAll mem ro (i + 1) ss with
    | none => none
    | some v => match roOf ro i with
      | none => some ⟨v.ps, .keep s :: v.as, v.bs, v.os⟩
      | some ks => match viewOf mem ks s with
        | some (p, n, l, src) => some ⟨p :: v.ps, .view ks.length n :: v.as, ⟨false, .rows ks l⟩ :: v.bs, src :: v.os⟩
        | none => none
def keeps : List VA → List SV
  | [] => []
  | .keep s :: as => s :: keeps as
  | .view _ _ :: as => keeps as
def finArgs (σ : List Nat) : Nat → List VA → List SV
  | _, [] => []
  | j, .keep s :: as => s.ren (posOf σ) :: finArgs σ j as
  | j, .view sz n :: as => .oslc j sz 0 n :: finArgs σ (j + 1) as
def srcOK (σ : List Nat) : List (Option Nat) → Bool
  | [] => true
  | none :: os => srcOK σ os
  | some b :: os => !(σ.contains b) && srcOK σ os
theorem srcOK_spec {σ : List Nat} : ∀ {os : List (Option Nat)}, srcOK σ os = true → ∀ (j b : Nat), os[j]? = some (some b) → b ∉ σ
  | [], _, j, b, h => by simp at h
  | none :: os, h0, 0, b, h => by simp at h
  | none :: os, h0, j + 1, b, h => srcOK_spec (os := os) (by simpa [srcOK] using h0) j b (by simpa using h)
  | some c :: os, h0, 0, b, h => by
    simp only [srcOK, Bool.and_eq_true, Bool.not_eq_true'] at h0
    simp only [List.getElem?_cons_zero, Option.some.injEq] at h
    subst h
    simpa using h0.1
  | some c :: os, h0, j + 1, b, h => by
    simp only [srcOK, Bool.and_eq_true] at h0
    exact srcOK_spec h0.2 j b (by simpa using h)
theorem viewAll_spec {mem : List Blk} {ro : List (Nat × List CK)} {ρ : Loc} {w : World} (hm : MemB ρ mem w) : ∀ (i : Nat) (args : List SV) {v : Views} {ys : List Value}, viewAll mem ro i args = some v → (∀ p ∈ v.ps, p) → RelL ρ args ys →
    ∃ rs : List Place, rs.length = v.bs.length ∧ (∀ (j : Nat) B, v.bs[j]? = some B → ∃ r ks l, rs[j]? = some r ∧ B = ⟨false, .rows ks l⟩ ∧ (RowsOK w false r ks l ∧ RowsGood ρ.base ks l) ∧ (0 < l.length → ∃ b B' rb, v.os[j]? = some (some b) ∧ mem[b]? = some B' ∧ ρ b = some rb ∧ rb.1 = r.1 ∧ B'.body.hold rb)) ∧
      ∀ (ρs : Loc) (σ : List Nat) (j0 : Nat), RenOK (posOf σ) ρ ρs → (∀ (j : Nat) r, rs[j]? = some r → ρs (j0 + j) = some r) → RelL ρs (finArgs σ j0 v.as) ys
  | i, [], v, ys, h, hp, hr => by
    cases h
    exact ⟨[], rfl, fun j B hj => by simp at hj, fun ρs σ j0 _ _ => by simpa only [finArgs, RelL] using hr⟩
  | i, s :: ss, v, ys, h, hp, hr => by
    obtain ⟨y, ys', rfl, hy, hys⟩ := hr.cons_inv
    unfold viewAll at h
    split at h
    · cases h
    · rename_i v' hv
      split at h
      · cases h
        obtain ⟨rs, h1, h2, h3⟩ := viewAll_spec hm (i + 1) ss hv hp hys
        exact ⟨rs, h1, h2, fun ρs σ j0 ha hb => .cons (hy.ren ha) (h3 ρs σ j0 ha hb)⟩
      · rename_i ks hk
        split at h
        · rename_i p n l src hvw
          cases h
          obtain ⟨rs, h1, h2, h3⟩ := viewAll_spec hm (i + 1) ss hv (fun q hq => hp q (by simp [hq])) hys
          obtain ⟨r, g1, g2, g3, g4⟩ := viewOf_spec hvw (hp p (by simp)) hm hy
          refine ⟨r :: rs, by simp [h1], fun j B hj => ?_, fun ρs σ j0 ha hb => .cons (g1 ρs j0 (by simpa using hb 0 r rfl)) (h3 ρs σ (j0 + 1) ha fun j r' hj => by
            have := hb (j + 1) r' (by simpa using hj)
            rwa [show j0 + (j + 1) = j0 + 1 + j by omega] at this)⟩
          cases j with
          | zero =>
            simp only [List.getElem?_cons_zero, Option.some.injEq] at hj
            subst hj
            refine ⟨r, ks, l, rfl, rfl, g2, fun hl => ?_⟩
            obtain ⟨b, B', rb, k1, k2, k3, k4, k5⟩ := g4 (by omega)
            exact ⟨b, B', rb, by simp [k1], k2, k3, k4, k5⟩
          | succ j => simpa using h2 j B (by simpa using hj)
        · cases h
def forceN {β : Type 1} : List Nat → (List Nat → β) → β
  | [], k => k []
  | x :: xs, k => forceN xs fun ys => k (x :: ys)
theorem forceN_eq {β : Type 1} : ∀ (l : List Nat) (k : List Nat → β), forceN l k = k l
  | [], k => rfl
  | x :: xs, k => by simp only [forceN]; rw [forceN_eq xs]
/-- a call in a memory of what it reaches alone; the slices that are only read are looked at as lists -/
def frameE (ro : List (Nat × List CK)) (e : Entry) : Entry := (e.1, fun args mem => match viewAll mem ro 0 args with
  | none => none
  | some v => forceN (canonS mem (keeps v.as)) fun σ => match okS σ mem.length && srcOK σ v.os with
    | true => match e.2 (finArgs σ σ.length v.as) (σ.map (fun b => ((mem[b]?).getD ⟨false, .dead⟩).ren (posOf σ)) ++ v.bs) with
      | some T => some (needAll v.ps (T.bind fun r => .ok (r.1.ren (upN σ mem.length v.bs.length), backMem σ v.bs.length mem r.2)))
      | none => none
    | false => none)
theorem frameE_ok {P : Program} {ro : List (Nat × List CK)} {e : Entry} (he : EntryOK P e) : EntryOK P (frameE ro e) := by
  intro args mem tr htr ρ w0 X w ys R hm hf hargs hR
  simp only [frameE] at htr
  split at htr
  · cases htr
  · rename_i v hv
    rw [forceN_eq] at htr
    generalize canonS mem (keeps v.as) = σ at htr
    split at htr
    · rename_i hok
      split at htr
      · rename_i T hT
        cases htr
        simp only [Bool.and_eq_true, okS, decide_eq_true_eq, List.all_eq_true] at hok
        obtain ⟨⟨hn, hlt⟩, hsrc⟩ := hok
        obtain ⟨hps, hR⟩ := needAll_holds _ _ hR
        obtain ⟨rs, h1, h2, h3⟩ := viewAll_spec hm.memB 0 args hv hps hargs
        let ρs : Loc := ⟨fun i => if i < σ.length then (σ[i]?).bind ρ else rs[i - σ.length]?, ρ.base⟩
        have hren : RenOK (posOf σ) ρ ρs := by
          refine ⟨fun b i r hb hr => ?_, Base.le_refl _⟩
          have hi := posOf_some hb
          show (if i < σ.length then (σ[i]?).bind ρ else rs[i - σ.length]?) = some r
          rw [if_pos (List.getElem?_eq_some_iff.1 hi).1, hi]; exact hr
        have hview : ∀ (j : Nat) r, rs[j]? = some r → ρs (σ.length + j) = some r := by
          intro j r hj
          show (if σ.length + j < σ.length then (σ[σ.length + j]?).bind ρ else rs[σ.length + j - σ.length]?) = some r
          rw [if_neg (by omega), show σ.length + j - σ.length = j by omega]; exact hj
        rw [Tr.holds_bind] at hR
        refine frame_rule (σ := σ) (nv := v.bs.length) (ρs := ρs) (fun w0 X R hm hf hT' => he _ _ T hT ρs w0 X w ys R hm hf (h3 ρs σ σ.length hren hview) hT') hm hf hn hlt (by simp) rfl (fun i b hi B hB => ?_) (fun i B' hi hB => ?_) (fun i hi => ?_) hR
        · have hil := (List.getElem?_eq_some_iff.1 hi).1
          refine ⟨B.ren (posOf σ), ?_, rfl, ?_, fun r hr hb => ⟨hb.ren hren, Body.ren_hold _ _ _, Body.ren_own2 _ _⟩⟩
          · rw [List.getElem?_append_left (by simpa using hil), List.getElem?_map, hi]
            simp [hB]
          · show (if i < σ.length then (σ[i]?).bind ρ else rs[i - σ.length]?) = ρ b
            rw [if_pos hil, hi]; rfl
        · rw [List.getElem?_append_right (by simpa using hi)] at hB
          simp only [List.length_map] at hB
          obtain ⟨r, ks, l, k1, rfl, k2, k3⟩ := h2 _ _ hB
          refine ⟨rfl, rfl, r, ?_, k2, fun hh => ?_⟩
          · have := hview _ _ k1
            rwa [show σ.length + (i - σ.length) = i by omega] at this
          · obtain ⟨b, B', rb, g1, g2, g3, g4, g5⟩ := k3 hh
            exact ⟨b, B', rb, srcOK_spec hsrc _ _ g1, g2, g3, g4, g5⟩
        · simp only [List.length_append, List.length_map] at hi
          show (if i < σ.length then (σ[i]?).bind ρ else rs[i - σ.length]?) = none
          rw [if_neg (by omega)]
          simp; omega
      · cases htr
    · cases htr

/-! ### nil slices, looked at as slices of a block of their own -/
def isNil0 : SV → Bool
  | .v (.slice none l c) => (l, c) == (0, 0)
  | _ => false
theorem isNil0_spec : ∀ {s : SV}, isNil0 s = true → s = .v (.slice none 0 0) := by
  intro s h
  unfold isNil0 at h
  split at h
  · simp only [beq_iff_eq, Prod.mk.injEq] at h
    obtain ⟨rfl, rfl⟩ := h; rfl
  · cases h
def padA (a : Nat) (e : TypeId) (ks : List CK) (args : List SV) (mem : List Blk) : List SV × List Blk :=
  match args[a]? with
  | some s => match isNil0 s with
    | true => (args.set a (.oslc mem.length ks.length 0 0), mem ++ [⟨true, .own e ks []⟩])
    | false => (args, mem)
  | none => (args, mem)
def padC (a k : Nat) (e : TypeId) (ks : List CK) (args : List SV) (mem : List Blk) : List SV × List Blk :=
  match args[a]? with
  | some (.ptr b off) => match mem[b]? with
    | some ⟨true, .lit cs⟩ => match cs[off + k]? with
      | some s => match isNil0 s with
        | true => (args, (mem ++ [(⟨true, .own e ks []⟩ : Blk)]).set b ⟨true, .lit (cs.set (off + k) (.oslc mem.length ks.length 0 0))⟩)
        | false => (args, mem)
      | none => (args, mem)
    | _ => (args, mem)
  | _ => (args, mem)
def padLoc : Place := ⟨0, 0, none, 0⟩
theorem pad_rel {ρ : Loc} {j sz : Nat} (h : ρ j = some padLoc) : Rel ρ (.oslc j sz 0 0) (.slice none 0 0) := by
  simp only [Rel]
  exact ⟨_, h, by simp [padLoc], fun h => absurd h (Nat.lt_irrefl _)⟩
theorem pad_push {ρ : Loc} {w0 w : World} {X : Lim} {mem : List Blk} (hm : MemOK ρ w0 X mem w) (e : TypeId) (ks : List CK) : MemOK (ext ρ mem.length padLoc) w0 X (mem ++ [⟨true, .own e ks []⟩]) w :=
  hm.push ⟨fun k x hk => by simp at hk, ⟨by simp [padLoc], by simp [padLoc], fun h => absurd h (Nat.lt_irrefl _)⟩, ⟨(fun r hr => by simp at hr), (fun r hr => by simp at hr), by simp [rowsOwned], (fun k hk => by simp [rowsOwned] at hk)⟩⟩ (fun h => absurd h (Nat.lt_irrefl _)) (fun k hk => by simp [Body.own2, rowsOwned] at hk)
def PadOK (p : List SV → List Blk → List SV × List Blk) : Prop := ∀ args mem (ρ : Loc) (w0 : World) (X : Lim) (w : World) (ys : List Value), MemOK ρ w0 X mem w → RelL ρ args ys →
  ∃ ρ', Ext ρ ρ' ∧ MemOK ρ' w0 X (p args mem).2 w ∧ RelL ρ' (p args mem).1 ys
theorem padA_ok (a : Nat) (e : TypeId) (ks : List CK) : PadOK (padA a e ks) := by
  intro args mem ρ w0 X w ys hm hr
  unfold padA
  split
  · rename_i s hs
    split
    · rename_i h0
      have he : Ext ρ (ext ρ mem.length padLoc) := ext_ext (hm.past _ (Nat.le_refl _)) _
      refine ⟨_, he, pad_push hm e ks, ?_⟩
      obtain ⟨y, hy, hrel⟩ := hr.get hs
      rw [isNil0_spec h0] at hrel
      simp only [Rel] at hrel
      have hset := (hr.mono he).set (pad_rel (sz := ks.length) (ext_at ρ mem.length padLoc)) a
      have : ys.set a (.slice none 0 0) = ys := by
        rw [← hrel]
        apply List.ext_getElem?
        intro i
        by_cases hi : a = i
        · subst hi
          rw [List.getElem?_set_self (List.getElem?_eq_some_iff.1 hy).1, hy]
        · rw [List.getElem?_set_ne hi]
      rw [this] at hset
      exact hset
    · exact ⟨ρ, .refl _, hm, hr⟩
  · exact ⟨ρ, .refl _, hm, hr⟩
theorem padC_ok (a k : Nat) (e : TypeId) (ks : List CK) : PadOK (padC a k e ks) := by
  intro args mem ρ w0 X w ys hm hr
  unfold padC
  split
  · rename_i b off hs
    split
    · rename_i cs hb
      split
      · rename_i s hc
        split
        · rename_i h0
          have he : Ext ρ (ext ρ mem.length padLoc) := ext_ext (hm.past _ (Nat.le_refl _)) _
          have hlt := (List.getElem?_eq_some_iff.1 hb).1
          have hm' := pad_push hm e ks
          obtain ⟨r, hrb, hbody, _⟩ := hm'.blk b ⟨true, .lit cs⟩ (by rw [List.getElem?_append_left hlt]; exact hb)
          refine ⟨_, he, hm'.upd (b := b) (body := .lit cs) (by rw [List.getElem?_append_left hlt]; exact hb) hrb (fun _ _ => rfl) rfl (fun h => h) (fun k hk => nomatch hk) ?_, hr.mono he⟩
          intro j s' hj
          by_cases hjk : off + k = j
          · subst hjk
            rw [List.getElem?_set_self (List.getElem?_eq_some_iff.1 hc).1] at hj
            cases hj
            obtain ⟨y, h1, h2, h3⟩ := hbody _ _ hc
            rw [isNil0_spec h0] at h2
            simp only [Rel] at h2
            subst h2
            exact ⟨_, h1, pad_rel (ext_at ρ mem.length padLoc), h3⟩
          · rw [List.getElem?_set_ne hjk] at hj
            exact hbody j s' hj
        · exact ⟨ρ, .refl _, hm, hr⟩
      · exact ⟨ρ, .refl _, hm, hr⟩
    · exact ⟨ρ, .refl _, hm, hr⟩
  · exact ⟨ρ, .refl _, hm, hr⟩
def padE (p : List SV → List Blk → List SV × List Blk) (e : Entry) : Entry := (e.1, fun args mem => match p args mem with
  | (args', mem') => e.2 args' mem')
theorem padE_ok {P : Program} {p : List SV → List Blk → List SV × List Blk} {e : Entry} (hp : PadOK p) (he : EntryOK P e) : EntryOK P (padE p e) := by
  intro args mem tr htr ρ w0 X w ys R hm hf hargs hR
  obtain ⟨ρ', h1, h2, h3⟩ := hp args mem ρ w0 X w ys hm hargs
  refine (he _ _ tr htr ρ' w0 X w ys R h2 hf h3 hR).mono ?_
  rintro e w' ⟨ρ'', s, v, mem', g1, g2, g3⟩
  exact ⟨ρ'', s, v, mem', g1, h1.trans g2, g3⟩

/-! ### what a function does, told -/
def Post (m0 : Nat) (T : Tr (SV × List Blk)) (r : SV × List Blk) : Prop := ∀ R : SV × List Blk → Prop, T.holds R → ∃ q, R q ∧ Weak m0 ⟨[r.1], r.2⟩ ⟨[q.1], q.2⟩
/-- an entry that was told: on what terms, what it ends in -/
def toldE (f : FuncId) (g : List SV → List Blk → Option (Tr (SV × List Blk))) : Entry := (f, g)
theorem toldE_ok {P : Program} (hng : NoNG P) (hmix : P.follows .mixedOrders = true) {l : List Entry} {cut : FuncId → Nat → Bool} {wr : FuncId → Nat → List Nat} (hl : ∀ e ∈ l, EntryOK P e) (n : Nat) (f : FuncId) {fn : Func} (hfn : P.funcs[f]? = some fn) (hb : fn.body.isSome = true) (hno : ∀ e ∈ l, e.1 ≠ f) {g : List SV → List Blk → Option (Tr (SV × List Blk))}
    (h : ∀ args mem T, g args mem = some T → (∀ R, T.holds R → (callX P (Env.of l cut wr) n f args mem fun s mem => .ok (s, mem)).Holds (Post mem.length T))) : EntryOK P (toldE f g) := by
  intro args mem T hT ρ w0 X w ys R hm hf hargs hR
  obtain ⟨c, hb⟩ := Option.isSome_iff_exists.1 hb
  refine (calls_of_exec hng hmix (EnvOK.of hl) n f hfn hb (lookE_none hno) hm hf hargs (h args mem T hT R hR).out).mono ?_
  rintro e w' ⟨ρ', s, v, mem', rfl, hext, hv, hmem, hfr, hpost⟩
  obtain ⟨q, hq, ⟨π, hπ, hw⟩⟩ := hpost R hR
  obtain ⟨h1, h2⟩ := piOK.spec hπ
  have S : Sim ρ' w0 X ⟨[s], mem'⟩ { tmps := #[v], defers := [] } w' := ⟨rfl, by simpa using RelL.cons hv .nil, hmem, hfr⟩
  obtain ⟨S', _⟩ := hw.sim h1 S
  have hdom : ∀ b r, ρ b = some r → b < mem.length := fun b r hb => by
    rcases Nat.lt_or_ge b mem.length with h | h
    · exact h
    · rw [hm.past b h] at hb; cases hb
  obtain ⟨y, ys', e1, e2, e3⟩ := S'.tmps.cons_inv
  simp only [List.cons.injEq] at e1
  obtain ⟨rfl, _⟩ := e1
  exact ⟨_, _, _, _, rfl, renLoc_ext hdom h2 hext, e2, S'.mem, S'.frame, hq⟩
theorem Post.ok {m0 : Nat} {q r : SV × List Blk} (h : Weak m0 ⟨[r.1], r.2⟩ ⟨[q.1], q.2⟩) : Post m0 (.ok q) r := fun R hR => ⟨q, hR, h⟩
theorem Post.need {m0 : Nat} {p : Prop} {T : Tr (SV × List Blk)} {r : SV × List Blk} (h : Post m0 T r) : Post m0 (.need p T) r := fun R hR => h R (hR.2 hR.1)
theorem Post.yes {m0 : Nat} {c : Bool} {T T' : Tr (SV × List Blk)} {r : SV × List Blk} (hc : c = true) (h : Post m0 T r) : Post m0 (.br c T T') r := fun R hR => h R (hR.1 hc)
theorem Post.no {m0 : Nat} {c : Bool} {T T' : Tr (SV × List Blk)} {r : SV × List Blk} (hc : c = false) (h : Post m0 T' r) : Post m0 (.br c T T') r := fun R hR => h R (hR.2 hc)
theorem Post.all {m0 : Nat} {X : Type} {p : X → Prop} {T : X → Tr (SV × List Blk)} {r : SV × List Blk} (x : X) (hx : p x) (h : Post m0 (T x) r) : Post m0 (.all X p T) r := fun R hR => h R (hR x hx)
theorem Tr.postH {m0 : Nat} {t : Tr (SV × List Blk)} (ss : List Step) {cs : List (Bool × Bool)} (hc : ((t.go ss).conds, (t.go ss).xs, (t.go ss).rest.isOk) = (cs, (t.go ss).ys, true)) (h : Conds cs) (q0 : SV × List Blk) {T : Tr (SV × List Blk)} (hT : ∀ r, Post m0 (.ok q0) r → Post m0 T r)
    (π : List Nat) (hπ : piOK m0 π = true) {q : Prop} (ho : Owed π ⟨[((t.go ss).rest.get (.any, [])).1], ((t.go ss).rest.get (.any, [])).2⟩ ⟨[q0.1], q0.2⟩ = q) (hq : q) : t.Holds (Post m0 T) :=
  ⟨Tr.fin_ ss _ hc h (hT _ (Post.ok ⟨π, hπ, ho ▸ hq⟩))⟩
/-- one entry, or else another one of the same function -/
def altE (e e' : Entry) : Entry := (e.1, fun args mem => match e.2 args mem with
  | some t => some t
  | none => e'.2 args mem)
theorem altE_ok {P : Program} {e e' : Entry} (hf : e'.1 = e.1) (h : EntryOK P e) (h' : EntryOK P e') : EntryOK P (altE e e') := by
  intro args mem tr htr
  simp only [altE] at htr
  split at htr
  · rename_i t ht; cases htr; exact h args mem _ ht
  · have := h' args mem tr htr
    rw [hf] at this
    exact this

/-! ### what comes out is let stay as it is -/
def settleRes (ks : List CK) (s : SV) (mem : List Blk) : Tr (SV × List Blk) :=
  match s with
  | .agg cs => settleRow ks cs mem fun r mem' => .ok (.agg (rowSV ks r), mem')
  | .tup [.agg cs, .v x] => settleRow ks cs mem fun r mem' => .ok (.tup [.agg (rowSV ks r), .v x], mem')
  | s => match ks with
    | [k] => settleRow [k] [s] mem fun r mem' => .ok (k.toSV r.1, mem')
    | _ => .fail 143
/-- a result's cells that are own, or owned, come out as such that stay -/
def restE (ks : List CK) (e : Entry) : Entry := (e.1, fun args mem => (e.2 args mem).map fun T => T.bind fun r => settleRes ks r.1 r.2)
theorem restE_ok {P : Program} {ks : List CK} {e : Entry} (he : EntryOK P e) : EntryOK P (restE ks e) := by
  intro args mem tr htr ρ w0 X w ys R hm hf hargs hR
  obtain ⟨T, hT, rfl⟩ := Option.map_eq_some_iff.1 htr
  rw [Tr.holds_bind] at hR
  refine (he args mem T hT ρ w0 X w ys _ hm hf hargs hR).mono ?_
  rintro e w' ⟨ρ', s, v, mem', rfl, hext, hv, hmem, hfr, hr⟩
  simp only [settleRes] at hr
  split at hr
  · rename_i cs
    simp only [Rel] at hv
    obtain ⟨vs, hvs, rfl⟩ := hv
    obtain ⟨ρ2, r, mem2, h1, h2, h3, h4, _, _, _, _, h5⟩ := settleRow_sound hmem hvs hr
    subst h3
    exact ⟨ρ2, _, _, mem2, rfl, hext.trans h1, by simp only [Rel]; exact ⟨_, row_rel ks r h4, rfl⟩, h2, hfr, h5⟩
  · rename_i cs x
    simp only [Rel, RelL] at hv
    obtain ⟨_, ⟨_, _, rfl, ⟨vs, hvs, rfl⟩, _, _, rfl, rfl, rfl⟩, rfl⟩ := hv
    obtain ⟨ρ2, r, mem2, h1, h2, h3, h4, _, _, _, _, h5⟩ := settleRow_sound hmem hvs hr
    subst h3
    exact ⟨ρ2, _, _, mem2, rfl, hext.trans h1, by simp only [Rel, RelL]; exact ⟨_, ⟨_, _, rfl, ⟨_, row_rel ks r h4, rfl⟩, _, _, rfl, rfl, rfl⟩, rfl⟩, h2, hfr, h5⟩
  · split at hr
    · rename_i k
      obtain ⟨ρ2, r, mem2, h1, h2, h3, h4, _, _, _, _, h5⟩ := settleRow_sound hmem (RelL.cons hv .nil) hr
      simp only [rowV, List.cons.injEq, and_true] at h3
      subst h3
      obtain ⟨y, ys', e1, e2, _⟩ := (row_rel [k] r h4).cons_inv
      simp only [rowV, List.cons.injEq] at e1
      rw [← e1.1] at e2
      exact ⟨ρ2, _, _, mem2, rfl, hext.trans h1, e2, h2, hfr, h5⟩
    · exact hr.elim

/-! ### nodes that come in, and functions that call themselves -/
def nodeOf : SV → Option PNode
  | .agg cs => (toRow nodeK cs).map PNode.ofRow
  | _ => none
def nodeSV (n : PNode) : SV := .agg [.v (.string n.name), .sv (.sl propK) (n.pv, n.props), .sv .nodes (n.kv, n.kids)]
theorem nodeOf_rel {s : SV} {n : PNode} (h : nodeOf s = some n) {ρ : Loc} {y : Value} (hs : Rel ρ s y) : Rel ρ (nodeSV n) y := by
  unfold nodeOf at h
  split at h
  · rename_i cs
    obtain ⟨r, hr, rfl⟩ := Option.map_eq_some_iff.1 h
    simp only [Rel] at hs
    obtain ⟨ys, hys, rfl⟩ := hs
    obtain ⟨rfl, hg⟩ := toRow_spec hr hys
    show Rel ρ (.agg (rowSV nodeK r)) _
    simp only [Rel]
    exact ⟨_, row_rel nodeK r hg, rfl⟩
  · cases h
/-- args of a shape, each of which may be looked at as that of its shape's own words -/
structure Shape (A : Type) where
  of : List SV → Option A
  to : A → List SV
  rel : ∀ {args : List SV} {a : A}, of args = some a → ∀ {ρ : Loc} {ys : List Value}, RelL ρ args ys → RelL ρ (to a) ys
def shN1 : Shape PNode where
  of := fun args => match args with
    | [s] => nodeOf s
    | _ => none
  to := fun n => [nodeSV n]
  rel := by
    intro args a h ρ ys hr
    split at h
    · obtain ⟨y, ys', rfl, h1, h2⟩ := hr.cons_inv
      exact .cons (nodeOf_rel h h1) (by simpa only [RelL] using h2)
    · cases h
def shN2 : Shape (PNode × PNode) where
  of := fun args => match args with
    | [s, t] => match nodeOf s, nodeOf t with
      | some a, some c => some (a, c)
      | _, _ => none
    | _ => none
  to := fun n => [nodeSV n.1, nodeSV n.2]
  rel := by
    intro args a h ρ ys hr
    split at h
    · split at h
      · rename_i ha hc
        cases h
        obtain ⟨y, ys', rfl, h1, h2⟩ := hr.cons_inv
        obtain ⟨y', ys'', rfl, h3, h4⟩ := h2.cons_inv
        exact .cons (nodeOf_rel ha h1) (.cons (nodeOf_rel hc h3) (by simpa only [RelL] using h4))
      · cases h
    · cases h
def shN1i : Shape (PNode × Int) where
  of := fun args => match args with
    | [s, .v (.int .i64 k)] => (nodeOf s).map fun n => (n, k)
    | _ => none
  to := fun n => [nodeSV n.1, .v (.int .i64 n.2)]
  rel := by
    intro args a h ρ ys hr
    split at h
    · obtain ⟨n, hn, rfl⟩ := Option.map_eq_some_iff.1 h
      obtain ⟨y, ys', rfl, h1, h2⟩ := hr.cons_inv
      exact .cons (nodeOf_rel hn h1) h2
    · cases h
def shN2i : Shape (PNode × PNode × Int) where
  of := fun args => match args with
    | [s, t, .v (.int .i64 k)] => match nodeOf s, nodeOf t with
      | some a, some c => some (a, c, k)
      | _, _ => none
    | _ => none
  to := fun n => [nodeSV n.1, nodeSV n.2.1, .v (.int .i64 n.2.2)]
  rel := by
    intro args a h ρ ys hr
    split at h
    · split at h
      · rename_i ha hc
        cases h
        obtain ⟨y, ys', rfl, h1, h2⟩ := hr.cons_inv
        obtain ⟨y', ys'', rfl, h3, h4⟩ := h2.cons_inv
        exact .cons (nodeOf_rel ha h1) (.cons (nodeOf_rel hc h3) h4)
      · cases h
    · cases h
/-- an entry of a function that needs nothing of memory, of args of a shape, and may call itself with less -/
def pureS (f : FuncId) {A : Type} (sh : Shape A) (pre : A → Prop) (res : A → SV) : Entry := (f, fun args mem => (sh.of args).map fun a => .need (pre a) (.ok (res a, mem)))
def pureSk (f : FuncId) {A : Type} (sh : Shape A) (pre : A → Prop) (res : A → SV) (m : A → Nat) (k : Nat) : Entry := pureS f sh (fun a => pre a ∧ m a < k) res
theorem pureS_ok {P : Program} (hng : NoNG P) (hmix : P.follows .mixedOrders = true) {l : List Entry} {cut : FuncId → Nat → Bool} {wr : FuncId → Nat → List Nat} (hl : ∀ e ∈ l, EntryOK P e) (n : Nat) (f : FuncId) {fn : Func} (hfn : P.funcs[f]? = some fn) (hb : fn.body.isSome = true) {A : Type} (sh : Shape A) {pre : A → Prop} {res : A → SV} (m : A → Nat)
    (hla : ∀ a, loL 0 (sh.to a) = true) (hlr : ∀ a, (res a).lo 0 = true)
    (h : ∀ k a, EntryOK P (pureSk f sh pre res m k) → pre a → m a ≤ k → (bodyX P (Env.of (pureSk f sh pre res m k :: l) cut wr) n f (sh.to a) [] fun s mem => .ok (s, mem)).Holds fun r => r.1 = res a) : EntryOK P (pureS f sh pre res) := by
  obtain ⟨c, hb⟩ := Option.isSome_iff_exists.1 hb
  have key : ∀ k, EntryOK P (pureSk f sh pre res m k) := by
    intro k
    induction k with
    | zero =>
      intro args mem tr htr ρ w0 X w ys R hm hf hargs hR
      obtain ⟨a, ha, rfl⟩ := Option.map_eq_some_iff.1 htr
      exact absurd hR.1.2 (Nat.not_lt_zero _)
    | succ k ih =>
      intro args mem tr htr ρ w0 X w ys R hm hf hargs hR
      obtain ⟨a, ha, rfl⟩ := Option.map_eq_some_iff.1 htr
      have hΓ : EnvOK P (Env.of (pureSk f sh pre res m k :: l) cut wr) := EnvOK.of fun e he => by
        rcases List.mem_cons.1 he with rfl | he
        · exact ih
        · exact hl e he
      exact env_body hng hmix hΓ n f hfn hb (hla a) (hlr a) (h k a ih hR.1.1 (by have := hR.1.2; omega)).out hm hf (sh.rel ha hargs) (hR.2 hR.1)
  intro args mem tr htr ρ w0 X w ys R hm hf hargs hR
  obtain ⟨a, ha, rfl⟩ := Option.map_eq_some_iff.1 htr
  exact key (m a + 1) args mem (.need (pre a ∧ m a < m a + 1) (.ok (res a, mem))) (by simp only [pureSk, pureS]; rw [ha]; rfl) ρ w0 X w ys R hm hf hargs ⟨⟨hR.1, by omega⟩, fun _ => hR.2 hR.1⟩
/-- told entries of functions that may call themselves with less -/
def toldG (f : FuncId) (g : List SV → List Blk → Option (Nat × Tr (SV × List Blk))) : Entry := (f, fun args mem => (g args mem).map fun q => q.2)
def toldK (f : FuncId) (g : List SV → List Blk → Option (Nat × Tr (SV × List Blk))) (k : Nat) : Entry := (f, fun args mem => (g args mem).map fun q => .need (q.1 < k) q.2)
theorem told_body {P : Program} (hng : NoNG P) (hmix : P.follows .mixedOrders = true) {Γ : Env} (hΓ : EnvOK P Γ) (n : Nat) (f : FuncId) {fn : Func} {c : Code} (hfn : P.funcs[f]? = some fn) (hb : fn.body = some c) {args : List SV} {mem : List Blk} {T : Tr (SV × List Blk)} {R : SV × List Blk → Prop} (hR : T.holds R)
    (h : (bodyX P Γ n f args mem fun s mem => .ok (s, mem)).Holds (Post mem.length T)) {ρ : Loc} {w0 : World} {X : Lim} {w : World} {ys : List Value} (hm : MemOK ρ w0 X mem w) (hf : Frm w0 X w) (hargs : RelL ρ args ys) : Calls P f ys.toArray w (CallPost ρ w0 X R) := by
  refine (calls_of_body hng hmix hΓ n f hfn hb hm hf hargs h.out).mono ?_
  rintro e w' ⟨ρ', s, v, mem', rfl, hext, hv, hmem, hfr, hpost⟩
  obtain ⟨q, hq, ⟨π, hπ, hw⟩⟩ := hpost R hR
  obtain ⟨h1, h2⟩ := piOK.spec hπ
  have S : Sim ρ' w0 X ⟨[s], mem'⟩ { tmps := #[v], defers := [] } w' := ⟨rfl, by simpa using RelL.cons hv .nil, hmem, hfr⟩
  obtain ⟨S', _⟩ := hw.sim h1 S
  have hdom : ∀ b r, ρ b = some r → b < mem.length := fun b r hb => by
    rcases Nat.lt_or_ge b mem.length with h | h
    · exact h
    · rw [hm.past b h] at hb; cases hb
  obtain ⟨y, ys', e1, e2, e3⟩ := S'.tmps.cons_inv
  simp only [List.cons.injEq] at e1
  obtain ⟨rfl, _⟩ := e1
  exact ⟨_, _, _, _, rfl, renLoc_ext hdom h2 hext, e2, S'.mem, S'.frame, hq⟩
theorem toldR_ok {P : Program} (hng : NoNG P) (hmix : P.follows .mixedOrders = true) {l : List Entry} {cut : FuncId → Nat → Bool} {wr : FuncId → Nat → List Nat} (hl : ∀ e ∈ l, EntryOK P e) (n : Nat) (f : FuncId) {fn : Func} (hfn : P.funcs[f]? = some fn) (hb : fn.body.isSome = true) (g : List SV → List Blk → Option (Nat × Tr (SV × List Blk)))
    (wrap : Entry → Entry) (hw : ∀ e, EntryOK P e → EntryOK P (wrap e))
    (h : ∀ k args mem m T, EntryOK P (wrap (toldK f g k)) → g args mem = some (m, T) → m ≤ k → (∀ R, T.holds R → (bodyX P (Env.of (wrap (toldK f g k) :: l) cut wr) n f args mem fun s mem => .ok (s, mem)).Holds (Post mem.length T))) : EntryOK P (wrap (toldG f g)) := by
  obtain ⟨c, hb⟩ := Option.isSome_iff_exists.1 hb
  have key : ∀ k, EntryOK P (toldK f g k) := by
    intro k
    induction k with
    | zero =>
      intro args mem tr htr ρ w0 X w ys R hm hf hargs hR
      obtain ⟨q, _, rfl⟩ := Option.map_eq_some_iff.1 htr
      exact absurd hR.1 (Nat.not_lt_zero _)
    | succ k ih =>
      intro args mem tr htr ρ w0 X w ys R hm hf hargs hR
      obtain ⟨⟨m, T⟩, hq, rfl⟩ := Option.map_eq_some_iff.1 htr
      have hΓ : EnvOK P (Env.of (wrap (toldK f g k) :: l) cut wr) := EnvOK.of fun e he => by
        rcases List.mem_cons.1 he with rfl | he
        · exact hw _ ih
        · exact hl e he
      have h1 : m < k + 1 := hR.1
      have h2 : T.holds R := hR.2 hR.1
      exact told_body hng hmix hΓ n f hfn hb h2 (h k args mem m T (hw _ ih) hq (by omega) R h2) hm hf hargs
  refine hw _ ?_
  intro args mem tr htr ρ w0 X w ys R hm hf hargs hR
  obtain ⟨⟨m, T⟩, hq, rfl⟩ := Option.map_eq_some_iff.1 htr
  exact key (m + 1) args mem (.need (m < m + 1) T) (by simp only [toldK]; rw [hq]; rfl) ρ w0 X w ys R hm hf hargs ⟨by omega, fun _ => hR⟩
/-- words on Booleans, in one -/
theorem q1 : (∀ a b : Int, (a == b) = decide (a = b)) ∧ (∀ a b : Int, (a != b) = decide (a ≠ b)) ∧ (∀ a b : Nat, (a == b) = decide (a = b)) ∧ (∀ (p : Prop) [Decidable p], (!decide p) = decide (¬ p)) ∧ (∀ (p q : Prop) [Decidable p] [Decidable q], (decide p || decide q) = decide (p ∨ q)) ∧ (∀ (p q : Prop) [Decidable p] [Decidable q], (decide p && decide q) = decide (p ∧ q)) ∧ (∀ (p q : Prop) [Decidable p] [Decidable q], (decide p == decide q) = decide (p ↔ q)) ∧ (∀ (p q : Prop) [Decidable p] [Decidable q], (decide p != decide q) = decide (¬ (p ↔ q))) ∧ (∀ (p q : Prop) [Decidable p] [Decidable q], (decide p = decide q) = (p ↔ q)) ∧ (∀ (p : Prop) [Decidable p], (decide p = true) = p) ∧ (∀ (p : Prop) [Decidable p], (decide p = false) ↔ ¬ p) ∧ (∀ b : Bool, ((!b) = true) = (b = false)) ∧ (∀ b : Bool, ((!b) = false) = (b = true)) ∧ ((!true) = false) ∧ ((!false) = true) ∧ (∀ n : Nat, 0 + n = n) ∧ ((true = false) = False) ∧ ((false = true) = False) ∧ (∀ b : Bool, (b == false) = !b) ∧ (∀ b : Bool, (b == true) = b) ∧ (∀ b : Bool, (¬ (b = true)) = (b = false)) ∧ (∀ b : Bool, (¬ (b = false)) = (b = true)) ∧ (∀ b : Bool, (true || b) = true) ∧ (∀ b : Bool, (false || b) = b) ∧ (∀ b : Bool, (b || true) = true) ∧ (∀ b : Bool, (b || false) = b) ∧ (∀ b : Bool, (b && true) = b) ∧ (∀ b : Bool, (true && b) = b) ∧ (∀ b : Bool, (b && false) = false) ∧ (∀ b : Bool, (false && b) = false) ∧ (∀ a b : Bool, ((a || b) = true) = (a = true ∨ b = true)) ∧ (∀ a b : Bool, ((a && b) = true) = (a = true ∧ b = true)) ∧ (∀ a b : Bool, ((a || b) = false) ↔ (a = false ∧ b = false)) ∧ (∀ a b : Bool, ((a && b) = false) ↔ (a = false ∨ b = false)) :=
  ⟨nb_beq, nb_bne, nb_beqN, fun p _ => nb_not p, fun p q _ _ => nb_or p q, fun p q _ _ => nb_and p q, fun p q _ _ => nb_iff p q, fun p q _ _ => nb_niff p q, fun p q _ _ => nb_eq p q, fun p _ => by simp, fun p _ => by simp, by decide, by decide, rfl, rfl, Nat.zero_add, by simp, by simp, by decide, by decide, by decide, by decide, by decide, by decide, by decide, by decide, by decide, by decide, by decide, by decide, by decide, by decide, by decide, by decide⟩
/-- words on Booleans, orders and nodes, in one -/
theorem q2 : (∀ {α : Type} [BEq α] [LawfulBEq α] (a b : α), (a == b) = true ↔ a = b) ∧ (∀ {α : Type} [BEq α] [LawfulBEq α] (a b : α), (a == b) = false ↔ a ≠ b) ∧ (∀ {α : Type} [BEq α] [LawfulBEq α] (a b : α), (a != b) = true ↔ a ≠ b) ∧ (∀ {α : Type} [BEq α] [LawfulBEq α] (a b : α), (a != b) = false ↔ a = b) ∧ (∀ {α : Type} [LE α] (a b : α), a ≥ b ↔ b ≤ a) ∧ (∀ {α : Type} [LT α] (a b : α), a > b ↔ b < a) ∧ (∀ r, PNode.ofRow r = .mk r.1 r.2.1.1 r.2.1.2 r.2.2.1.1 r.2.2.1.2) ∧ (∀ n : PNode, PNode.mk n.name n.pv n.props n.kv n.kids = n) ∧ (∀ n : Nat, ((n : Nat) : Int).toNat = n) :=
  ⟨fun _ _ => beq_iff_eq, fun _ _ => beq_eq_false_iff_ne, fun _ _ => bne_iff_ne, fun _ _ => bne_eq_false_iff_eq, fun _ _ => Iff.rfl, fun _ _ => Iff.rfl, fun _ => rfl, PNode.mk_eta, fun _ => rfl⟩
end Go.Proofs.Ytdimocgjcneedaa.Sx
