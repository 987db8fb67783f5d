/-
  The tree of any tokens, or why there is none: the law.
-/
import Derived.Test.YtdimocgjcneedaaAwk
set_option linter.unusedVariables false
set_option linter.unusedSimpArgs false
namespace Go.Proofs.Ytdimocgjcneedaa
open Sx
set_option maxRecDepth 100000
set_option maxHeartbeats 4000000
def awakeE : Entry := pureE 7 (fun args => match args with
  | [] => some (b true)
  | _ => none)
theorem awakeE_ok : EntryOK Try.prog awakeE := pureE_ok hng hmix (l := [eTokens, eOf, eCnt, eSt]) (cut := noCut) (wr := noWr) (by
  intro e he
  simp only [List.mem_cons, List.not_mem_nil, or_false] at he
  rcases he with rfl | rfl | rfl | rfl
  · exact tokens_ok
  · exact of_ok
  · exact cnt_ok
  · exact st_ok) 400 7 Try.func7 rfl (by
  intro e he
  simp only [List.mem_cons, List.not_mem_nil, or_false] at he
  rcases he with rfl | rfl | rfl | rfl <;> simp [eTokens, eOf, eCnt, eSt, restE, normE, frameE, toldE, pureS]) (by
  intro args s h
  split at h
  · cases h
    exact ⟨rfl, rfl, (aw_tree ()).out⟩
  · cases h)
theorem few_len {l : List (RowT tokK)} (h : fewF l = true) : l.length ≤ 60 := by
  simp only [fewF, Bool.and_eq_true, decide_eq_true_eq] at h
  omega
theorem sm2_mk {a c : PNode} (h : okT a) (h2 : okT c) : sm2Pre (a, c, 20) := ⟨⟨(by decide : (0 : Int) ≤ 20), (by decide : (20 : Int) ≤ 1000)⟩, h, h2⟩
theorem zero_ok (nm : ByteArray) (pv kv : Value) : okT (.mk nm pv [] kv []) := ⟨Nat.zero_le _, Nat.zero_le _, trivial⟩
theorem stay_cell {W : World} {b j : Nat} {v : Value} (h : W.cell? ⟨b, j, none⟩ = some v) : Base.cell (World.stay W) b j = some v := by
  cases ho : W.heap[b]? with
  | none => simp [World.cell?, ho] at h
  | some o => exact Base.cell_of (B := World.stay W) (w := W) ho ho h
/-- rows that came in stay as they are -/
theorem rowsIn_sv {ks : List CK} {W : World} {sl : Option Addr} {ln cp : Nat} (h : Sx.RowsIn ks W sl ln cp) (hg : ∀ B (r : RowT ks), RowGood B ks r) : ∃ l : List (RowT ks), Rel ⟨fun _ => none, World.stay W⟩ (.sv (.sl ks) (.slice sl ln cp, l)) (.slice sl ln cp) := by
  rcases Sx.RowsIn.list h with ⟨rfl, rfl⟩ | ⟨b, o, l, rfl, rfl, h1, h2, h3, _, h4⟩
  · refine ⟨[], ?_⟩
    simp only [Rel]
    exact ⟨rfl, ⟨sl, 0, rfl, Nat.le_refl _, fun h => absurd h (Nat.lt_irrefl _)⟩, fun r hr => nomatch hr⟩
  · refine ⟨l, ?_⟩
    simp only [Rel]
    exact ⟨rfl, ⟨_, cp, rfl, h1, fun _ => ⟨b, o, rfl, fun j x hj => stay_cell (RowsOK.iff.1 h4 j x hj).1⟩⟩, fun r _ => hg _ r⟩
theorem tok_good (B : Base) (r : RowT tokK) : RowGood B tokK r := ⟨trivial, trivial, trivial, trivial⟩
end Go.Proofs.Ytdimocgjcneedaa
