/-
  Whatever is laid, read and cleared, the memory is the document's (postilionlaw07.RamPlays): the rounds' words.
-/
import Derived.Test.YtengjhhaakmhoaaPlaysLaw
set_option linter.unusedVariables false
set_option linter.unusedSimpArgs false
namespace Go.Proofs.Ytengjhhaakmhoaa
open Sx
set_option maxRecDepth 100000
set_option maxHeartbeats 4000000
def nilS : SV := .v (.slice none 0 0)
structure PZ where
  j : Nat
  all : List (RowT byteK)
  sp : List (RowT spanK)
  S : List (RowT strK)
/-- is the document's memory still the first one? -/
inductive PX where
  | old (z : PZ)
  | new (z : PZ)
def PX.z : PX → PZ
  | .old z => z
  | .new z => z
def pS (l : List (RowT actK)) (ask : List (RowT spanK)) : PX → St
  | .old z => ⟨slots 162 0 [(0, .oslc 0 4 0 l.length), (1, .oslc 1 2 0 ask.length), (5, .ptr 2 0), (6, .ptr 4 0), (7, .slc 6 0 2 2), (8, i z.j)], [⟨false, .rows actK l⟩, ⟨false, .rows spanK ask⟩, ⟨true, .lit [.oslc 3 1 0 65536, .oslc 7 2 0 z.sp.length]⟩, ⟨true, .own 5 byteK z.all⟩, ⟨true, .lit [.oslc 8 2 0 z.sp.length, .oslc 9 1 0 z.S.length]⟩, ⟨true, .lit [nilS, nilS]⟩, ⟨true, .lit [.v (.pointer none), .ptr 5 0]⟩, ⟨true, .own 33 spanK z.sp⟩, ⟨true, .own 33 spanK z.sp⟩, ⟨true, .own 9 strK z.S⟩, ⟨true, .dead⟩]⟩
  | .new z => ⟨slots 162 0 [(0, .oslc 0 4 0 l.length), (1, .oslc 1 2 0 ask.length), (5, .ptr 2 0), (6, .ptr 10 0), (7, .slc 6 0 2 2), (8, i z.j)], [⟨false, .rows actK l⟩, ⟨false, .rows spanK ask⟩, ⟨true, .lit [.oslc 3 1 0 65536, .oslc 7 2 0 z.sp.length]⟩, ⟨true, .own 5 byteK z.all⟩, ⟨true, .dead⟩, ⟨true, .lit [nilS, nilS]⟩, ⟨true, .lit [.v (.pointer none), .ptr 5 0]⟩, ⟨true, .own 33 spanK z.sp⟩, ⟨true, .own 33 spanK z.sp⟩, ⟨true, .own 9 strK z.S⟩, ⟨true, .lit [.oslc 8 2 0 z.sp.length, .oslc 9 1 0 z.S.length]⟩]⟩
inductive PY where
  | done (x : PX)
  | back
def pO (l : List (RowT actK)) (ask : List (RowT spanK)) : PY → Ex × St
  | .done x => (.exit 0, pS l ask x)
  | .back => (.ret, ⟨slots 162 0 [(4, b true)], [⟨true, .dead⟩, ⟨true, .dead⟩, ⟨true, .dead⟩, ⟨true, .dead⟩, ⟨true, .dead⟩, ⟨true, .dead⟩, ⟨true, .dead⟩]⟩)
structure PI (l : List (RowT actK)) (x : PX) : Prop where
  j : x.z.j ≤ l.length
  few : x.z.sp.length ≤ x.z.j
  good : RI x.z.all x.z.sp x.z.S
def pP (l : List (RowT actK)) : PY → Prop
  | .done x => PI l x
  | .back => True
def pAll (k : Int) (all : List (RowT byteK)) (sp : List (RowT spanK)) (a : Int) (s : ByteArray) : List (RowT byteK) := if k = 1 then nAll all sp a s else all
def pSp (k : Int) (sp : List (RowT spanK)) (a : Int) (s : ByteArray) : List (RowT spanK) := if k = 1 then nSp sp a s else sp
def pSt (k : Int) (sp : List (RowT spanK)) (S : List (RowT strK)) (a : Int) (s : ByteArray) : List (RowT strK) := if k = 1 then (if loadC sp a s = 0 then S ++ [oneS s] else S) else S
theorem PI.step {l : List (RowT actK)} {all : List (RowT byteK)} {sp : List (RowT spanK)} {S : List (RowT strK)} {j : Nat} (hG : RI all sp S) (hf : sp.length ≤ j) (k : Int) {a : Int} {s : ByteArray} (hs : s.size ≤ 200) (hj : j < l.length) : j + 1 ≤ l.length ∧ (pSp k sp a s).length ≤ j + 1 ∧ RI (pAll k all sp a s) (pSp k sp a s) (pSt k sp S a s) := by
  unfold pAll pSp pSt nAll nSp
  by_cases hk : k = 1
  · simp only [if_pos hk]
    by_cases hc : loadC sp a s = 0
    · simp only [if_pos hc]
      exact ⟨hj, by simp; omega, hG.load hc hs⟩
    · simp only [if_neg hc]
      exact ⟨hj, by omega, hG⟩
  · simp only [if_neg hk]
    exact ⟨hj, by omega, hG⟩
theorem xloadPre_mk {L : List (RowT spanK)} {S : List (RowT strK)} {a : Int} {s : ByteArray} (h0 : L.length ≤ 100) (h1 : S.length ≤ 100) (h2 : s.size ≤ 1000) (h3 : -9223372036854775808 ≤ a) (h4 : a ≤ 9223372036854775807) : xloadPre L S a s := ⟨h0, h1, h2, h3, h4⟩
/-! ### a memory that nobody made, and one of nothing -/
abbrev zMem : List Blk := [⟨true, .lit [nilS, nilS]⟩]
def nilP : SV := .v (.pointer none)
theorem nclear_tree : (callX Try.prog (Env.of [] noCut noWr) 400 13 [nilP] [] fin).Holds fun r => r.1 = .tup [] := by
  exact Tr.endH [.run 1] (cs := []) (Prod.fst) (y := SV.tup []) (by kernel_rfl) trivial (fun a ha => ha)
theorem nread_tree (a n : Int) : (callX Try.prog (Env.of [] noCut noWr) 400 9 [nilP, i a, i n] [] fin).Holds fun r => r.1 = .tup [str ⟨#[]⟩, i 2] := by
  exact Tr.endH [.run 11] (cs := []) (Prod.fst) (y := SV.tup [SV.v (Value.string (ByteArray.mk #[])), SV.v (Value.int IntKind.i64 (2 : Int))]) (by kernel_rfl) trivial (fun a ha => ha.trans rfl)
theorem nload_tree (a : Int) (s : ByteArray) : (callX Try.prog (Env.of [] noCut noWr) 400 7 [nilP, i a, str s] [] fin).Holds fun r => r.1 = i 2 := by
  exact Tr.endH [.run 14] (cs := []) (Prod.fst) (y := SV.v (Value.int IntKind.i64 (2 : Int))) (by kernel_rfl) trivial (fun a ha => ha.trans rfl)
theorem nspans_tree : (callX Try.prog (Env.of [] noCut noWr) 400 8 [nilP] [] fin).Holds fun r => r.1 = nilS := by
  exact Tr.endH [.run 1] (cs := []) (Prod.fst) (y := SV.v (Value.slice none (0 : Nat) (0 : Nat))) (by kernel_rfl) trivial (fun a ha => ha.trans rfl)
def nClear : List SV → Option SV := fun args => match args with | [.v (.pointer none)] => some (.tup []) | _ => none
def nRead : List SV → Option SV := fun args => match args with | [.v (.pointer none), .v (.int .i64 a), .v (.int .i64 n)] => some (.tup [str ⟨#[]⟩, i 2]) | _ => none
def nLoad : List SV → Option SV := fun args => match args with | [.v (.pointer none), .v (.int .i64 a), .v (.string s)] => some (i 2) | _ => none
def nSpans : List SV → Option SV := fun args => match args with | [.v (.pointer none)] => some nilS | _ => none
theorem nclear_ok : EntryOK Try.prog (pureE 13 nClear) := pureE_ok hng hmix (l := []) (cut := noCut) (wr := noWr) (by simp) 400 13 Try.func13 rfl (by simp) (by
  intro args s h; unfold nClear at h; split at h
  · cases h; exact ⟨rfl, rfl, nclear_tree.out⟩
  · cases h)
theorem nread_ok : EntryOK Try.prog (pureE 9 nRead) := pureE_ok hng hmix (l := []) (cut := noCut) (wr := noWr) (by simp) 400 9 Try.func9 rfl (by simp) (by
  intro args s h; unfold nRead at h; split at h
  · cases h; exact ⟨rfl, rfl, (nread_tree _ _).out⟩
  · cases h)
theorem nload_ok : EntryOK Try.prog (pureE 7 nLoad) := pureE_ok hng hmix (l := []) (cut := noCut) (wr := noWr) (by simp) 400 7 Try.func7 rfl (by simp) (by
  intro args s h; unfold nLoad at h; split at h
  · cases h; exact ⟨rfl, rfl, (nload_tree _ _).out⟩
  · cases h)
theorem nspans_ok : EntryOK Try.prog (pureE 8 nSpans) := pureE_ok hng hmix (l := []) (cut := noCut) (wr := noWr) (by simp) 400 8 Try.func8 rfl (by simp) (by
  intro args s h; unfold nSpans at h; split at h
  · cases h; exact ⟨rfl, rfl, nspans_tree.out⟩
  · cases h)
theorem zclear_tree : (callX Try.prog (Env.of [] noCut noWr) 400 13 [.ptr 0 0] zMem fin).Holds (Post 1 (.ok (.tup [], zMem))) := by
  exact Tr.postH [.run 1] (cs := []) (by kernel_rfl) trivial ((.tup [], zMem)) (fun _ h => h) [0] (by kernel_rfl) (q := true = true ∧ Value.slice none (0 : Nat) (0 : Nat) = Value.slice none (0 : Nat) (0 : Nat) ∧ Value.slice none (0 : Nat) (0 : Nat) = Value.slice none (0 : Nat) (0 : Nat) ∧ True) (by kernel_rfl) (by (repeat' apply And.intro) <;> first | rfl | trivial)
theorem zread_tree (a n : Int) : (callX Try.prog (Env.of [] noCut noWr) 400 9 [.ptr 0 0, i a, i n] zMem fin).Holds (Post 1 (.ok (.tup [str ⟨#[]⟩, i 2], zMem))) := by
  exact Tr.postH [.run 11] (cs := []) (by kernel_rfl) trivial ((.tup [str ⟨#[]⟩, i 2], zMem)) (fun _ h => h) [0] (by kernel_rfl) (q := Value.string (ByteArray.mk #[]) = Value.string (ByteArray.mk #[]) ∧ Value.int IntKind.i64 (2 : Int) = Value.int IntKind.i64 (2 : Int) ∧ true = true ∧ Value.slice none (0 : Nat) (0 : Nat) = Value.slice none (0 : Nat) (0 : Nat) ∧ Value.slice none (0 : Nat) (0 : Nat) = Value.slice none (0 : Nat) (0 : Nat) ∧ True) (by kernel_rfl) (by (repeat' apply And.intro) <;> first | rfl | trivial)
theorem zload_tree (a : Int) (s : ByteArray) : (callX Try.prog (Env.of [] noCut noWr) 400 7 [.ptr 0 0, i a, str s] zMem fin).Holds (Post 1 (.ok (i 2, zMem))) := by
  exact Tr.postH [.run 14] (cs := []) (by kernel_rfl) trivial ((i 2, zMem)) (fun _ h => h) [0] (by kernel_rfl) (q := Value.int IntKind.i64 (2 : Int) = Value.int IntKind.i64 (2 : Int) ∧ true = true ∧ Value.slice none (0 : Nat) (0 : Nat) = Value.slice none (0 : Nat) (0 : Nat) ∧ Value.slice none (0 : Nat) (0 : Nat) = Value.slice none (0 : Nat) (0 : Nat) ∧ True) (by kernel_rfl) (by (repeat' apply And.intro) <;> first | rfl | trivial)
theorem zspans_tree : (callX Try.prog (Env.of [] noCut noWr) 400 8 [.ptr 0 0] zMem fin).Holds (Post 1 (.ok (nilS, zMem))) := by
  exact Tr.postH [.run 2] (cs := []) (by kernel_rfl) trivial ((nilS, zMem)) (fun _ h => h) [0] (by kernel_rfl) (q := Value.slice none (0 : Nat) (0 : Nat) = Value.slice none (0 : Nat) (0 : Nat) ∧ true = true ∧ Value.slice none (0 : Nat) (0 : Nat) = Value.slice none (0 : Nat) (0 : Nat) ∧ Value.slice none (0 : Nat) (0 : Nat) = Value.slice none (0 : Nat) (0 : Nat) ∧ True) (by kernel_rfl) (by (repeat' apply And.intro) <;> first | rfl | trivial)
def isZ : List Blk → Bool
  | [⟨true, .lit [.v (.slice none 0 0), .v (.slice none 0 0)]⟩] => true
  | _ => false
theorem isZ_eq {mem : List Blk} (h : isZ mem = true) : mem = zMem := by
  unfold isZ at h
  split at h
  · rfl
  · cases h
def zG (pat : List SV → Bool) (v : SV) (args : List SV) (mem : List Blk) : Option (Tr (SV × List Blk)) := match pat args && isZ mem with
  | true => some (.ok (v, zMem))
  | false => none
theorem z_ok (f : FuncId) {fn : Func} (hfn : Try.prog.funcs[f]? = some fn) (hb : fn.body.isSome = true) (pat : List SV → Bool) (v : SV) (h : ∀ args, pat args = true → (callX Try.prog (Env.of [] noCut noWr) 400 f args zMem fin).Holds (Post 1 (.ok (v, zMem)))) : EntryOK Try.prog (frameE [] (toldE f (zG pat v))) :=
  frameE_ok (toldE_ok hng hmix (l := []) (cut := noCut) (wr := noWr) (by simp) 400 f hfn hb (by simp) (by
    intro args mem T hT R hR
    unfold zG at hT
    split at hT
    · rename_i hp
      cases hT
      simp only [Bool.and_eq_true] at hp
      obtain rfl := isZ_eq hp.2
      exact h args hp.1
    · cases hT))
def p1 : List SV → Bool
  | [.ptr 0 0] => true
  | _ => false
def p3i : List SV → Bool
  | [.ptr 0 0, .v (.int .i64 _), .v (.int .i64 _)] => true
  | _ => false
def p3s : List SV → Bool
  | [.ptr 0 0, .v (.int .i64 _), .v (.string _)] => true
  | _ => false
def eClearN : Entry := altE (pureE 13 nClear) (altE (frameE [] (toldE 13 (zG p1 (.tup [])))) eClear)
def eReadN : Entry := altE (pureE 9 nRead) (altE (frameE [] (toldE 9 (zG p3i (.tup [str ⟨#[]⟩, i 2])))) eRead)
def eLoadN : Entry := altE (pureE 7 nLoad) (altE (frameE [] (toldE 7 (zG p3s (i 2)))) eLoad)
def eSpansN : Entry := altE (pureE 8 nSpans) (altE (frameE [] (toldE 8 (zG p1 nilS))) eSpans)
theorem clearN_ok : EntryOK Try.prog eClearN := altE_ok rfl nclear_ok (altE_ok rfl (z_ok 13 Try.func13 (by kernel_rfl) _ _ fun args h => by
  unfold p1 at h; split at h
  · exact zclear_tree
  · cases h) clear_ok)
theorem readN_ok : EntryOK Try.prog eReadN := altE_ok rfl nread_ok (altE_ok rfl (z_ok 9 Try.func9 (by kernel_rfl) _ _ fun args h => by
  unfold p3i at h; split at h
  · exact zread_tree _ _
  · cases h) read_ok)
theorem loadN_ok : EntryOK Try.prog eLoadN := altE_ok rfl nload_ok (altE_ok rfl (z_ok 7 Try.func7 (by kernel_rfl) _ _ fun args h => by
  unfold p3s at h; split at h
  · exact zload_tree _ _
  · cases h) load_ok)
theorem spansN_ok : EntryOK Try.prog eSpansN := altE_ok rfl nspans_ok (altE_ok rfl (z_ok 8 Try.func8 (by kernel_rfl) _ _ fun args h => by
  unfold p1 at h; split at h
  · exact zspans_tree
  · cases h) spans_ok)
def plEntries : List Entry := [awakeE, eNew, eLoadN, eReadN, eSpansN, eCheck, eClearN, eXCheck, eXLoad, eXRead, eSame, eMeet]
theorem plEntries_ok : ∀ e ∈ plEntries, EntryOK Try.prog e := by
  intro e he
  simp only [plEntries, List.mem_cons, List.not_mem_nil, or_false] at he
  rcases he with rfl | rfl | rfl | rfl | rfl | rfl | rfl | rfl | rfl | rfl | rfl | rfl
  · exact awakeE_ok
  · exact new_ok
  · exact loadN_ok
  · exact readN_ok
  · exact spansN_ok
  · exact check_ok
  · exact clearN_ok
  · exact xcheckE_ok
  · exact xloadE_ok
  · exact xreadE_ok
  · exact same_ok
  · exact meet_ok
def plWr : FuncId → Nat → List Nat := fun f r => if f = 4 ∧ r = 13 then [2, 3, 4, 7, 8, 9, 10] else if f = 4 ∧ r = 23 then [2, 4, 10, 11, 12] else []
def plEnv : Env := Env.of plEntries noCut plWr
end Go.Proofs.Ytengjhhaakmhoaa
