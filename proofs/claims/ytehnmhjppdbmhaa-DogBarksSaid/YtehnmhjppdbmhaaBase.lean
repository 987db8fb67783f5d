/-
  What the laws of layer 8 share: the seat's program, and that awake comes true, by the run of its own code.
-/
import Derived.Test.YtehnmhjppdbmhaaSx
import Derived.Test.YtehnmhjppdbmhaaRows
set_option linter.unusedVariables false
set_option linter.unusedSimpArgs false
namespace Go.Proofs.Ytehnmhjppdbmhaa
open Sx
set_option maxRecDepth 100000
set_option maxHeartbeats 1000000
def i (n : Int) : SV := .v (.int .i64 n)
def b (n : Bool) : SV := .v (.bool n)
def fin (s : SV) (mem : List Blk) : Tr (SV × List Blk) := .ok (s, mem)
def noCut : FuncId → Nat → Bool := fun _ _ => false
def noWr : FuncId → Nat → List Nat := fun _ _ => []
theorem hng : NoNG Try.prog := by
  have h : (Try.prog.funcs.all fun fn => !(fn.name == "runtime.NumGoroutine")) = true := by kernel_rfl
  intro f fn hf
  have := Array.all_eq_true'.1 h fn (Array.mem_of_getElem? hf)
  simpa using this
theorem hmix : Try.prog.follows .mixedOrders = true := by kernel_rfl
def awakeF : List SV → Option SV := fun args => match args with | [] => some (b true) | _ => none
def eAwake : Entry := pureE 5 awakeF
theorem awake_tree : (callX Try.prog (Env.of [] noCut noWr) 400 5 [] [] fin).Holds fun r => r.1 = b true := by
  exact Tr.endH [.run 42] (cs := []) (Prod.fst) (y := SV.v (Value.bool !false)) (by kernel_rfl) trivial (fun a ha => ha.trans rfl)
theorem awake_ok : EntryOK Try.prog eAwake :=
  pureE_ok hng hmix (l := []) (cut := noCut) (wr := noWr) (by simp) 400 5 Try.func5 rfl (by simp) (by
    intro args s h
    unfold awakeF at h
    split at h
    · cases h; exact ⟨rfl, rfl, awake_tree.out⟩
    · cases h)
def entries : List Entry := [eAwake]
theorem entries_ok : ∀ e ∈ entries, EntryOK Try.prog e := by
  intro e he
  simp only [entries, List.mem_cons, List.not_mem_nil, or_false] at he
  subst he
  exact awake_ok
def env : Env := Env.of entries noCut noWr
theorem wrapSucc {n : Nat} (h : n ≤ 1000) : IntKind.i64.wrap ((n : Int) + 1) = (n : Int) + 1 := by
  simp [IntKind.wrap, IntKind.signed, IntKind.bits]; split <;> omega
theorem wrapId {n : Int} (h0 : -9223372036854775808 ≤ n) (h1 : n ≤ 9223372036854775807) : IntKind.i64.wrap n = n := by
  simp [IntKind.wrap, IntKind.signed, IntKind.bits]; split <;> omega
end Go.Proofs.Ytehnmhjppdbmhaa
