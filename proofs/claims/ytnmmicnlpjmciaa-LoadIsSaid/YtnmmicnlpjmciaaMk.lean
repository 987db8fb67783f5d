/-
  Words on what is laid and read, by lists alone.
-/
import Derived.Test.YtnmmicnlpjmciaaRam
set_option linter.unusedVariables false
set_option linter.unusedSimpArgs false
namespace Go.Proofs.Ytnmmicnlpjmciaa
open Sx
set_option maxRecDepth 100000
set_option maxHeartbeats 4000000
theorem repl_len : zeros.length = 65536 := List.length_replicate
theorem over_len {ks : List CK} {l : List (RowT ks)} {k : Nat} {news : List (RowT ks)} (h : l.length = 65536) (hk : k + news.length ≤ 65536) : (overRows l k news).length = 65536 := by
  simp only [overRows, List.length_append, List.length_take, List.length_drop, h]; omega
theorem okB {l : List (RowT spanK)} (h : (l.all fun r => decide (-9223372036854775808 ≤ (r.1 : Int) ∧ (r.1 : Int) ≤ 9223372036854775807)) = true) : okSpans l := fun r hr => by simpa using List.all_eq_true.1 h r hr
theorem loadPre_mk {all : List (RowT byteK)} {sp : List (RowT spanK)} {a : Int} {s : ByteArray} (h0 : all.length = 65536) (h1 : sp.length ≤ 100) (h2 : s.size ≤ 1000) (h3 : -9223372036854775808 ≤ a) (h4 : a ≤ 9223372036854775807) : loadPre all sp a s := ⟨h0, h1, h2, h3, h4⟩
theorem readPre_mk {all : List (RowT byteK)} {a : Int} (h0 : all.length = 65536) (h3 : -9223372036854775808 ≤ a) (h4 : a ≤ 9223372036854775807) : readPre all a := ⟨h0, h3, h4⟩
theorem checkPre_mk {sp l : List (RowT spanK)} (h0 : l.length ≤ 1000) (h1 : sp.length ≤ 1000) (h2 : okSpans l) : checkPre sp l := ⟨h0, h1, h2⟩
theorem over_at {α : Type} {l news : List α} {k : Nat} (h : k + news.length ≤ l.length) (m : Nat) : (overRows l k news)[m]? = if k ≤ m ∧ m < k + news.length then news[m - k]? else l[m]? := by
  unfold overRows
  have ht : (l.take k).length = k := by simp; omega
  by_cases h1 : m < k
  · rw [if_neg (by omega), List.append_assoc, List.getElem?_append_left (by omega), List.getElem?_take, if_pos h1]
  · by_cases h2 : m < k + news.length
    · rw [if_pos ⟨by omega, h2⟩, List.append_assoc, List.getElem?_append_right (by omega), List.getElem?_append_left (by omega), ht]
    · rw [if_neg (by omega), List.getElem?_append_right (by simp; omega), List.getElem?_drop]
      congr 1
      simp; omega
theorem meetI_false {a n c m : Int} (h : meetI a n c m = false) (ha : 0 ≤ a) (han : a + n ≤ 65536) (hc : 0 ≤ c) (hcm : c + m ≤ 65536) (hn : 0 ≤ n) (hm : 0 ≤ m) : n = 0 ∨ m = 0 ∨ c + m ≤ a ∨ a + n ≤ c := by
  unfold meetI at h
  rw [wrapId (by omega) (by omega), wrapId (by omega) (by omega)] at h
  simp only [decide_eq_false_iff_not] at h
  omega
end Go.Proofs.Ytnmmicnlpjmciaa
