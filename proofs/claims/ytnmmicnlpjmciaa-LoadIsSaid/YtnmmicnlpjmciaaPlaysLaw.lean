/-
  What the document reads of its memory is what the program reads of its bytes, by lists alone.
-/
import Derived.Test.YtnmmicnlpjmciaaRef2
set_option linter.unusedVariables false
set_option linter.unusedSimpArgs false
namespace Go.Proofs.Ytnmmicnlpjmciaa
open Sx
set_option maxRecDepth 100000
set_option maxHeartbeats 4000000
/-- all bytes, out of what was laid -/
def buildA (L : List (RowT spanK)) (S : List (RowT strK)) : List (RowT byteK) := (L.zip S).foldl (fun l p => overRows l (p.1.1 : Int).toNat (strRows p.2.1)) zeros
theorem buildA_snoc {L : List (RowT spanK)} {S : List (RowT strK)} (h : L.length = S.length) (x : RowT spanK) (y : RowT strK) : buildA (L ++ [x]) (S ++ [y]) = overRows (buildA L S) (x.1 : Int).toNat (strRows y.1) := by
  unfold buildA
  rw [List.zip_append h, List.foldl_append]
  rfl
def oneB (v : Int) : RowT byteK := (v, ())
theorem strRows_map (s : ByteArray) : strRows s = s.data.toList.map fun c => oneB c.toNat := rfl
theorem strRows_at (s : ByteArray) {t : Nat} (h : t < s.size) : (strRows s)[t]? = some (oneB (bt s t)) := by
  have hl : t < s.data.toList.length := by simpa using h
  rw [strRows_map, List.getElem?_map, List.getElem?_eq_getElem hl]
  unfold bt
  rw [List.getD_eq_getElem?_getD, List.getElem?_eq_getElem hl]
  rfl
theorem fillI_succ (x : Int) (s : ByteArray) (a n : Int) (b0 : List (RowT byteK)) (k : Nat) : fillI x s a n b0 (k + 1) = if 0 ≤ x + (k : Int) - a ∧ x + (k : Int) - a < n then (fillI x s a n b0 k).set (x + (k : Int) - a).toNat (oneB (bt s k)) else fillI x s a n b0 k := rfl
theorem fillI_at (x : Int) (s : ByteArray) (a n : Int) (b0 : List (RowT byteK)) (hb : b0.length = n.toNat) (q : Nat) (hq : (q : Int) < n) : ∀ k : Nat, (fillI x s a n b0 k)[q]? = if 0 ≤ (q : Int) + a - x ∧ (q : Int) + a - x < (k : Int) then some (oneB (bt s ((q : Int) + a - x).toNat)) else b0[q]?
  | 0 => by rw [if_neg (by omega)]; rfl
  | k + 1 => by
    rw [fillI_succ]
    split
    · rename_i hc
      by_cases he : (x + (k : Int) - a).toNat = q
      · rw [he, List.getElem?_set_self (by rw [fillI_length]; omega), if_pos (by omega)]
        have : ((q : Int) + a - x).toNat = k := by omega
        rw [this]
      · rw [List.getElem?_set_ne he, fillI_at x s a n b0 hb q hq k]
        by_cases h1 : 0 ≤ (q : Int) + a - x ∧ (q : Int) + a - x < k
        · rw [if_pos h1, if_pos (by omega)]
        · rw [if_neg h1, if_neg (by omega)]
    · rename_i hc
      rw [fillI_at x s a n b0 hb q hq k]
      by_cases h1 : 0 ≤ (q : Int) + a - x ∧ (q : Int) + a - x < k
      · rw [if_pos h1, if_pos (by omega)]
      · rw [if_neg h1, if_neg (by omega)]
/-- what was laid is in the memory -/
structure RI (all : List (RowT byteK)) (L : List (RowT spanK)) (S : List (RowT strK)) : Prop where
  len : S.length = L.length
  all : all = buildA L S
  at_ : ∀ j, 0 ≤ ((List.getD L j (RowT.dflt spanK)).1 : Int) ∧ ((List.getD L j (RowT.dflt spanK)).1 : Int) + (ByteArray.size (List.getD S j (RowT.dflt strK)).1 : Int) ≤ 65536 ∧ ByteArray.size (List.getD S j (RowT.dflt strK)).1 ≤ 600
theorem take_snoc {ks : List CK} {l : List (RowT ks)} {j : Nat} (h : j < l.length) : l.take (j + 1) = l.take j ++ [List.getD l j (RowT.dflt ks)] := by
  rw [List.take_add_one, getD_some h]; rfl
theorem build_length {L : List (RowT spanK)} {S : List (RowT strK)} (hl : S.length = L.length) (h : ∀ j, 0 ≤ ((List.getD L j (RowT.dflt spanK)).1 : Int) ∧ ((List.getD L j (RowT.dflt spanK)).1 : Int) + (ByteArray.size (List.getD S j (RowT.dflt strK)).1 : Int) ≤ 65536 ∧ ByteArray.size (List.getD S j (RowT.dflt strK)).1 ≤ 600) : ∀ j, j ≤ L.length → (buildA (L.take j) (S.take j)).length = 65536
  | 0, _ => (List.length_replicate : (List.replicate 65536 zeroB).length = 65536)
  | j + 1, hj => by
    rw [take_snoc (by omega), take_snoc (by omega), buildA_snoc (by simp; omega)]
    refine over_len (build_length hl h j (by omega)) ?_
    rw [strRows_length]
    have key : ∀ (x : Int) (m : Nat), 0 ≤ x → x + m ≤ 65536 → x.toNat + m ≤ 65536 := by intro x m h1 h2; omega
    exact key _ _ (h j).1 (h j).2.1
theorem step_slice {A : List (RowT byteK)} (hl : A.length = 65536) {x a n : Int} {s : ByteArray} {b0 : List (RowT byteK)} (hb0 : b0 = (A.drop a.toNat).take n.toNat) (ha : 0 ≤ a) (hn : 0 ≤ n) (han : a + n ≤ 65536) (r1 : 0 ≤ x) (r2 : x + (s.size : Int) ≤ 65536) : fillI x s a n b0 s.size = ((overRows A x.toNat (strRows s)).drop a.toNat).take n.toNat := by
  have hb : b0.length = n.toNat := by rw [hb0, List.length_take, List.length_drop, hl]; omega
  apply List.ext_getElem?
  intro q
  by_cases hq : q < n.toNat
  · rw [fillI_at x s a n _ hb q (by omega), List.getElem?_take, if_pos hq, List.getElem?_drop, over_at (by rw [strRows_length, hl]; omega), hb0, List.getElem?_take, if_pos hq, List.getElem?_drop, strRows_length]
    by_cases hc : 0 ≤ (q : Int) + a - x ∧ (q : Int) + a - x < s.size
    · rw [if_pos hc, if_pos (by omega), show a.toNat + q - x.toNat = ((q : Int) + a - x).toNat by omega, strRows_at s (by omega)]
    · rw [if_neg hc, if_neg (by omega)]
  · rw [List.getElem?_eq_none (by rw [fillI_length, hb]; omega), List.getElem?_eq_none (by rw [List.length_take]; omega)]
theorem fillO_eq {all : List (RowT byteK)} {L : List (RowT spanK)} {S : List (RowT strK)} (h : RI all L S) {a n : Int} (ha : 0 ≤ a) (hn : 0 ≤ n) (han : a + n ≤ 65536) : ∀ j, j ≤ L.length → fillO L S a n j = ((buildA (L.take j) (S.take j)).drop a.toNat).take n.toNat
  | 0, _ => by
    have e : buildA (L.take 0) (S.take 0) = List.replicate 65536 zeroB := rfl
    rw [e, List.drop_replicate, List.take_replicate, Nat.min_eq_left (by omega)]
    rfl
  | j + 1, hj => by
    have hls := h.len
    rw [take_snoc (by omega), take_snoc (by omega), buildA_snoc (by simp; omega)]
    obtain ⟨r1, r2, r3⟩ := h.at_ j
    exact step_slice (build_length h.len h.at_ j (by omega)) (fillO_eq h ha hn han j (by omega)) ha hn han r1 r2
theorem RI.read {all : List (RowT byteK)} {L : List (RowT spanK)} {S : List (RowT strK)} (h : RI all L S) (a n : Int) : refB L S a n = readB all a n := by
  unfold refB readB
  cases hc : insideI a n with
  | false => rfl
  | true =>
    simp only [insideI, decide_eq_true_eq] at hc
    have hS : S.take L.length = S := List.take_of_length_le (by rw [h.len]; exact Nat.le_refl _)
    rw [cond_true, cond_true, fillO_eq h hc.1 hc.2.1 (by omega) L.length (Nat.le_refl _), List.drop_zero, List.take_length, hS, ← h.all, List.take_take, Nat.min_self]
theorem RI.zero : RI zeros [] [] := ⟨rfl, rfl, fun j => by
  simp only [List.getD_nil]
  exact ⟨by decide, by decide, by decide⟩⟩
theorem RI.length {all : List (RowT byteK)} {L : List (RowT spanK)} {S : List (RowT strK)} (h : RI all L S) : all.length = 65536 := by
  have := build_length h.len h.at_ L.length (Nat.le_refl _)
  have hS : S.take L.length = S := List.take_of_length_le (by rw [h.len]; exact Nat.le_refl _)
  rwa [List.take_length, hS, ← h.all] at this
theorem RI.pre {all : List (RowT byteK)} {L : List (RowT spanK)} {S : List (RowT strK)} (h : RI all L S) (hl : L.length ≤ 100) : rowsPre L S := ⟨h.len, hl, fun j => by
  obtain ⟨r1, r2, r3⟩ := h.at_ j
  have key : ∀ (x : Int) (m : Nat), x + m ≤ 65536 → x ≤ 65536 := by intro x m h2; omega
  exact ⟨r1, key _ _ r2, by omega⟩⟩
theorem RI.load {all : List (RowT byteK)} {L : List (RowT spanK)} {S : List (RowT strK)} (h : RI all L S) {a : Int} {s : ByteArray} (hc : loadC L a s = 0) (hs : s.size ≤ 600) : RI (overRows all a.toNat (strRows s)) (L ++ [one a s.size]) (S ++ [oneS s]) := by
  obtain ⟨i1, i2, _⟩ := loadC_in hc
  refine ⟨by simp [h.len], ?_, fun j => ?_⟩
  · rw [buildA_snoc h.len.symm, ← h.all]
  · by_cases hj : j < L.length
    · have hj' : j < S.length := by rw [h.len]; exact hj
      have e1 : List.getD (L ++ [one a s.size]) j (RowT.dflt spanK) = List.getD L j (RowT.dflt spanK) := by
        rw [List.getD_eq_getElem?_getD, List.getD_eq_getElem?_getD, List.getElem?_append_left hj]
      have e2 : List.getD (S ++ [oneS s]) j (RowT.dflt strK) = List.getD S j (RowT.dflt strK) := by
        rw [List.getD_eq_getElem?_getD, List.getD_eq_getElem?_getD, List.getElem?_append_left hj']
      rw [e1, e2]; exact h.at_ j
    · by_cases hj2 : j = L.length
      · subst hj2
        have e1 : List.getD (L ++ [one a s.size]) L.length (RowT.dflt spanK) = one a s.size := by
          rw [List.getD_eq_getElem?_getD, List.getElem?_append_right (Nat.le_refl _)]; simp
        have e2 : List.getD (S ++ [oneS s]) L.length (RowT.dflt strK) = oneS s := by
          rw [List.getD_eq_getElem?_getD, List.getElem?_append_right (by rw [h.len]; exact Nat.le_refl _), h.len]; simp
        rw [e1, e2]; exact ⟨i1, i2, hs⟩
      · have e1 : List.getD (L ++ [one a s.size]) j (RowT.dflt spanK) = RowT.dflt spanK := by
          rw [List.getD_eq_getElem?_getD, List.getElem?_eq_none (by simp; omega)]; rfl
        have e2 : List.getD (S ++ [oneS s]) j (RowT.dflt strK) = RowT.dflt strK := by
          rw [List.getD_eq_getElem?_getD, List.getElem?_eq_none (by simp [h.len]; omega)]; rfl
        rw [e1, e2]; exact ⟨by decide, by decide, by decide⟩
theorem xloadPre_mk {L : List (RowT spanK)} {S : List (RowT strK)} {a : Int} {s : ByteArray} (h0 : L.length ≤ 100) (h1 : S.length ≤ 100) (h2 : s.size ≤ 1000) (h3 : -9223372036854775808 ≤ a) (h4 : a ≤ 9223372036854775807) : xloadPre L S a s := ⟨h0, h1, h2, h3, h4⟩
end Go.Proofs.Ytnmmicnlpjmciaa
