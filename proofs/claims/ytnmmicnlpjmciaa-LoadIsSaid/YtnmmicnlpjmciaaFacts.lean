/-
  What three spans that may be laid bring with them, by lists alone.
-/
import Derived.Test.YtnmmicnlpjmciaaPlaysLaw
set_option linter.unusedVariables false
set_option linter.unusedSimpArgs false
namespace Go.Proofs.Ytnmmicnlpjmciaa
open Sx
theorem push_bytes : ∀ (bs : List UInt8) (r : ByteArray), ((bs.map fun c => (((c.toNat : Int), ()) : RowT byteK)).foldl (fun (r : ByteArray) x => r.push (UInt8.ofNat (Int.toNat x.1))) r).data.toList = r.data.toList ++ bs
  | [], r => by simp
  | c :: bs, r => by
    simp only [List.map_cons, List.foldl_cons]
    rw [push_bytes bs]
    simp
theorem rowsStr_strRows (s : ByteArray) : rowsStr (strRows s) = s := by
  have h := push_bytes s.data.toList ByteArray.empty
  apply ByteArray.ext
  apply Array.ext'
  have e : (rowsStr (strRows s)).data.toList = ByteArray.empty.data.toList ++ s.data.toList := h
  rw [e]; rfl
theorem insideI_of {a n : Int} (h0 : 0 ≤ a) (h1 : 0 ≤ n) (h2 : a + n ≤ 65536) : insideI a n = true := by
  unfold insideI; exact decide_eq_true ⟨h0, h1, by omega, by omega⟩
theorem read_own {A : List (RowT byteK)} (hA : A.length = 65536) {a : Int} {s : ByteArray} (h0 : 0 ≤ a) (h1 : a + s.size ≤ 65536) : readB (overRows A a.toNat (strRows s)) a s.size = s := by
  unfold readB
  rw [insideI_of h0 (Int.natCast_nonneg _) h1, cond_true]
  have e : List.take (Int.toNat (s.size : Int)) (List.drop a.toNat (overRows A a.toNat (strRows s))) = strRows s := by
    apply List.ext_getElem?
    intro q
    rw [Int.toNat_natCast, List.getElem?_take, List.getElem?_drop]
    split
    · rename_i hq
      rw [over_at (by rw [strRows_length, hA]; omega), if_pos (by rw [strRows_length]; omega)]
      congr 1; omega
    · rename_i hq
      rw [List.getElem?_eq_none (by rw [strRows_length]; omega)]
  rw [e, rowsStr_strRows]
theorem read_other {A : List (RowT byteK)} (hA : A.length = 65536) {a n c : Int} {s : ByteArray} (h0 : 0 ≤ a) (hn : 0 ≤ n) (h1 : a + n ≤ 65536) (h2 : 0 ≤ c) (h3 : c + s.size ≤ 65536) (hd : n = 0 ∨ (s.size : Int) = 0 ∨ c + s.size ≤ a ∨ a + n ≤ c) : readB (overRows A c.toNat (strRows s)) a n = readB A a n := by
  unfold readB
  rw [insideI_of h0 hn h1, cond_true, cond_true]
  congr 1
  apply List.ext_getElem?
  intro q
  rw [List.getElem?_take, List.getElem?_take, List.getElem?_drop, List.getElem?_drop]
  split
  · rename_i hq
    rw [over_at (by rw [strRows_length, hA]; omega), if_neg (by rw [strRows_length]; omega)]
  · rfl
theorem checkF_zero {sp l : List (RowT spanK)} (h : checkF sp l = 0) : ∀ j, j < l.length → checkAt sp l j = 0 := by
  intro j
  induction j using Nat.strongRecOn with
  | ind j ih =>
    intro hj
    by_cases hz : checkAt sp l j = 0
    · exact hz
    · have := checkF_at hj (fun k hk => ih k hk (by omega)) hz
      rw [h] at this
      exact absurd this.symm hz
theorem loadC_of {l : List (RowT spanK)} {j : Nat} {a : Int} {s : ByteArray} (hj : l[j]? = some (one a s.size)) (h : checkAt [] l j = 0) : loadC (l.take j) a s = 0 := by
  unfold loadC
  rw [checkF_one]
  have e : List.getD l j (RowT.dflt spanK) = one a s.size := by rw [List.getD_eq_getElem?_getD, hj]; rfl
  unfold checkAt at h
  rw [e] at h
  have h' : (if insideI a s.size = false then (2 : Int) else if 0 < (s.size : Int) ∧ a < 4096 then 3 else if meetsB a s.size [] = true ∨ meetsB a s.size (l.take j) = true then 12 else 0) = 0 := h
  have em : meetsB a s.size [] = false := rfl
  simp only [em, Bool.false_eq_true, false_or] at h'
  exact h'
/-- what is known when three spans may be laid -/
structure Three (l0 l1 l2 : Int) (d0 d1 d2 : ByteArray) : Prop where
  c0 : loadC [] l0 d0 = 0
  c1 : loadC [one l0 d0.size] l1 d1 = 0
  c2 : loadC [one l0 d0.size, one l1 d1.size] l2 d2 = 0
theorem Three.of {l0 l1 l2 : Int} {d0 d1 d2 : ByteArray} (h : checkF [] [one l0 d0.size, one l1 d1.size, one l2 d2.size] = 0) : Three l0 l1 l2 d0 d1 d2 :=
  ⟨loadC_of (l := [one l0 d0.size, one l1 d1.size, one l2 d2.size]) (j := 0) rfl (checkF_zero h 0 (by simp)), loadC_of (l := [one l0 d0.size, one l1 d1.size, one l2 d2.size]) (j := 1) rfl (checkF_zero h 1 (by simp)), loadC_of (l := [one l0 d0.size, one l1 d1.size, one l2 d2.size]) (j := 2) rfl (checkF_zero h 2 (by simp))⟩
def A1 (l0 : Int) (d0 : ByteArray) : List (RowT byteK) := overRows zeros l0.toNat (strRows d0)
def A2 (l0 l1 : Int) (d0 d1 : ByteArray) : List (RowT byteK) := overRows (A1 l0 d0) l1.toNat (strRows d1)
def A3 (l0 l1 l2 : Int) (d0 d1 d2 : ByteArray) : List (RowT byteK) := overRows (A2 l0 l1 d0 d1) l2.toNat (strRows d2)
structure Back (l0 l1 l2 : Int) (d0 d1 d2 : ByteArray) : Prop where
  b0 : 0 ≤ l0 ∧ l0 + d0.size ≤ 65536 ∧ (0 < d0.size → 4096 ≤ l0)
  b1 : 0 ≤ l1 ∧ l1 + d1.size ≤ 65536 ∧ (0 < d1.size → 4096 ≤ l1)
  b2 : 0 ≤ l2 ∧ l2 + d2.size ≤ 65536 ∧ (0 < d2.size → 4096 ≤ l2)
  m10 : meetI l1 d1.size l0 d0.size = false
  m20 : meetI l2 d2.size l0 d0.size = false
  m21 : meetI l2 d2.size l1 d1.size = false
  n1 : (A1 l0 d0).length = 65536
  n2 : (A2 l0 l1 d0 d1).length = 65536
  n3 : (A3 l0 l1 l2 d0 d1 d2).length = 65536
  r0 : readB (A3 l0 l1 l2 d0 d1 d2) l0 d0.size = d0
  r1 : readB (A3 l0 l1 l2 d0 d1 d2) l1 d1.size = d1
  r2 : readB (A3 l0 l1 l2 d0 d1 d2) l2 d2.size = d2
  i0 : readC l0 d0.size = 0
  i1 : readC l1 d1.size = 0
  i2 : readC l2 d2.size = 0
theorem meetsB_one {a n : Int} {x y : Int} (h : meetsB a n [one x y] = false) : meetI a n x y = false := by
  simpa [meetsB, meetX] using h
theorem Three.back {l0 l1 l2 : Int} {d0 d1 d2 : ByteArray} (h : Three l0 l1 l2 d0 d1 d2) : Back l0 l1 l2 d0 d1 d2 := by
  obtain ⟨a0, a1, a2, a3⟩ := loadC_in h.c0
  obtain ⟨b0, b1, b2, b3⟩ := loadC_in h.c1
  obtain ⟨c0, c1, c2, c3⟩ := loadC_in h.c2
  have m10 : meetI l1 d1.size l0 d0.size = false := by simpa [meetsB, meetX] using b3
  have mm : meetI l2 d2.size l0 d0.size = false ∧ meetI l2 d2.size l1 d1.size = false := by simpa [meetsB, meetX] using c3
  have e10 := meetI_false m10 b0 b1 a0 a1 (Int.natCast_nonneg _) (Int.natCast_nonneg _)
  have e20 := meetI_false mm.1 c0 c1 a0 a1 (Int.natCast_nonneg _) (Int.natCast_nonneg _)
  have e21 := meetI_false mm.2 c0 c1 b0 b1 (Int.natCast_nonneg _) (Int.natCast_nonneg _)
  have z : zeros.length = 65536 := List.length_replicate
  have n1 : (A1 l0 d0).length = 65536 := over_len z (by rw [strRows_length]; omega)
  have n2 : (A2 l0 l1 d0 d1).length = 65536 := over_len n1 (by rw [strRows_length]; omega)
  have n3 : (A3 l0 l1 l2 d0 d1 d2).length = 65536 := over_len n2 (by rw [strRows_length]; omega)
  have rc : ∀ {a : Int} {s : ByteArray}, 0 ≤ a → a + s.size ≤ 65536 → readC a s.size = 0 := fun h1 h2 => by unfold readC; rw [insideI_of h1 (Int.natCast_nonneg _) h2]; rfl
  refine ⟨⟨a0, a1, a2⟩, ⟨b0, b1, b2⟩, ⟨c0, c1, c2⟩, m10, mm.1, mm.2, n1, n2, n3, ?_, ?_, ?_, rc a0 a1, rc b0 b1, rc c0 c1⟩
  · unfold A3
    rw [read_other n2 a0 (Int.natCast_nonneg _) a1 c0 c1 (by omega)]
    unfold A2
    rw [read_other n1 a0 (Int.natCast_nonneg _) a1 b0 b1 (by omega)]
    exact read_own z a0 a1
  · unfold A3
    rw [read_other n2 b0 (Int.natCast_nonneg _) b1 c0 c1 (by omega)]
    exact read_own n1 b0 b1
  · exact read_own n2 c0 c1
end Go.Proofs.Ytnmmicnlpjmciaa
