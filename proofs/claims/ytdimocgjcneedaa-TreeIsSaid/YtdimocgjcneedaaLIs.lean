/-
  The tokens, the counts, and the nodes of any tree, whether it fits, and whether it is another one: the law.
-/
import Derived.Test.YtdimocgjcneedaaWs
import Derived.Test.YtdimocgjcneedaaLNd
set_option linter.unusedVariables false
set_option linter.unusedSimpArgs false
namespace Go.Proofs.Ytdimocgjcneedaa
open Sx
set_option maxRecDepth 100000
set_option maxHeartbeats 4000000
/-! ### what the law rests on -/
theorem sameL_congr {f g : PNode → PNode → Bool} : ∀ (l m : List PNode), (∀ a ∈ l, ∀ c, f a c = g a c) → sameL f l m = sameL g l m
  | [], m, _ => by cases m <;> rfl
  | a :: l, [], _ => rfl
  | a :: l, c :: m, h => by
    simp only [sameL]
    rw [h a (by simp) c, sameL_congr l m fun x hx => h x (by simp [hx])]
theorem sameT_F : ∀ (lv : Nat) (a c : PNode), dpP (erase a) ≤ lv → sameT a c = sameF lv a c
  | 0, a, c, h => by rw [dpP_erase] at h; omega
  | lv + 1, a, c, h => by
    rw [dpP_erase] at h
    rw [sameT_eq, sameF, sameL_congr a.kids c.kids fun x hx d => sameT_F lv x d (dpPL_mem (by omega) _ (List.mem_map_of_mem hx))]
theorem is_same {n m : PNode} (h : lowAll n = true) : sameT n m = sameF 20 n m := sameT_F 20 n m (Nat.le_trans (lowAll_few h).dp (by decide))
/-- a spot's node -/
def spotN (r : RowT spotK) : PNode := .mk r.2.1 r.2.2.1.1 r.2.2.1.2 r.2.2.2.1.1 r.2.2.2.1.2
theorem spotN_mk (p : ByteArray) (n : PNode) : spotN (spotR p n) = n := PNode.mk_eta n
theorem walkL_ok {f : PNode → List (RowT spotK)} : ∀ (l : List PNode), (∀ k ∈ l, ∀ r ∈ f k, okT (spotN r)) → ∀ r ∈ walkL f l, okT (spotN r)
  | [], _, r, hr => by cases hr
  | k :: l, h, r, hr => by
    rcases List.mem_append.1 hr with hr | hr
    · exact h k (by simp) r hr
    · exact walkL_ok l (fun x hx => h x (by simp [hx])) r hr
theorem walk_ok : ∀ (lv : Nat) (p : ByteArray) (n : PNode), okT n → ∀ r ∈ walkF lv p n, okT (spotN r)
  | 0, p, n, _, r, hr => by cases hr
  | lv + 1, p, n, h, r, hr => by
    rcases List.mem_cons.1 hr with rfl | hr
    · rw [spotN_mk]; exact h
    · exact walkL_ok n.kids (fun k hk r hr => walk_ok lv _ k (okL_mem (okT_list h) k hk) r hr) r hr
theorem walkL_le {f : PNode → List (RowT spotK)} : ∀ (l : List PNode), (∀ k ∈ l, (f k).length ≤ nsP (erase k)) → (walkL f l).length ≤ nsPL (l.map erase)
  | [], _ => Nat.zero_le _
  | n :: l, h => by
    have h1 := h n (by simp)
    have h2 := walkL_le l fun k hk => h k (by simp [hk])
    simp only [walkL, List.map_cons, nsPL, List.length_append]
    omega
theorem walkF_le : ∀ (lv : Nat) (p : ByteArray) (n : PNode), (walkF lv p n).length ≤ nsP (erase n)
  | 0, p, n => Nat.zero_le _
  | lv + 1, p, n => by
    have := walkL_le (f := fun k => walkF lv (kidP p k.name) k) n.kids fun k _ => walkF_le lv _ k
    rw [nsP_erase, walkF]
    simp only [List.length_cons]
    omega
theorem lowAll_nm {n : PNode} (h : lowAll n = true) : nmT n := by
  simp only [lowAll, Bool.and_eq_true, decide_eq_true_eq] at h
  exact low_nm 12 n h.1
theorem is_w {n : PNode} (h : lowAll n = true) : wPre n := by
  have := walkF_le 8 slash n; have := (lowAll_few h).few
  exact ⟨⟨by decide, by decide⟩, (lowAll_few h).ok, lowAll_nm h, by decide, by decide, by rw [List.nil_append]; show (walkF 8 slash n).length ≤ _; omega⟩
theorem is_rw {n : PNode} (h : lowAll n = true) : rwPre n := by
  have := walkF_le 8 slash n; have := (lowAll_few h).few
  exact ⟨⟨by decide, by decide⟩, (lowAll_few h).ok, lowAll_nm h, by decide, by decide, by show (walkF 8 slash n).length ≤ _; omega⟩
theorem is_tok {n : PNode} (h : lowAll n = true) : tokPre n := ⟨(lowAll_few h).ok, Nat.le_trans ((lowAll_few h).len 8) (by decide)⟩
theorem is_sk {n : PNode} {x y : Value × List (RowT tokK)} (hx : tokQ n x) (hy : tokQ n y) : sameK x.2 y.2 = true := decide_eq_true (by rw [show x.2 = _ from hx, show y.2 = _ from hy])
theorem is_skp {n : PNode} {x y : Value × List (RowT tokK)} (hx : tokQ n x) (h : lowAll n = true) : skPre (x, y) := by
  show x.2.length ≤ _
  rw [show x.2 = _ from hx]; exact Nat.le_trans ((lowAll_few h).len 8) (by decide)
theorem is_cp {n m : PNode} (h : erase m = erase n ∧ okT m) : sameF 20 m n = true := sameF_of _ _ _ h.1
theorem is_eq {n : PNode} {x y : Value × List (RowT spotK)} (hx : wQ n x) (hy : wQ n y) : x.2 = y.2 := by rw [show x.2 = _ from hx, show y.2 = _ from hy]
theorem is_len {n : PNode} {x y : Value × List (RowT spotK)} (hx : wQ n x) (hy : wQ n y) : (((x.2.length : Nat) : Int) != ((y.2.length : Nat) : Int)) = false := by rw [is_eq hx hy]; simp
theorem is_wlen {n : PNode} {x : Value × List (RowT spotK)} (hx : wQ n x) (h : lowAll n = true) : x.2.length ≤ 1000000 := by
  have := walkF_le 8 slash n; have := (lowAll_few h).few
  rw [show x.2 = _ from hx]; omega
theorem is_wok {n : PNode} {x : Value × List (RowT spotK)} (hx : wQ n x) (h : lowAll n = true) : ∀ r ∈ x.2, okT (spotN r) := by
  rw [show x.2 = _ from hx]; exact walk_ok 8 slash n (lowAll_few h).ok
/-! ### the loop over the nodes -/
theorem getD_ok {a : List (RowT spotK)} (h : ∀ r ∈ a, okT (spotN r)) (j : Nat) : okT (spotN (List.getD a j (RowT.dflt spotK))) := by
  by_cases hj : j < a.length
  · exact h _ (getD_mem _ hj)
  · rw [List.getD_eq_getElem?_getD, List.getElem?_eq_none (by omega)]
    exact ⟨Nat.zero_le _, Nat.zero_le _, trivial⟩
def isS (xv yv : Value) (a c : List (RowT spotK)) (j : Nat) : St := ⟨slots 111 0 [(8, .sv (.sl spotK) (xv, a)), (9, .sv (.sl spotK) (yv, c)), (10, i j)], [deadB, deadB]⟩
def isO (_ : Unit) : Ex × St := (.exit 0, ⟨slots 111 0 [], [deadB, deadB]⟩)
def isI (a : List (RowT spotK)) (j : Nat) : Prop := j ≤ a.length
theorem is_round (xv yv : Value) (a : List (RowT spotK)) (j : Nat) (hj : j ≤ a.length) (hlen : a.length ≤ 1000000) (hwr : IntKind.i64.wrap ((j : Int) + 1) = (j : Int) + 1) (hok : okT (spotN (List.getD a j (RowT.dflt spotK)))) (f1 : j < a.length → isI a (j + 1)) : (exec Try.prog (Env.of [eSame20] noCut noWr) 400 5 (loopOf Try.prog 5 10) (isS xv yv a a j) fun e st => Tr.ok (e, st)).Holds (RoundPost (isI a) (isS xv yv a a) (fun j => a.length - j) 2 (fun _ : Unit => True) isO (a.length - j)) := by
  refine Or.elim (Bool.eq_false_or_eq_true (decide ((↑j : Int) < (↑(List.length a) : Int)))) (fun g0 => ?_) (fun g0 => ?_)
  · skip
    refine Tr.needH [.yes, .run 4, .yes] (cs := [(_, true), (_, true)]) (p := (0 : Int) ≤ (↑j : Int) ∧ (↑j : Int) < (↑(List.length a) : Int)) (by kernel_rfl) ⟨g0, g0, trivial⟩ (by first | exact ⟨hok, hok⟩ | (((try clear f0); (try clear f1); (try clear f2); (try clear f3); (try clear f4); (try simp only [hwr] at *); (try simp only [q1, q2, ne_eq, reduceIte, PNode.ofRow] at *); (try dsimp only [CK.T] at *); first | done | omega))) ?_
    refine Tr.needH [] (cs := []) (p := (0 : Int) ≤ (↑j : Int) ∧ (↑j : Int) < (↑(List.length a) : Int)) (by kernel_rfl) trivial (by first | exact ⟨hok, hok⟩ | (((try clear f0); (try clear f1); (try clear f2); (try clear f3); (try clear f4); (try simp only [hwr] at *); (try simp only [q1, q2, ne_eq, reduceIte, PNode.ofRow] at *); (try dsimp only [CK.T] at *); first | done | omega))) ?_
    refine Tr.alongH [] (cs := []) (by kernel_rfl) (by kernel_rfl) trivial (Tr.bothH ?_ ?_)
    · skip
      refine Tr.needH [] (cs := []) (p := j < List.length a) (by kernel_rfl) trivial (by first | exact ⟨hok, hok⟩ | (((try clear f0); (try clear f1); (try clear f2); (try clear f3); (try clear f4); (try simp only [hwr] at *); (try simp only [q1, q2, ne_eq, reduceIte, PNode.ofRow] at *); (try dsimp only [CK.T] at *); first | done | omega))) ?_
      refine Tr.needH [.run 1] (cs := []) (p := j < List.length a) (by kernel_rfl) trivial (by first | exact ⟨hok, hok⟩ | (((try clear f0); (try clear f1); (try clear f2); (try clear f3); (try clear f4); (try simp only [hwr] at *); (try simp only [q1, q2, ne_eq, reduceIte, PNode.ofRow] at *); (try dsimp only [CK.T] at *); first | done | omega))) ?_
      have g1 : (!ByteArray.toList (List.getD a j (RowT.dflt spotK)).fst == ByteArray.toList (List.getD a j (RowT.dflt spotK)).fst) = false := by (first | (((try clear f0); (try clear f1); (try clear f2); (try clear f3); (try clear f4); (try simp only [hwr] at *); (try simp only [q1, q2, ne_eq, reduceIte, PNode.ofRow] at *); (try dsimp only [CK.T] at *); first | done | omega)) | exact sameF_of _ _ _ rfl | (simp; done) | (simp only [Bool.not_eq_true', Bool.not_eq_false']; exact sameF_of _ _ _ rfl))
      refine Tr.needH [.run 1, .no] (cs := [(_, false)]) (p := (0 : Int) ≤ (↑j : Int) ∧ (↑j : Int) < (↑(List.length a) : Int)) (by kernel_rfl) ⟨g1, trivial⟩ (by first | exact ⟨hok, hok⟩ | (((try clear f0); (try clear f1); (try clear f2); (try clear f3); (try clear f4); (try simp only [hwr] at *); (try simp only [q1, q2, ne_eq, reduceIte, PNode.ofRow] at *); (try dsimp only [CK.T] at *); first | done | omega))) ?_
      refine Tr.needH [] (cs := []) (p := (0 : Int) ≤ (↑j : Int) ∧ (↑j : Int) < (↑(List.length a) : Int)) (by kernel_rfl) trivial (by first | exact ⟨hok, hok⟩ | (((try clear f0); (try clear f1); (try clear f2); (try clear f3); (try clear f4); (try simp only [hwr] at *); (try simp only [q1, q2, ne_eq, reduceIte, PNode.ofRow] at *); (try dsimp only [CK.T] at *); first | done | omega))) ?_
      refine Tr.alongH [] (cs := []) (by kernel_rfl) (by kernel_rfl) trivial (Tr.bothH ?_ ?_)
      · skip
        refine Tr.needH [] (cs := []) (p := j < List.length a) (by kernel_rfl) trivial (by first | exact ⟨hok, hok⟩ | (((try clear f0); (try clear f1); (try clear f2); (try clear f3); (try clear f4); (try simp only [hwr] at *); (try simp only [q1, q2, ne_eq, reduceIte, PNode.ofRow] at *); (try dsimp only [CK.T] at *); first | done | omega))) ?_
        refine Tr.needH [.run 1] (cs := []) (p := j < List.length a) (by kernel_rfl) trivial (by first | exact ⟨hok, hok⟩ | (((try clear f0); (try clear f1); (try clear f2); (try clear f3); (try clear f4); (try simp only [hwr] at *); (try simp only [q1, q2, ne_eq, reduceIte, PNode.ofRow] at *); (try dsimp only [CK.T] at *); first | done | omega))) ?_
        refine Tr.needH [.run 1] (cs := []) (p := stPre (PNode.ofRow ((List.getD a j (RowT.dflt spotK)).snd.fst, (List.getD a j (RowT.dflt spotK)).snd.snd.fst, (List.getD a j (RowT.dflt spotK)).snd.snd.snd.fst, ()), PNode.ofRow ((List.getD a j (RowT.dflt spotK)).snd.fst, (List.getD a j (RowT.dflt spotK)).snd.snd.fst, (List.getD a j (RowT.dflt spotK)).snd.snd.snd.fst, ()))) (by kernel_rfl) trivial (by first | exact ⟨hok, hok⟩ | (((try clear f0); (try clear f1); (try clear f2); (try clear f3); (try clear f4); (try simp only [hwr] at *); (try simp only [q1, q2, ne_eq, reduceIte, PNode.ofRow] at *); (try dsimp only [CK.T] at *); first | done | omega))) ?_
        have g2 : (!sameF (20 : Nat) (PNode.ofRow ((List.getD a j (RowT.dflt spotK)).snd.fst, (List.getD a j (RowT.dflt spotK)).snd.snd.fst, (List.getD a j (RowT.dflt spotK)).snd.snd.snd.fst, ())) (PNode.ofRow ((List.getD a j (RowT.dflt spotK)).snd.fst, (List.getD a j (RowT.dflt spotK)).snd.snd.fst, (List.getD a j (RowT.dflt spotK)).snd.snd.snd.fst, ()))) = false := by (first | (((try clear f0); (try clear f1); (try clear f2); (try clear f3); (try clear f4); (try simp only [hwr] at *); (try simp only [q1, q2, ne_eq, reduceIte, PNode.ofRow] at *); (try dsimp only [CK.T] at *); first | done | omega)) | exact sameF_of _ _ _ rfl | (simp; done) | (simp only [Bool.not_eq_true', Bool.not_eq_false']; exact sameF_of _ _ _ rfl))
        exact Tr.againH [.run 2, .no] (cs := [(_, false)]) (by kernel_rfl) ⟨g2, trivial⟩ (j + 1) (by kernel_rfl) (by exact f1 (by ((try clear f0); (try clear f1); (try clear f2); (try clear f3); (try clear f4); (try simp only [hwr] at *); (try simp only [q1, q2, ne_eq, reduceIte, PNode.ofRow] at *); (try dsimp only [CK.T] at *); first | done | omega))) (by ((try clear f0); (try clear f1); (try clear f2); (try clear f3); (try clear f4); (try simp only [hwr] at *); (try simp only [q1, q2, ne_eq, reduceIte, PNode.ofRow] at *); (try dsimp only [CK.T] at *); first | done | omega)) [0, 1] (by kernel_rfl) (q := true = true ∧ some (xv, a) = some (xv, a) ∧ some (yv, a) = some (yv, a) ∧ Value.int IntKind.i64 (IntKind.wrap IntKind.i64 ((↑j : Int) + (1 : Int))) = Value.int IntKind.i64 (↑(j + (1 : Nat)) : Int) ∧ True) (by kernel_rfl) (by (repeat' apply And.intro) <;> first | rfl | trivial | (refine congrArg (Value.int _) ?_; ((try clear f0); (try clear f1); (try clear f2); (try clear f3); (try clear f4); (try simp only [hwr] at *); (try simp only [q1, q2, ne_eq, reduceIte, PNode.ofRow] at *); (try dsimp only [CK.T] at *); first | done | omega)))
      · skip
        refine Tr.needH [] (cs := []) (p := j < List.length a) (by kernel_rfl) trivial (by first | exact ⟨hok, hok⟩ | (((try clear f0); (try clear f1); (try clear f2); (try clear f3); (try clear f4); (try simp only [hwr] at *); (try simp only [q1, q2, ne_eq, reduceIte, PNode.ofRow] at *); (try dsimp only [CK.T] at *); first | done | omega))) ?_
        refine Tr.needH [.run 1] (cs := []) (p := j < List.length a) (by kernel_rfl) trivial (by first | exact ⟨hok, hok⟩ | (((try clear f0); (try clear f1); (try clear f2); (try clear f3); (try clear f4); (try simp only [hwr] at *); (try simp only [q1, q2, ne_eq, reduceIte, PNode.ofRow] at *); (try dsimp only [CK.T] at *); first | done | omega))) ?_
        refine Tr.needH [.run 1] (cs := []) (p := stPre (PNode.ofRow ((List.getD a j (RowT.dflt spotK)).snd.fst, (List.getD a j (RowT.dflt spotK)).snd.snd.fst, (List.getD a j (RowT.dflt spotK)).snd.snd.snd.fst, ()), PNode.ofRow ((List.getD a j (RowT.dflt spotK)).snd.fst, (List.getD a j (RowT.dflt spotK)).snd.snd.fst, (List.getD a j (RowT.dflt spotK)).snd.snd.snd.fst, ()))) (by kernel_rfl) trivial (by first | exact ⟨hok, hok⟩ | (((try clear f0); (try clear f1); (try clear f2); (try clear f3); (try clear f4); (try simp only [hwr] at *); (try simp only [q1, q2, ne_eq, reduceIte, PNode.ofRow] at *); (try dsimp only [CK.T] at *); first | done | omega))) ?_
        have g3 : (!sameF (20 : Nat) (PNode.ofRow ((List.getD a j (RowT.dflt spotK)).snd.fst, (List.getD a j (RowT.dflt spotK)).snd.snd.fst, (List.getD a j (RowT.dflt spotK)).snd.snd.snd.fst, ())) (PNode.ofRow ((List.getD a j (RowT.dflt spotK)).snd.fst, (List.getD a j (RowT.dflt spotK)).snd.snd.fst, (List.getD a j (RowT.dflt spotK)).snd.snd.snd.fst, ()))) = false := by (first | (((try clear f0); (try clear f1); (try clear f2); (try clear f3); (try clear f4); (try simp only [hwr] at *); (try simp only [q1, q2, ne_eq, reduceIte, PNode.ofRow] at *); (try dsimp only [CK.T] at *); first | done | omega)) | exact sameF_of _ _ _ rfl | (simp; done) | (simp only [Bool.not_eq_true', Bool.not_eq_false']; exact sameF_of _ _ _ rfl))
        exact Tr.againH [.run 2, .no] (cs := [(_, false)]) (by kernel_rfl) ⟨g3, trivial⟩ (j + 1) (by kernel_rfl) (by exact f1 (by ((try clear f0); (try clear f1); (try clear f2); (try clear f3); (try clear f4); (try simp only [hwr] at *); (try simp only [q1, q2, ne_eq, reduceIte, PNode.ofRow] at *); (try dsimp only [CK.T] at *); first | done | omega))) (by ((try clear f0); (try clear f1); (try clear f2); (try clear f3); (try clear f4); (try simp only [hwr] at *); (try simp only [q1, q2, ne_eq, reduceIte, PNode.ofRow] at *); (try dsimp only [CK.T] at *); first | done | omega)) [0, 1] (by kernel_rfl) (q := true = true ∧ some (xv, a) = some (xv, a) ∧ some (yv, a) = some (yv, a) ∧ Value.int IntKind.i64 (IntKind.wrap IntKind.i64 ((↑j : Int) + (1 : Int))) = Value.int IntKind.i64 (↑(j + (1 : Nat)) : Int) ∧ True) (by kernel_rfl) (by (repeat' apply And.intro) <;> first | rfl | trivial | (refine congrArg (Value.int _) ?_; ((try clear f0); (try clear f1); (try clear f2); (try clear f3); (try clear f4); (try simp only [hwr] at *); (try simp only [q1, q2, ne_eq, reduceIte, PNode.ofRow] at *); (try dsimp only [CK.T] at *); first | done | omega)))
    · skip
      refine Tr.needH [] (cs := []) (p := j < List.length a) (by kernel_rfl) trivial (by first | exact ⟨hok, hok⟩ | (((try clear f0); (try clear f1); (try clear f2); (try clear f3); (try clear f4); (try simp only [hwr] at *); (try simp only [q1, q2, ne_eq, reduceIte, PNode.ofRow] at *); (try dsimp only [CK.T] at *); first | done | omega))) ?_
      refine Tr.needH [.run 1] (cs := []) (p := j < List.length a) (by kernel_rfl) trivial (by first | exact ⟨hok, hok⟩ | (((try clear f0); (try clear f1); (try clear f2); (try clear f3); (try clear f4); (try simp only [hwr] at *); (try simp only [q1, q2, ne_eq, reduceIte, PNode.ofRow] at *); (try dsimp only [CK.T] at *); first | done | omega))) ?_
      have g4 : (!ByteArray.toList (List.getD a j (RowT.dflt spotK)).fst == ByteArray.toList (List.getD a j (RowT.dflt spotK)).fst) = false := by (first | (((try clear f0); (try clear f1); (try clear f2); (try clear f3); (try clear f4); (try simp only [hwr] at *); (try simp only [q1, q2, ne_eq, reduceIte, PNode.ofRow] at *); (try dsimp only [CK.T] at *); first | done | omega)) | exact sameF_of _ _ _ rfl | (simp; done) | (simp only [Bool.not_eq_true', Bool.not_eq_false']; exact sameF_of _ _ _ rfl))
      refine Tr.needH [.run 1, .no] (cs := [(_, false)]) (p := (0 : Int) ≤ (↑j : Int) ∧ (↑j : Int) < (↑(List.length a) : Int)) (by kernel_rfl) ⟨g4, trivial⟩ (by first | exact ⟨hok, hok⟩ | (((try clear f0); (try clear f1); (try clear f2); (try clear f3); (try clear f4); (try simp only [hwr] at *); (try simp only [q1, q2, ne_eq, reduceIte, PNode.ofRow] at *); (try dsimp only [CK.T] at *); first | done | omega))) ?_
      refine Tr.needH [] (cs := []) (p := (0 : Int) ≤ (↑j : Int) ∧ (↑j : Int) < (↑(List.length a) : Int)) (by kernel_rfl) trivial (by first | exact ⟨hok, hok⟩ | (((try clear f0); (try clear f1); (try clear f2); (try clear f3); (try clear f4); (try simp only [hwr] at *); (try simp only [q1, q2, ne_eq, reduceIte, PNode.ofRow] at *); (try dsimp only [CK.T] at *); first | done | omega))) ?_
      refine Tr.alongH [] (cs := []) (by kernel_rfl) (by kernel_rfl) trivial (Tr.bothH ?_ ?_)
      · skip
        refine Tr.needH [] (cs := []) (p := j < List.length a) (by kernel_rfl) trivial (by first | exact ⟨hok, hok⟩ | (((try clear f0); (try clear f1); (try clear f2); (try clear f3); (try clear f4); (try simp only [hwr] at *); (try simp only [q1, q2, ne_eq, reduceIte, PNode.ofRow] at *); (try dsimp only [CK.T] at *); first | done | omega))) ?_
        refine Tr.needH [.run 1] (cs := []) (p := j < List.length a) (by kernel_rfl) trivial (by first | exact ⟨hok, hok⟩ | (((try clear f0); (try clear f1); (try clear f2); (try clear f3); (try clear f4); (try simp only [hwr] at *); (try simp only [q1, q2, ne_eq, reduceIte, PNode.ofRow] at *); (try dsimp only [CK.T] at *); first | done | omega))) ?_
        refine Tr.needH [.run 1] (cs := []) (p := stPre (PNode.ofRow ((List.getD a j (RowT.dflt spotK)).snd.fst, (List.getD a j (RowT.dflt spotK)).snd.snd.fst, (List.getD a j (RowT.dflt spotK)).snd.snd.snd.fst, ()), PNode.ofRow ((List.getD a j (RowT.dflt spotK)).snd.fst, (List.getD a j (RowT.dflt spotK)).snd.snd.fst, (List.getD a j (RowT.dflt spotK)).snd.snd.snd.fst, ()))) (by kernel_rfl) trivial (by first | exact ⟨hok, hok⟩ | (((try clear f0); (try clear f1); (try clear f2); (try clear f3); (try clear f4); (try simp only [hwr] at *); (try simp only [q1, q2, ne_eq, reduceIte, PNode.ofRow] at *); (try dsimp only [CK.T] at *); first | done | omega))) ?_
        have g5 : (!sameF (20 : Nat) (PNode.ofRow ((List.getD a j (RowT.dflt spotK)).snd.fst, (List.getD a j (RowT.dflt spotK)).snd.snd.fst, (List.getD a j (RowT.dflt spotK)).snd.snd.snd.fst, ())) (PNode.ofRow ((List.getD a j (RowT.dflt spotK)).snd.fst, (List.getD a j (RowT.dflt spotK)).snd.snd.fst, (List.getD a j (RowT.dflt spotK)).snd.snd.snd.fst, ()))) = false := by (first | (((try clear f0); (try clear f1); (try clear f2); (try clear f3); (try clear f4); (try simp only [hwr] at *); (try simp only [q1, q2, ne_eq, reduceIte, PNode.ofRow] at *); (try dsimp only [CK.T] at *); first | done | omega)) | exact sameF_of _ _ _ rfl | (simp; done) | (simp only [Bool.not_eq_true', Bool.not_eq_false']; exact sameF_of _ _ _ rfl))
        exact Tr.againH [.run 2, .no] (cs := [(_, false)]) (by kernel_rfl) ⟨g5, trivial⟩ (j + 1) (by kernel_rfl) (by exact f1 (by ((try clear f0); (try clear f1); (try clear f2); (try clear f3); (try clear f4); (try simp only [hwr] at *); (try simp only [q1, q2, ne_eq, reduceIte, PNode.ofRow] at *); (try dsimp only [CK.T] at *); first | done | omega))) (by ((try clear f0); (try clear f1); (try clear f2); (try clear f3); (try clear f4); (try simp only [hwr] at *); (try simp only [q1, q2, ne_eq, reduceIte, PNode.ofRow] at *); (try dsimp only [CK.T] at *); first | done | omega)) [0, 1] (by kernel_rfl) (q := true = true ∧ some (xv, a) = some (xv, a) ∧ some (yv, a) = some (yv, a) ∧ Value.int IntKind.i64 (IntKind.wrap IntKind.i64 ((↑j : Int) + (1 : Int))) = Value.int IntKind.i64 (↑(j + (1 : Nat)) : Int) ∧ True) (by kernel_rfl) (by (repeat' apply And.intro) <;> first | rfl | trivial | (refine congrArg (Value.int _) ?_; ((try clear f0); (try clear f1); (try clear f2); (try clear f3); (try clear f4); (try simp only [hwr] at *); (try simp only [q1, q2, ne_eq, reduceIte, PNode.ofRow] at *); (try dsimp only [CK.T] at *); first | done | omega)))
      · skip
        refine Tr.needH [] (cs := []) (p := j < List.length a) (by kernel_rfl) trivial (by first | exact ⟨hok, hok⟩ | (((try clear f0); (try clear f1); (try clear f2); (try clear f3); (try clear f4); (try simp only [hwr] at *); (try simp only [q1, q2, ne_eq, reduceIte, PNode.ofRow] at *); (try dsimp only [CK.T] at *); first | done | omega))) ?_
        refine Tr.needH [.run 1] (cs := []) (p := j < List.length a) (by kernel_rfl) trivial (by first | exact ⟨hok, hok⟩ | (((try clear f0); (try clear f1); (try clear f2); (try clear f3); (try clear f4); (try simp only [hwr] at *); (try simp only [q1, q2, ne_eq, reduceIte, PNode.ofRow] at *); (try dsimp only [CK.T] at *); first | done | omega))) ?_
        refine Tr.needH [.run 1] (cs := []) (p := stPre (PNode.ofRow ((List.getD a j (RowT.dflt spotK)).snd.fst, (List.getD a j (RowT.dflt spotK)).snd.snd.fst, (List.getD a j (RowT.dflt spotK)).snd.snd.snd.fst, ()), PNode.ofRow ((List.getD a j (RowT.dflt spotK)).snd.fst, (List.getD a j (RowT.dflt spotK)).snd.snd.fst, (List.getD a j (RowT.dflt spotK)).snd.snd.snd.fst, ()))) (by kernel_rfl) trivial (by first | exact ⟨hok, hok⟩ | (((try clear f0); (try clear f1); (try clear f2); (try clear f3); (try clear f4); (try simp only [hwr] at *); (try simp only [q1, q2, ne_eq, reduceIte, PNode.ofRow] at *); (try dsimp only [CK.T] at *); first | done | omega))) ?_
        have g6 : (!sameF (20 : Nat) (PNode.ofRow ((List.getD a j (RowT.dflt spotK)).snd.fst, (List.getD a j (RowT.dflt spotK)).snd.snd.fst, (List.getD a j (RowT.dflt spotK)).snd.snd.snd.fst, ())) (PNode.ofRow ((List.getD a j (RowT.dflt spotK)).snd.fst, (List.getD a j (RowT.dflt spotK)).snd.snd.fst, (List.getD a j (RowT.dflt spotK)).snd.snd.snd.fst, ()))) = false := by (first | (((try clear f0); (try clear f1); (try clear f2); (try clear f3); (try clear f4); (try simp only [hwr] at *); (try simp only [q1, q2, ne_eq, reduceIte, PNode.ofRow] at *); (try dsimp only [CK.T] at *); first | done | omega)) | exact sameF_of _ _ _ rfl | (simp; done) | (simp only [Bool.not_eq_true', Bool.not_eq_false']; exact sameF_of _ _ _ rfl))
        exact Tr.againH [.run 2, .no] (cs := [(_, false)]) (by kernel_rfl) ⟨g6, trivial⟩ (j + 1) (by kernel_rfl) (by exact f1 (by ((try clear f0); (try clear f1); (try clear f2); (try clear f3); (try clear f4); (try simp only [hwr] at *); (try simp only [q1, q2, ne_eq, reduceIte, PNode.ofRow] at *); (try dsimp only [CK.T] at *); first | done | omega))) (by ((try clear f0); (try clear f1); (try clear f2); (try clear f3); (try clear f4); (try simp only [hwr] at *); (try simp only [q1, q2, ne_eq, reduceIte, PNode.ofRow] at *); (try dsimp only [CK.T] at *); first | done | omega)) [0, 1] (by kernel_rfl) (q := true = true ∧ some (xv, a) = some (xv, a) ∧ some (yv, a) = some (yv, a) ∧ Value.int IntKind.i64 (IntKind.wrap IntKind.i64 ((↑j : Int) + (1 : Int))) = Value.int IntKind.i64 (↑(j + (1 : Nat)) : Int) ∧ True) (by kernel_rfl) (by (repeat' apply And.intro) <;> first | rfl | trivial | (refine congrArg (Value.int _) ?_; ((try clear f0); (try clear f1); (try clear f2); (try clear f3); (try clear f4); (try simp only [hwr] at *); (try simp only [q1, q2, ne_eq, reduceIte, PNode.ofRow] at *); (try dsimp only [CK.T] at *); first | done | omega)))
  · skip
    exact Tr.outH [.no, .run 5] (cs := [(_, false)]) (by kernel_rfl) ⟨g0, trivial⟩ (()) (by kernel_rfl) (by kernel_rfl) (by trivial) [0, 1] (by kernel_rfl) (q := true = true ∧ True) (by kernel_rfl) (by (repeat' apply And.intro) <;> first | rfl | trivial | (refine congrArg (Value.int _) ?_; ((try clear f0); (try clear f1); (try clear f2); (try clear f3); (try clear f4); (try simp only [hwr] at *); (try simp only [q1, q2, ne_eq, reduceIte, PNode.ofRow] at *); (try dsimp only [CK.T] at *); first | done | omega)))
theorem is_loop (xv yv : Value) (a c : List (RowT spotK)) (h : a = c) (hlen : a.length ≤ 1000000) (hok : ∀ r ∈ a, okT (spotN r)) : LoopFrom Try.prog (loopOf Try.prog 5 10) 2 (isS xv yv a c 0) Unit (fun _ => True) isO := by
  subst h
  exact loopFromH hng hmix (Γ := Env.of [eSame20] noCut noWr) (EnvOK.of (mem1 same20_ok)) 400 5 (isI a) (isS xv yv a a) (fun j => a.length - j) 2 0 (Nat.zero_le _) fun j hj => by
    have hj : j ≤ a.length := hj
    exact is_round xv yv a j hj hlen (wrapSuccB (by omega)) (getD_ok hok j) (fun h => h)
noncomputable def isEntries : List Entry := [eLowN, awakeE, hCount, hToks, hRToks, eSameK, hRCount, eFits, eRFits, eSt, eSame20, hCopy, hWalk, hRWalk]
theorem isEntries_ok : ∀ e ∈ isEntries, EntryOK Try.prog e := by
  intro e he
  simp only [isEntries, List.mem_cons, List.not_mem_nil, or_false] at he
  rcases he with rfl | rfl | rfl | rfl | rfl | rfl | rfl | rfl | rfl | rfl | rfl | rfl | rfl | rfl
  · exact lowN_ok
  · exact awakeE_ok
  · exact hCount_ok
  · exact hToks_ok
  · exact hRToks_ok
  · exact sameK_ok
  · exact hRCount_ok
  · exact fits_ok
  · exact rfits_ok
  · exact st_ok
  · exact same20_ok
  · exact hCopy_ok
  · exact hWalk_ok
  · exact hRWalk_ok
theorem is_tree (n m : PNode) : (callX Try.prog (Env.of isEntries (fun f _ => f == 5) noWr) 400 5 [nodeSV n, nodeSV m] [] fin).Holds fun r => r.1 = b true := by
  refine Tr.needH [] (cs := []) (p := laPre (PNode.ofRow (PNode.name n, (PNode.pv n, PNode.props n), (PNode.kv n, PNode.kids n), ()))) (by kernel_rfl) trivial (by (exact trivial)) ?_
  refine Or.elim (Bool.eq_false_or_eq_true (!lowAll (PNode.ofRow (PNode.name n, (PNode.pv n, PNode.props n), (PNode.kv n, PNode.kids n), ())))) (fun g0 => ?_) (fun g0 => ?_)
  · skip
    exact Tr.endH [.yes, .run 4] (cs := [(_, true)]) (Prod.fst) (y := SV.v (Value.bool true)) (by kernel_rfl) ⟨g0, trivial⟩ (fun a ha => ha.trans (by first | rfl | exact congrArg (fun x => SV.v (.bool x)) (by (first | (assumption) | ((try simp only [PNode.ofRow, PNode.mk_eta, Bool.not_eq_false', Bool.not_eq_true'] at *); exact is_sk (by assumption) (by assumption)) | ((try simp only [PNode.ofRow, PNode.mk_eta, Bool.not_eq_false', Bool.not_eq_true'] at *); exact is_len (by assumption) (by assumption)) | ((try simp only [PNode.ofRow, PNode.mk_eta, Bool.not_eq_false', Bool.not_eq_true'] at *); simp_all; done) | ((try simp only [PNode.ofRow, PNode.mk_eta, Bool.not_eq_false', Bool.not_eq_true'] at *); exact is_same (by assumption)) | ((try simp only [PNode.ofRow, PNode.mk_eta, Bool.not_eq_false', Bool.not_eq_true'] at *); exact is_cp (by assumption)) | ((try simp only [PNode.ofRow, PNode.mk_eta, Bool.not_eq_false', Bool.not_eq_true'] at *); rw [is_same (by assumption)]; simp) | done))))
  · skip
    refine Tr.needH [.no, .run 1] (cs := [(_, false)]) (p := laPre (PNode.ofRow (PNode.name m, (PNode.pv m, PNode.props m), (PNode.kv m, PNode.kids m), ()))) (by kernel_rfl) ⟨g0, trivial⟩ (by (exact trivial)) ?_
    refine Or.elim (Bool.eq_false_or_eq_true (!lowAll (PNode.ofRow (PNode.name m, (PNode.pv m, PNode.props m), (PNode.kv m, PNode.kids m), ())))) (fun g1 => ?_) (fun g1 => ?_)
    · skip
      exact Tr.endH [.run 2, .yes] (cs := [(_, true)]) (Prod.fst) (y := SV.v (Value.bool true)) (by kernel_rfl) ⟨g1, trivial⟩ (fun a ha => ha.trans (by first | rfl | exact congrArg (fun x => SV.v (.bool x)) (by (first | (assumption) | ((try simp only [PNode.ofRow, PNode.mk_eta, Bool.not_eq_false', Bool.not_eq_true'] at *); exact is_sk (by assumption) (by assumption)) | ((try simp only [PNode.ofRow, PNode.mk_eta, Bool.not_eq_false', Bool.not_eq_true'] at *); exact is_len (by assumption) (by assumption)) | ((try simp only [PNode.ofRow, PNode.mk_eta, Bool.not_eq_false', Bool.not_eq_true'] at *); simp_all; done) | ((try simp only [PNode.ofRow, PNode.mk_eta, Bool.not_eq_false', Bool.not_eq_true'] at *); exact is_same (by assumption)) | ((try simp only [PNode.ofRow, PNode.mk_eta, Bool.not_eq_false', Bool.not_eq_true'] at *); exact is_cp (by assumption)) | ((try simp only [PNode.ofRow, PNode.mk_eta, Bool.not_eq_false', Bool.not_eq_true'] at *); rw [is_same (by assumption)]; simp) | done))))
    · skip
      refine Tr.needH [.run 2, .no] (cs := [(_, false)]) (p := okT (PNode.ofRow (PNode.name n, (PNode.pv n, PNode.props n), (PNode.kv n, PNode.kids n), ()))) (by kernel_rfl) ⟨g1, trivial⟩ (by ((try simp only [PNode.ofRow, PNode.mk_eta, Bool.not_eq_false', Bool.not_eq_true'] at *); exact (lowAll_few (by assumption)).ok)) ?_
      refine Tr.allH [] (cs := []) (X := Int × Int × Int) (by kernel_rfl) (p := fun u0 => u0 = cntN (PNode.ofRow (PNode.name n, (PNode.pv n, PNode.props n), (PNode.kv n, PNode.kids n), ()))) (fun _ => by kernel_rfl) (by kernel_rfl) trivial (fun u0 hu0 => ?_)
      refine Tr.needH [] (cs := []) (p := tokPre (PNode.ofRow (PNode.name n, (PNode.pv n, PNode.props n), (PNode.kv n, PNode.kids n), ()))) (by kernel_rfl) trivial (by ((try simp only [PNode.ofRow, PNode.mk_eta, Bool.not_eq_false', Bool.not_eq_true'] at *); exact is_tok (by assumption))) ?_
      refine Tr.allH [] (cs := []) (X := Value × List (RowT tokK)) (by kernel_rfl) (p := fun u1 => tokQ (PNode.ofRow (PNode.name n, (PNode.pv n, PNode.props n), (PNode.kv n, PNode.kids n), ())) u1) (fun _ => by kernel_rfl) (by kernel_rfl) trivial (fun u1 hu1 => ?_)
      refine Tr.needH [.run 1] (cs := []) (p := tokPre (PNode.ofRow (PNode.name n, (PNode.pv n, PNode.props n), (PNode.kv n, PNode.kids n), ()))) (by kernel_rfl) trivial (by ((try simp only [PNode.ofRow, PNode.mk_eta, Bool.not_eq_false', Bool.not_eq_true'] at *); exact is_tok (by assumption))) ?_
      refine Tr.allH [] (cs := []) (X := Value × List (RowT tokK)) (by kernel_rfl) (p := fun u2 => tokQ (PNode.ofRow (PNode.name n, (PNode.pv n, PNode.props n), (PNode.kv n, PNode.kids n), ())) u2) (fun _ => by kernel_rfl) (by kernel_rfl) trivial (fun u2 hu2 => ?_)
      refine Tr.needH [.run 1] (cs := []) (p := skPre (u1, u2)) (by kernel_rfl) trivial (by ((try simp only [PNode.ofRow, PNode.mk_eta, Bool.not_eq_false', Bool.not_eq_true'] at *); exact is_skp (by assumption) (by assumption))) ?_
      have g2 : (!sameK u1.snd u2.snd) = false := by ((try simp only [PNode.ofRow, PNode.mk_eta, Bool.not_eq_false', Bool.not_eq_true'] at *); exact is_sk (by assumption) (by assumption))
      refine Tr.needH [.run 1, .no] (cs := [(_, false)]) (p := okT (PNode.ofRow (PNode.name n, (PNode.pv n, PNode.props n), (PNode.kv n, PNode.kids n), ()))) (by kernel_rfl) ⟨g2, trivial⟩ (by ((try simp only [PNode.ofRow, PNode.mk_eta, Bool.not_eq_false', Bool.not_eq_true'] at *); exact (lowAll_few (by assumption)).ok)) ?_
      refine Tr.allH [] (cs := []) (X := Int × Int × Int) (by kernel_rfl) (p := fun u3 => u3 = cntN (PNode.ofRow (PNode.name n, (PNode.pv n, PNode.props n), (PNode.kv n, PNode.kids n), ()))) (fun _ => by kernel_rfl) (by kernel_rfl) trivial (fun u3 hu3 => ?_)
      have g3 : (!(u0.fst == u3.fst && (u0.snd.fst == u3.snd.fst && (u0.snd.snd == u3.snd.snd && true)))) = false := by ((try simp only [PNode.ofRow, PNode.mk_eta, Bool.not_eq_false', Bool.not_eq_true'] at *); simp_all; done)
      refine Tr.needH [.run 2, .no] (cs := [(_, false)]) (p := okT (PNode.ofRow (PNode.name n, (PNode.pv n, PNode.props n), (PNode.kv n, PNode.kids n), ()))) (by kernel_rfl) ⟨g3, trivial⟩ (by ((try simp only [PNode.ofRow, PNode.mk_eta, Bool.not_eq_false', Bool.not_eq_true'] at *); exact (lowAll_few (by assumption)).ok)) ?_
      refine Tr.needH [.run 1] (cs := []) (p := okT (PNode.ofRow (PNode.name n, (PNode.pv n, PNode.props n), (PNode.kv n, PNode.kids n), ()))) (by kernel_rfl) trivial (by ((try simp only [PNode.ofRow, PNode.mk_eta, Bool.not_eq_false', Bool.not_eq_true'] at *); exact (lowAll_few (by assumption)).ok)) ?_
      have g4 : (!fitsF (PNode.ofRow (PNode.name n, (PNode.pv n, PNode.props n), (PNode.kv n, PNode.kids n), ())) == fitsF (PNode.ofRow (PNode.name n, (PNode.pv n, PNode.props n), (PNode.kv n, PNode.kids n), ()))) = false := by ((try simp only [PNode.ofRow, PNode.mk_eta, Bool.not_eq_false', Bool.not_eq_true'] at *); simp_all; done)
      refine Tr.needH [.run 2, .no] (cs := [(_, false)]) (p := stPre (PNode.ofRow (PNode.name n, (PNode.pv n, PNode.props n), (PNode.kv n, PNode.kids n), ()), PNode.ofRow (PNode.name m, (PNode.pv m, PNode.props m), (PNode.kv m, PNode.kids m), ()))) (by kernel_rfl) ⟨g4, trivial⟩ (by ((try simp only [PNode.ofRow, PNode.mk_eta, Bool.not_eq_false', Bool.not_eq_true'] at *); exact ⟨(lowAll_few (by assumption)).ok, (lowAll_few (by assumption)).ok⟩)) ?_
      refine Tr.needH [.run 1] (cs := []) (p := stPre (PNode.ofRow (PNode.name n, (PNode.pv n, PNode.props n), (PNode.kv n, PNode.kids n), ()), PNode.ofRow (PNode.name m, (PNode.pv m, PNode.props m), (PNode.kv m, PNode.kids m), ()))) (by kernel_rfl) trivial (by ((try simp only [PNode.ofRow, PNode.mk_eta, Bool.not_eq_false', Bool.not_eq_true'] at *); exact ⟨(lowAll_few (by assumption)).ok, (lowAll_few (by assumption)).ok⟩)) ?_
      have g5 : (!sameT (PNode.ofRow (PNode.name n, (PNode.pv n, PNode.props n), (PNode.kv n, PNode.kids n), ())) (PNode.ofRow (PNode.name m, (PNode.pv m, PNode.props m), (PNode.kv m, PNode.kids m), ())) == sameF (20 : Nat) (PNode.ofRow (PNode.name n, (PNode.pv n, PNode.props n), (PNode.kv n, PNode.kids n), ())) (PNode.ofRow (PNode.name m, (PNode.pv m, PNode.props m), (PNode.kv m, PNode.kids m), ()))) = false := by ((try simp only [PNode.ofRow, PNode.mk_eta, Bool.not_eq_false', Bool.not_eq_true'] at *); rw [is_same (by assumption)]; simp)
      refine Tr.needH [.run 2, .no] (cs := [(_, false)]) (p := okT (PNode.ofRow (PNode.name n, (PNode.pv n, PNode.props n), (PNode.kv n, PNode.kids n), ()))) (by kernel_rfl) ⟨g5, trivial⟩ (by ((try simp only [PNode.ofRow, PNode.mk_eta, Bool.not_eq_false', Bool.not_eq_true'] at *); exact (lowAll_few (by assumption)).ok)) ?_
      refine Tr.allH [] (cs := []) (X := PNode) (by kernel_rfl) (p := fun u4 => erase u4 = erase (PNode.ofRow (PNode.name n, (PNode.pv n, PNode.props n), (PNode.kv n, PNode.kids n), ())) ∧ okT u4) (fun _ => by kernel_rfl) (by kernel_rfl) trivial (fun u4 hu4 => ?_)
      refine Tr.needH [.run 1] (cs := []) (p := stPre (PNode.ofRow (PNode.name u4, (PNode.pv u4, PNode.props u4), (PNode.kv u4, PNode.kids u4), ()), PNode.ofRow (PNode.name n, (PNode.pv n, PNode.props n), (PNode.kv n, PNode.kids n), ()))) (by kernel_rfl) trivial (by ((try simp only [PNode.ofRow, PNode.mk_eta, Bool.not_eq_false', Bool.not_eq_true'] at *); exact ⟨And.right (by assumption), (lowAll_few (by assumption)).ok⟩)) ?_
      have g6 : (!sameF (20 : Nat) (PNode.ofRow (PNode.name u4, (PNode.pv u4, PNode.props u4), (PNode.kv u4, PNode.kids u4), ())) (PNode.ofRow (PNode.name n, (PNode.pv n, PNode.props n), (PNode.kv n, PNode.kids n), ()))) = false := by ((try simp only [PNode.ofRow, PNode.mk_eta, Bool.not_eq_false', Bool.not_eq_true'] at *); exact is_cp (by assumption))
      refine Tr.needH [.run 2, .no] (cs := [(_, false)]) (p := wPre (PNode.ofRow (PNode.name n, (PNode.pv n, PNode.props n), (PNode.kv n, PNode.kids n), ()))) (by kernel_rfl) ⟨g6, trivial⟩ (by ((try simp only [PNode.ofRow, PNode.mk_eta, Bool.not_eq_false', Bool.not_eq_true'] at *); exact is_w (by assumption))) ?_
      refine Tr.allH [] (cs := []) (X := Value × List (RowT spotK)) (by kernel_rfl) (p := fun u5 => wQ (PNode.ofRow (PNode.name n, (PNode.pv n, PNode.props n), (PNode.kv n, PNode.kids n), ())) u5) (fun _ => by kernel_rfl) (by kernel_rfl) trivial (fun u5 hu5 => ?_)
      refine Tr.needH [.run 1] (cs := []) (p := rwPre (PNode.ofRow (PNode.name n, (PNode.pv n, PNode.props n), (PNode.kv n, PNode.kids n), ()))) (by kernel_rfl) trivial (by ((try simp only [PNode.ofRow, PNode.mk_eta, Bool.not_eq_false', Bool.not_eq_true'] at *); exact is_rw (by assumption))) ?_
      refine Tr.allH [] (cs := []) (X := Value × List (RowT spotK)) (by kernel_rfl) (p := fun u6 => wQ (PNode.ofRow (PNode.name n, (PNode.pv n, PNode.props n), (PNode.kv n, PNode.kids n), ())) u6) (fun _ => by kernel_rfl) (by kernel_rfl) trivial (fun u6 hu6 => ?_)
      have g7 : ((↑(List.length u5.snd) : Int) != (↑(List.length u6.snd) : Int)) = false := by ((try simp only [PNode.ofRow, PNode.mk_eta, Bool.not_eq_false', Bool.not_eq_true'] at *); exact is_len (by assumption) (by assumption))
      refine Tr.loopH [.run 1, .no] (cs := [(_, false)]) (by kernel_rfl) ⟨g7, trivial⟩ (b := loopOf Try.prog 5 10) (by kernel_rfl) (st1 := isS u5.1 u6.1 u5.2 u6.2 0) (by kernel_rfl) [0, 1] (by kernel_rfl) (q := true = true ∧ some u5 = some (u5.1, u5.2) ∧ some u6 = some (u6.1, u6.2) ∧ Value.int IntKind.i64 (0 : Int) = Value.int IntKind.i64 (0 : Int) ∧ True) (by kernel_rfl) (by (repeat' apply And.intro) <;> first | rfl | trivial) (is_loop u5.1 u6.1 u5.2 u6.2 (by (try simp only [PNode.ofRow, PNode.mk_eta, Bool.not_eq_false', Bool.not_eq_true'] at *); exact is_eq (by assumption) (by assumption)) (by (try simp only [PNode.ofRow, PNode.mk_eta, Bool.not_eq_false', Bool.not_eq_true'] at *); exact is_wlen (by assumption) (by assumption)) (by (try simp only [PNode.ofRow, PNode.mk_eta, Bool.not_eq_false', Bool.not_eq_true'] at *); exact is_wok (by assumption) (by assumption))) ?_
      intro y8 hy8
      exact Tr.endH [] (cs := []) (Prod.fst) (y := SV.v (Value.bool true)) (by kernel_rfl) trivial (fun a ha => ha.trans (by first | rfl | exact congrArg (fun x => SV.v (.bool x)) (by (first | (assumption) | ((try simp only [PNode.ofRow, PNode.mk_eta, Bool.not_eq_false', Bool.not_eq_true'] at *); exact is_sk (by assumption) (by assumption)) | ((try simp only [PNode.ofRow, PNode.mk_eta, Bool.not_eq_false', Bool.not_eq_true'] at *); exact is_len (by assumption) (by assumption)) | ((try simp only [PNode.ofRow, PNode.mk_eta, Bool.not_eq_false', Bool.not_eq_true'] at *); simp_all; done) | ((try simp only [PNode.ofRow, PNode.mk_eta, Bool.not_eq_false', Bool.not_eq_true'] at *); exact is_same (by assumption)) | ((try simp only [PNode.ofRow, PNode.mk_eta, Bool.not_eq_false', Bool.not_eq_true'] at *); exact is_cp (by assumption)) | ((try simp only [PNode.ofRow, PNode.mk_eta, Bool.not_eq_false', Bool.not_eq_true'] at *); rw [is_same (by assumption)]; simp) | done))))
end Go.Proofs.Ytdimocgjcneedaa
