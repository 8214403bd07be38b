import Derived.Test.YtellipmolheaaaaDoorConU
set_option linter.unusedSimpArgs false
set_option maxRecDepth 10000
namespace Go.Proofs.YtellipmolheaaaaDoor
open Go Go.RowKit

def canonP (cs : List Cmd) : Prop := (cs.map (·.p)).Nodup ∧ ∀ (i : Nat) x y, cs[i]? = some x → cs[i + 1]? = some y → beforeF x y = true
noncomputable def canonOk (cs : List Cmd) : Bool := logOk cs && bP (canonP cs)

theorem less_or {a b : List UInt8} (h : a ≠ b) : Op.bytesLess a b = !Op.bytesLess b a := by
  have := less_total a b
  simpa [h] using this

theorem cmp_nonneg (a b : List UInt8) : 0 ≤ cmpF a b ↔ Op.bytesLess a b = false := by
  unfold cmpF
  cases h : Op.bytesLess a b with
  | true => simp
  | false =>
    simp only [Bool.false_eq_true, if_false, iff_true]
    split <;> omega

theorem before_ord {x y : Cmd} (h : x.p ≠ y.p) : beforeF x y = true ↔ 0 ≤ ordF y x := by
  have h1 := less_or h
  have h2 := less_or (Ne.symm h)
  unfold beforeF ordF
  cases hx : endsF x <;> cases hy : endsF y <;> simp only [Bool.and_true, Bool.and_false, Bool.true_and, Bool.false_and, Bool.not_true, Bool.not_false, if_true, if_false, Bool.false_eq_true, reduceIte]
  · rw [cmp_nonneg, h1]; simp
  · simp
  · simp
  · rw [cmp_nonneg, h2]; simp

theorem canon_iff (cs : List Cmd) : ((cs.map (·.p)).Nodup ∧ sortP ordF cs) ↔ canonP cs :=
  ⟨fun ⟨h, s⟩ => ⟨h, fun i x y hx hy => (before_ord (nodup_next h (Nat.lt_succ_self i) hx hy)).2 (s i x y hx hy)⟩,
   fun ⟨h, s⟩ => ⟨h, fun i x y hx hy => (before_ord (nodup_next h (Nat.lt_succ_self i) hx hy)).1 (s i x y hx hy)⟩⟩

theorem canonValid_i (cs : List Cmd) (hl : cs.length ≤ 100000) (hp : ∀ c ∈ cs, c.p.length ≤ 2000000) : ACalls Tryd.prog 16 [.sl 5 (cs.map cmdV)] 0 (fun r => r = .v (.bool (canonOk cs))) := by
  have e : (logOk cs && bP (cs.map (·.p)).Nodup && bP (sortP ordF cs)) = canonOk cs := by
    rw [canonOk, ← bP_congr (canon_iff cs), Bool.and_assoc]
    congr 1
    by_cases h1 : (cs.map (·.p)).Nodup
    · by_cases h2 : sortP ordF cs
      · rw [bP_true h1, bP_true h2, bP_true ⟨h1, h2⟩]; rfl
      · rw [bP_true h1, bP_false h2, bP_false (p := _ ∧ _) (fun h => h2 h.2)]; rfl
    · rw [bP_false h1, bP_false (p := (cs.map (·.p)).Nodup ∧ sortP ordF cs) (fun h => h1 h.1)]; rfl
  rw [← e]
  refine acalls_of Tryd.func16 Tryd.ntmps16 (by kernel_rfl) rfl rfl fun X hP hN m hm => ?_
  repeat' (first | (with_reducible refine BWp.of ?_) | (with_reducible refine bcall.of ?_) | (with_reducible refine awp_seq ?_) | (with_reducible refine awp_block ?_) | ((first | (with_reducible refine awp_region' hP hN ?_; refine ⟨_, rfl, rfl, ?_⟩) | (with_reducible refine awp_ret ?_) | (with_reducible refine awp_skip ?_) | (with_reducible refine awp_exit ?_) | (with_reducible refine awp_label ?_)); simp only [↓aXs, ↓aX, ↓aList, ↓astep, ↓aThen, ↓aBlock, ↓AWp_eq, ↓acall_eq, push_cast, Nat.reduceBEq, Nat.reduceAdd, Nat.reduceMul, Nat.reduceSub, Nat.reduceLeDiff, Nat.reduceLT, Int.reduceLE, Int.reduceLT, Int.reduceToNat, reduceCtorEq, Nat.reduceEqDiff, reduceIte, aEnd]) | ((with_reducible refine And.intro ?_ ?_); (focus (first | (with_reducible trivial) | (with_reducible assumption) | omega | (simp_all; done) | (simp_all; omega)))) | (with_reducible exact Nat.le_refl _) | (with_reducible refine awp_cond' ?_; refine ⟨_, rfl, ?_, ?_⟩ <;> intro hc <;> (try simp only [↓aXs, ↓aX, ↓aList, ↓astep, ↓aThen, ↓aBlock, ↓AWp_eq, ↓acall_eq, push_cast, Nat.reduceBEq, Nat.reduceAdd, Nat.reduceMul, Nat.reduceSub, Nat.reduceLeDiff, Nat.reduceLT, Int.reduceLE, Int.reduceLT, Int.reduceToNat, reduceCtorEq, Nat.reduceEqDiff, reduceIte, aEnd] at hc) <;> (try contradiction) <;> (try omega)) | (refine acall_det rfl (logValid_i cs (by omega) hp) (by ((try simp only [↓aXs, ↓aX, ↓aList, ↓astep, ↓aThen, ↓aBlock, ↓AWp_eq, ↓acall_eq, push_cast, Nat.reduceBEq, Nat.reduceAdd, Nat.reduceMul, Nat.reduceSub, Nat.reduceLeDiff, Nat.reduceLT, Int.reduceLE, Int.reduceLT, Int.reduceToNat, reduceCtorEq, Nat.reduceEqDiff, reduceIte, aEnd]); try (first | (with_reducible trivial) | (with_reducible assumption) | omega | (simp_all; done) | (simp_all; omega)))) (by (first | (intro _; rfl) | (simp only [↓aXs, ↓aX, ↓aList, ↓astep, ↓aThen, ↓aBlock, ↓AWp_eq, ↓acall_eq, push_cast, Nat.reduceBEq, Nat.reduceAdd, Nat.reduceMul, Nat.reduceSub, Nat.reduceLeDiff, Nat.reduceLT, Int.reduceLE, Int.reduceLT, Int.reduceToNat, reduceCtorEq, Nat.reduceEqDiff, reduceIte, aEnd]; first | done | (with_reducible trivial) | (with_reducible assumption) | omega | (simp_all; done) | (simp_all; omega)))) (by ((try simp only [↓aXs, ↓aX, ↓aList, ↓astep, ↓aThen, ↓aBlock, ↓AWp_eq, ↓acall_eq, push_cast, Nat.reduceBEq, Nat.reduceAdd, Nat.reduceMul, Nat.reduceSub, Nat.reduceLeDiff, Nat.reduceLT, Int.reduceLE, Int.reduceLT, Int.reduceToNat, reduceCtorEq, Nat.reduceEqDiff, reduceIte, aEnd]); first | done | (unfold LIM at *; omega))) ?_; simp only [↓aXs, ↓aX, ↓aList, ↓astep, ↓aThen, ↓aBlock, ↓AWp_eq, ↓acall_eq, push_cast, Nat.reduceBEq, Nat.reduceAdd, Nat.reduceMul, Nat.reduceSub, Nat.reduceLeDiff, Nat.reduceLT, Int.reduceLE, Int.reduceLT, Int.reduceToNat, reduceCtorEq, Nat.reduceEqDiff, reduceIte, aEnd]) | (refine acall_det rfl (oneEach_i cs hl hp) (by ((try simp only [↓aXs, ↓aX, ↓aList, ↓astep, ↓aThen, ↓aBlock, ↓AWp_eq, ↓acall_eq, push_cast, Nat.reduceBEq, Nat.reduceAdd, Nat.reduceMul, Nat.reduceSub, Nat.reduceLeDiff, Nat.reduceLT, Int.reduceLE, Int.reduceLT, Int.reduceToNat, reduceCtorEq, Nat.reduceEqDiff, reduceIte, aEnd]); try (first | (with_reducible trivial) | (with_reducible assumption) | omega | (simp_all; done) | (simp_all; omega)))) (by (first | (intro _; rfl) | (simp only [↓aXs, ↓aX, ↓aList, ↓astep, ↓aThen, ↓aBlock, ↓AWp_eq, ↓acall_eq, push_cast, Nat.reduceBEq, Nat.reduceAdd, Nat.reduceMul, Nat.reduceSub, Nat.reduceLeDiff, Nat.reduceLT, Int.reduceLE, Int.reduceLT, Int.reduceToNat, reduceCtorEq, Nat.reduceEqDiff, reduceIte, aEnd]; first | done | (with_reducible trivial) | (with_reducible assumption) | omega | (simp_all; done) | (simp_all; omega)))) (by ((try simp only [↓aXs, ↓aX, ↓aList, ↓astep, ↓aThen, ↓aBlock, ↓AWp_eq, ↓acall_eq, push_cast, Nat.reduceBEq, Nat.reduceAdd, Nat.reduceMul, Nat.reduceSub, Nat.reduceLeDiff, Nat.reduceLT, Int.reduceLE, Int.reduceLT, Int.reduceToNat, reduceCtorEq, Nat.reduceEqDiff, reduceIte, aEnd]); first | done | (unfold LIM at *; omega))) ?_; simp only [↓aXs, ↓aX, ↓aList, ↓astep, ↓aThen, ↓aBlock, ↓AWp_eq, ↓acall_eq, push_cast, Nat.reduceBEq, Nat.reduceAdd, Nat.reduceMul, Nat.reduceSub, Nat.reduceLeDiff, Nat.reduceLT, Int.reduceLE, Int.reduceLT, Int.reduceToNat, reduceCtorEq, Nat.reduceEqDiff, reduceIte, aEnd]) | (refine acall_det rfl (sorted_c cs _ [] [] ordF (by omega) (fun x _ y _ => order_i x y)) (by ((try simp only [↓aXs, ↓aX, ↓aList, ↓astep, ↓aThen, ↓aBlock, ↓AWp_eq, ↓acall_eq, push_cast, Nat.reduceBEq, Nat.reduceAdd, Nat.reduceMul, Nat.reduceSub, Nat.reduceLeDiff, Nat.reduceLT, Int.reduceLE, Int.reduceLT, Int.reduceToNat, reduceCtorEq, Nat.reduceEqDiff, reduceIte, aEnd]); try (first | (with_reducible trivial) | (with_reducible assumption) | omega | (simp_all; done) | (simp_all; omega)))) (by (first | (intro _; rfl) | (simp only [↓aXs, ↓aX, ↓aList, ↓astep, ↓aThen, ↓aBlock, ↓AWp_eq, ↓acall_eq, push_cast, Nat.reduceBEq, Nat.reduceAdd, Nat.reduceMul, Nat.reduceSub, Nat.reduceLeDiff, Nat.reduceLT, Int.reduceLE, Int.reduceLT, Int.reduceToNat, reduceCtorEq, Nat.reduceEqDiff, reduceIte, aEnd]; first | done | (with_reducible trivial) | (with_reducible assumption) | omega | (simp_all; done) | (simp_all; omega)))) (by ((try simp only [↓aXs, ↓aX, ↓aList, ↓astep, ↓aThen, ↓aBlock, ↓AWp_eq, ↓acall_eq, push_cast, Nat.reduceBEq, Nat.reduceAdd, Nat.reduceMul, Nat.reduceSub, Nat.reduceLeDiff, Nat.reduceLT, Int.reduceLE, Int.reduceLT, Int.reduceToNat, reduceCtorEq, Nat.reduceEqDiff, reduceIte, aEnd]); first | done | (unfold LIM at *; omega))) ?_; simp only [↓aXs, ↓aX, ↓aList, ↓astep, ↓aThen, ↓aBlock, ↓AWp_eq, ↓acall_eq, push_cast, Nat.reduceBEq, Nat.reduceAdd, Nat.reduceMul, Nat.reduceSub, Nat.reduceLeDiff, Nat.reduceLT, Int.reduceLE, Int.reduceLT, Int.reduceToNat, reduceCtorEq, Nat.reduceEqDiff, reduceIte, aEnd]) | fail)
  all_goals rfl

theorem canonOk_iff0 {cs : List Cmd} : canonOk cs = true ↔ logOk cs = true ∧ canonP cs := by
  rw [canonOk, Bool.and_eq_true, bP_iff]

end Go.Proofs.YtellipmolheaaaaDoor
