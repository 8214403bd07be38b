import Derived.Test.YtlmlnbmagmembaaDoorConJK
import Derived.Test.YtlmlnbmagmembaaDoorConII
import Derived.Test.YtlmlnbmagmembaaDoorConJM
import Derived.Test.YtlmlnbmagmembaaDoorLawO
set_option linter.unusedSimpArgs false
set_option maxRecDepth 10000
namespace Go.Proofs.YtlmlnbmagmembaaDoor
open Go Go.RowKit

/-! ### removals, moves: the program's side -/

theorem move_i (t : List Nod) (a b : List UInt8) (hl : t.length ≤ 11) (hs : ∀ n ∈ t, n.p.length ≤ 16) (ha : a.length ≤ 20) (hb : b.length ≤ 20) : ACalls Tryd.prog 53 [.sl 3 (t.map nodV), .v (strV a), .v (strV b)] 0
    (fun r => ∃ d, r = .tupo d 45 ((moveF t a b).1.map cmdV) [.bool (moveF t a b).2]) := by
  refine ACalls.co (R := fun r => (r = .tup [.v (.slice none 0 0), .v (.bool false)] ∧ moveF t a b = ([], false)) ∨ ∃ d, r = .tupo d 45 ((moveF t a b).1.map cmdV) [.bool (moveF t a b).2]) ?_ fun r hr => ?_
  rotate_left
  · rcases hr with ⟨rfl, h⟩ | ⟨d, rfl⟩
    · exact ⟨_, co_tup 0 45 [.bool false], 0, by rw [h]; rfl⟩
    · exact ⟨_, Co.refl _, d, rfl⟩
  refine acalls_of Tryd.func53 Tryd.ntmps53 (by kernel_rfl) rfl rfl fun X hP hN m hm => ?_
  repeat' (first | (with_reducible refine BWp.of ?_) | (with_reducible refine bcall.of ?_) | (with_reducible refine awp_seq ?_) | (with_reducible refine awp_block ?_) | ((first | (with_reducible refine awp_region' hP hN ?_; refine ⟨_, rfl, rfl, ?_⟩) | (with_reducible refine awp_ret ?_) | (with_reducible refine awp_skip ?_) | (with_reducible refine awp_exit ?_) | (with_reducible refine awp_label ?_)); simp only [↓aXs, ↓aX, ↓aList, ↓astep, ↓aThen, ↓aBlock, ↓AWp_eq, ↓acall_eq, push_cast, Nat.reduceBEq, Nat.reduceAdd, Nat.reduceMul, Nat.reduceSub, Nat.reduceLeDiff, Nat.reduceLT, Int.reduceLE, Int.reduceLT, Int.reduceToNat, reduceCtorEq, Nat.reduceEqDiff, reduceIte, aEnd]) | ((with_reducible refine And.intro ?_ ?_); (focus (first | (with_reducible trivial) | (with_reducible assumption) | omega | (simp_all; done) | (simp_all; omega)))) | (with_reducible exact Nat.le_refl _) | (with_reducible refine awp_cond' ?_; refine ⟨_, rfl, ?_, ?_⟩ <;> intro hc <;> (try simp only [↓aXs, ↓aX, ↓aList, ↓astep, ↓aThen, ↓aBlock, ↓AWp_eq, ↓acall_eq, push_cast, Nat.reduceBEq, Nat.reduceAdd, Nat.reduceMul, Nat.reduceSub, Nat.reduceLeDiff, Nat.reduceLT, Int.reduceLE, Int.reduceLT, Int.reduceToNat, reduceCtorEq, Nat.reduceEqDiff, reduceIte, aEnd] at hc) <;> (try contradiction) <;> (try omega)) | fail)
  refine acall_some rfl (copy_i t a b hl hs ha hb) ⟨_, 0, rfl⟩ (by simp only [↓aXs, ↓aX, ↓aList, ↓astep, ↓aThen, ↓aBlock, ↓AWp_eq, ↓acall_eq, push_cast, Nat.reduceBEq, Nat.reduceAdd, Nat.reduceMul, Nat.reduceSub, Nat.reduceLeDiff, Nat.reduceLT, Int.reduceLE, Int.reduceLT, Int.reduceToNat, reduceCtorEq, Nat.reduceEqDiff, reduceIte, aEnd]) (by intro _ r ⟨d, e⟩; rw [e]; rfl) (by simp only [↓aXs, ↓aX, ↓aList, ↓astep, ↓aThen, ↓aBlock, ↓AWp_eq, ↓acall_eq, push_cast, Nat.reduceBEq, Nat.reduceAdd, Nat.reduceMul, Nat.reduceSub, Nat.reduceLeDiff, Nat.reduceLT, Int.reduceLE, Int.reduceLT, Int.reduceToNat, reduceCtorEq, Nat.reduceEqDiff, reduceIte, aEnd] <;> (unfold LIM at *; omega)) ?_
  rintro r ⟨d, rfl⟩
  simp only [↓aXs, ↓aX, ↓aList, ↓astep, ↓aThen, ↓aBlock, ↓AWp_eq, ↓acall_eq, push_cast, Nat.reduceBEq, Nat.reduceAdd, Nat.reduceMul, Nat.reduceSub, Nat.reduceLeDiff, Nat.reduceLT, Int.reduceLE, Int.reduceLT, Int.reduceToNat, reduceCtorEq, Nat.reduceEqDiff, reduceIte, aEnd]
  cases hk : (copyF t a b).2 with
  | false =>
    repeat' (first | (with_reducible refine BWp.of ?_) | (with_reducible refine bcall.of ?_) | (with_reducible refine awp_seq ?_) | (with_reducible refine awp_block ?_) | ((first | (with_reducible refine awp_region' hP hN ?_; refine ⟨_, rfl, rfl, ?_⟩) | (with_reducible refine awp_ret ?_) | (with_reducible refine awp_skip ?_) | (with_reducible refine awp_exit ?_) | (with_reducible refine awp_label ?_)); simp only [↓aXs, ↓aX, ↓aList, ↓astep, ↓aThen, ↓aBlock, ↓AWp_eq, ↓acall_eq, push_cast, Nat.reduceBEq, Nat.reduceAdd, Nat.reduceMul, Nat.reduceSub, Nat.reduceLeDiff, Nat.reduceLT, Int.reduceLE, Int.reduceLT, Int.reduceToNat, reduceCtorEq, Nat.reduceEqDiff, reduceIte, aEnd]) | ((with_reducible refine And.intro ?_ ?_); (focus (first | (with_reducible trivial) | (with_reducible assumption) | omega | (simp_all; done) | (simp_all; omega)))) | (with_reducible exact Nat.le_refl _) | (with_reducible refine awp_cond' ?_; refine ⟨_, rfl, ?_, ?_⟩ <;> intro hc <;> (try simp only [↓aXs, ↓aX, ↓aList, ↓astep, ↓aThen, ↓aBlock, ↓AWp_eq, ↓acall_eq, push_cast, Nat.reduceBEq, Nat.reduceAdd, Nat.reduceMul, Nat.reduceSub, Nat.reduceLeDiff, Nat.reduceLT, Int.reduceLE, Int.reduceLT, Int.reduceToNat, reduceCtorEq, Nat.reduceEqDiff, reduceIte, aEnd] at hc) <;> (try contradiction) <;> (try omega)) | fail)
    exact .inl (by rw [moveF, if_neg (by rw [hk]; simp)])
  | true =>
    obtain ⟨hb, hf, he⟩ := copyF_yes hk
    obtain ⟨v1, v2, v3, v4⟩ := badC_no hb
    have hcl := copL_le t a b
    have hrl := remL_le t a
    have hr := remove_i t a hl hs ha
    have hrf : remF t a = (remL t a, true) := by rw [remF, if_neg (by rw [badR, v1, decide_eq_false v4, decide_eq_false (by omega)]; simp)]
    rw [hrf] at hr
    rw [he]
    repeat' (first | (with_reducible refine BWp.of ?_) | (with_reducible refine bcall.of ?_) | (with_reducible refine awp_seq ?_) | (with_reducible refine awp_block ?_) | ((first | (with_reducible refine awp_region' hP hN ?_; refine ⟨_, rfl, rfl, ?_⟩) | (with_reducible refine awp_ret ?_) | (with_reducible refine awp_skip ?_) | (with_reducible refine awp_exit ?_) | (with_reducible refine awp_label ?_)); simp only [↓aXs, ↓aX, ↓aList, ↓astep, ↓aThen, ↓aBlock, ↓AWp_eq, ↓acall_eq, push_cast, Nat.reduceBEq, Nat.reduceAdd, Nat.reduceMul, Nat.reduceSub, Nat.reduceLeDiff, Nat.reduceLT, Int.reduceLE, Int.reduceLT, Int.reduceToNat, reduceCtorEq, Nat.reduceEqDiff, reduceIte, aEnd]) | ((with_reducible refine And.intro ?_ ?_); (focus (first | (with_reducible trivial) | (with_reducible assumption) | omega | (simp_all; done) | (simp_all; omega)))) | (with_reducible exact Nat.le_refl _) | (with_reducible refine awp_cond' ?_; refine ⟨_, rfl, ?_, ?_⟩ <;> intro hc <;> (try simp only [↓aXs, ↓aX, ↓aList, ↓astep, ↓aThen, ↓aBlock, ↓AWp_eq, ↓acall_eq, push_cast, Nat.reduceBEq, Nat.reduceAdd, Nat.reduceMul, Nat.reduceSub, Nat.reduceLeDiff, Nat.reduceLT, Int.reduceLE, Int.reduceLT, Int.reduceToNat, reduceCtorEq, Nat.reduceEqDiff, reduceIte, aEnd] at hc) <;> (try contradiction) <;> (try omega)) | fail)
    refine acall_some rfl hr ⟨_, 0, rfl⟩ (by simp only [↓aXs, ↓aX, ↓aList, ↓astep, ↓aThen, ↓aBlock, ↓AWp_eq, ↓acall_eq, push_cast, Nat.reduceBEq, Nat.reduceAdd, Nat.reduceMul, Nat.reduceSub, Nat.reduceLeDiff, Nat.reduceLT, Int.reduceLE, Int.reduceLT, Int.reduceToNat, reduceCtorEq, Nat.reduceEqDiff, reduceIte, aEnd]) (by intro _ r ⟨d, e⟩; rw [e]; rfl) (by simp only [↓aXs, ↓aX, ↓aList, ↓astep, ↓aThen, ↓aBlock, ↓AWp_eq, ↓acall_eq, push_cast, Nat.reduceBEq, Nat.reduceAdd, Nat.reduceMul, Nat.reduceSub, Nat.reduceLeDiff, Nat.reduceLT, Int.reduceLE, Int.reduceLT, Int.reduceToNat, reduceCtorEq, Nat.reduceEqDiff, reduceIte, aEnd] <;> (unfold LIM at *; omega)) ?_
    rintro r ⟨d, rfl⟩
    simp only [↓aXs, ↓aX, ↓aList, ↓astep, ↓aThen, ↓aBlock, ↓AWp_eq, ↓acall_eq, push_cast, Nat.reduceBEq, Nat.reduceAdd, Nat.reduceMul, Nat.reduceSub, Nat.reduceLeDiff, Nat.reduceLT, Int.reduceLE, Int.reduceLT, Int.reduceToNat, reduceCtorEq, Nat.reduceEqDiff, reduceIte, aEnd]
    repeat' (first | (with_reducible refine BWp.of ?_) | (with_reducible refine bcall.of ?_) | (with_reducible refine awp_seq ?_) | (with_reducible refine awp_block ?_) | ((first | (with_reducible refine awp_region' hP hN ?_; refine ⟨_, rfl, rfl, ?_⟩) | (with_reducible refine awp_ret ?_) | (with_reducible refine awp_skip ?_) | (with_reducible refine awp_exit ?_) | (with_reducible refine awp_label ?_)); simp only [↓aXs, ↓aX, ↓aList, ↓astep, ↓aThen, ↓aBlock, ↓AWp_eq, ↓acall_eq, push_cast, Nat.reduceBEq, Nat.reduceAdd, Nat.reduceMul, Nat.reduceSub, Nat.reduceLeDiff, Nat.reduceLT, Int.reduceLE, Int.reduceLT, Int.reduceToNat, reduceCtorEq, Nat.reduceEqDiff, reduceIte, aEnd]) | ((with_reducible refine And.intro ?_ ?_); (focus (first | (with_reducible trivial) | (with_reducible assumption) | omega | (simp_all; done) | (simp_all; omega)))) | (with_reducible exact Nat.le_refl _) | (with_reducible refine awp_cond' ?_; refine ⟨_, rfl, ?_, ?_⟩ <;> intro hc <;> (try simp only [↓aXs, ↓aX, ↓aList, ↓astep, ↓aThen, ↓aBlock, ↓AWp_eq, ↓acall_eq, push_cast, Nat.reduceBEq, Nat.reduceAdd, Nat.reduceMul, Nat.reduceSub, Nat.reduceLeDiff, Nat.reduceLT, Int.reduceLE, Int.reduceLT, Int.reduceToNat, reduceCtorEq, Nat.reduceEqDiff, reduceIte, aEnd] at hc) <;> (try contradiction) <;> (try omega)) | fail)
    refine ⟨⟨by omega, by omega, cmd_elt _⟩, ?_⟩
    repeat' (first | (with_reducible refine BWp.of ?_) | (with_reducible refine bcall.of ?_) | (with_reducible refine awp_seq ?_) | (with_reducible refine awp_block ?_) | ((first | (with_reducible refine awp_region' hP hN ?_; refine ⟨_, rfl, rfl, ?_⟩) | (with_reducible refine awp_ret ?_) | (with_reducible refine awp_skip ?_) | (with_reducible refine awp_exit ?_) | (with_reducible refine awp_label ?_)); simp only [↓aXs, ↓aX, ↓aList, ↓astep, ↓aThen, ↓aBlock, ↓AWp_eq, ↓acall_eq, push_cast, Nat.reduceBEq, Nat.reduceAdd, Nat.reduceMul, Nat.reduceSub, Nat.reduceLeDiff, Nat.reduceLT, Int.reduceLE, Int.reduceLT, Int.reduceToNat, reduceCtorEq, Nat.reduceEqDiff, reduceIte, aEnd]) | ((with_reducible refine And.intro ?_ ?_); (focus (first | (with_reducible trivial) | (with_reducible assumption) | omega | (simp_all; done) | (simp_all; omega)))) | (with_reducible exact Nat.le_refl _) | (with_reducible refine awp_cond' ?_; refine ⟨_, rfl, ?_, ?_⟩ <;> intro hc <;> (try simp only [↓aXs, ↓aX, ↓aList, ↓astep, ↓aThen, ↓aBlock, ↓AWp_eq, ↓acall_eq, push_cast, Nat.reduceBEq, Nat.reduceAdd, Nat.reduceMul, Nat.reduceSub, Nat.reduceLeDiff, Nat.reduceLT, Int.reduceLE, Int.reduceLT, Int.reduceToNat, reduceCtorEq, Nat.reduceEqDiff, reduceIte, aEnd] at hc) <;> (try contradiction) <;> (try omega)) | fail)
    exact ⟨_, by rw [moveF, if_pos hk, he, List.map_append]⟩

end Go.Proofs.YtlmlnbmagmembaaDoor

set_option linter.unusedSimpArgs false
set_option maxRecDepth 10000
namespace Go.Proofs.YtlmlnbmagmembaaDoor
open Go Go.RowKit

/-! ### moved, and moved back -/

theorem CopyOk.copy {t : List Nod} {a b : List UInt8} (h : CopyOk t a b) : copyF t a b = (copL t a b, true) := by
  have hn := h.nu
  simp only [inC, Bool.or_eq_false_iff, decide_eq_false_iff_not] at hn
  have hb : badC t a b = false := by
    rw [badC, dep_iff, dep_iff, h.ht, h.pa, h.pb, decide_eq_false h.na, decide_eq_false h.nb, decide_eq_false h.ga, decide_eq_false (fun e => hn.1 e.symm), under_eq h.pa h.pb, hn.2]
    rfl
  have hf : logFitF t (copL t a b) = true := by
    rw [logFitF, logApF_yes (by rw [h.ht, h.lk]; rfl), decide_eq_true_eq]
    simp only
    rw [h.al]
  rw [copyF, if_neg (by rw [hb]; simp), if_pos hf]

theorem CopyOk.moveF {t : List Nod} {a b : List UInt8} (h : CopyOk t a b) : moveF t a b = (copL t a b ++ remL t a, true) := by
  rw [YtlmlnbmagmembaaDoor.moveF, h.copy]
  rfl

theorem CopyOk.apply {t : List Nod} {a b : List UInt8} (h : CopyOk t a b) : logApF t (copL t a b ++ remL t a) = (movT t a b, (((copL t a b ++ remL t a).length : Nat) : Int)) := by
  rw [logApF_yes (by rw [h.ht, h.lok]; rfl), h.move]

theorem moveF_no {t : List Nod} {a b : List UInt8} (h : (copyF t a b).2 = false) : moveF t a b = ([], false) := by rw [moveF, h]; rfl

theorem copL_le' {t : List Nod} {a b : List UInt8} (h : CopyOk t a b) : (copL t a b ++ remL t a).length ≤ 20 := by
  have := h.lok
  simp only [logOk, Bool.and_eq_true, decide_eq_true_eq] at this
  exact this.1

theorem log_p {cs : List Cmd} (h : logOk cs = true) : ∀ c ∈ cs, c.p.length ≤ 1000000 := fun c hc => by
  have := pathOk_len (cmdOk_path (logOk_mem0 h hc)).1
  omega

end Go.Proofs.YtlmlnbmagmembaaDoor
