import Derived.Test.YtellipmolheaaaaDoorConV
set_option linter.unusedSimpArgs false
set_option maxRecDepth 10000
namespace Go.Proofs.YtellipmolheaaaaDoor
open Go Go.RowKit

/-! ### all conflicts of two logs -/

def pairV (p : Nat × Nat) : Value := .agg #[.int .i64 (p.1 : Nat), .int .i64 (p.2 : Nat)]

attribute [push_cast] pairV

end Go.Proofs.YtellipmolheaaaaDoor

set_option linter.unusedSimpArgs false
set_option maxRecDepth 10000
namespace Go.Proofs.YtellipmolheaaaaDoor
open Go Go.RowKit

/-! ### commands that are safe, agreed or left -/

def hasC (us : List Cmd) (c : Cmd) : Bool := us.any fun x => decide (x = c)
def dispI (us : List Cmd) (c : Cmd) : Bool := us.any (clashI c)
def safeP (us : List Cmd) (c : Cmd) : Bool := !hasC us c && !dispI us c
def agreeP (us : List Cmd) (c : Cmd) : Bool := hasC us c && !dispI us c
noncomputable def pickR (us vs ws : List Cmd) (p : Cmd → Bool) : List Cmd := if (canonOk us && canonOk vs) = true then ws.filter p else []

theorem hasC_iff {us : List Cmd} {c : Cmd} : hasC us c = true ↔ c ∈ us := by simp [hasC]

theorem any_step {α : Type} {p : α → Bool} {l : List α} {k : Nat} {y : α} (h : l[k]? = some y) : (l.take (k + 1)).any p = ((l.take k).any p || p y) := by
  rw [List.take_add_one, h, List.any_append]
  simp

theorem hasCommand_c (t : List Cmd) (c : Cmd) (hl : t.length ≤ 2000000) : ACalls Tryd.prog 46 [.sl 5 (t.map cmdV), .v (cmdV c)] 0 (fun r => r = .v (.bool (hasC t c))) := by
  refine acalls_of Tryd.func46 Tryd.ntmps46 (by kernel_rfl) rfl rfl fun X hP hN m hm => ?_
  repeat' (first | (with_reducible refine BWp.of ?_) | (with_reducible refine bcall.of ?_) | (with_reducible refine awp_seq ?_) | (with_reducible refine awp_block ?_) | ((first | (with_reducible refine awp_region' hP hN ?_; refine ⟨_, rfl, rfl, ?_⟩) | (with_reducible refine awp_ret ?_) | (with_reducible refine awp_skip ?_) | (with_reducible refine awp_exit ?_) | (with_reducible refine awp_label ?_)); simp only [↓aXs, ↓aX, ↓aList, ↓astep, ↓aThen, ↓aBlock, ↓AWp_eq, ↓acall_eq, push_cast, Nat.reduceBEq, Nat.reduceAdd, Nat.reduceMul, Nat.reduceSub, Nat.reduceLeDiff, Nat.reduceLT, Int.reduceLE, Int.reduceLT, Int.reduceToNat, reduceCtorEq, Nat.reduceEqDiff, reduceIte, aEnd]) | ((with_reducible refine And.intro ?_ ?_); (focus (first | (with_reducible trivial) | (with_reducible assumption) | omega | (simp_all; done) | (simp_all; omega)))) | (with_reducible exact Nat.le_refl _) | (with_reducible refine awp_cond' ?_; refine ⟨_, rfl, ?_, ?_⟩ <;> intro hc <;> (try simp only [↓aXs, ↓aX, ↓aList, ↓astep, ↓aThen, ↓aBlock, ↓AWp_eq, ↓acall_eq, push_cast, Nat.reduceBEq, Nat.reduceAdd, Nat.reduceMul, Nat.reduceSub, Nat.reduceLeDiff, Nat.reduceLT, Int.reduceLE, Int.reduceLT, Int.reduceToNat, reduceCtorEq, Nat.reduceEqDiff, reduceIte, aEnd] at hc) <;> (try contradiction) <;> (try omega)) | fail)
  refine awp_loop (fun i : Nat => i ≤ t.length ∧ (t.take i).any (fun x => decide (x = c)) = false) (fun i => ⟨[(5, .v (.int .i64 (i : Nat))), (3, .ptr (cmdC c) 0), (0, .sl 5 (t.map cmdV))], m⟩) (fun i => t.length - i)
    ⟨0, ⟨Nat.zero_le _, by simp⟩, les_of [] hP (by decide) (by decide) (Nat.le_refl _) (by simp only [↓aXs, ↓aX, ↓aList, ↓astep, ↓aThen, ↓aBlock, ↓AWp_eq, ↓acall_eq, push_cast, Nat.reduceBEq, Nat.reduceAdd, Nat.reduceMul, Nat.reduceSub, Nat.reduceLeDiff, Nat.reduceLT, Int.reduceLE, Int.reduceLT, Int.reduceToNat, reduceCtorEq, Nat.reduceEqDiff, reduceIte, aEnd] <;> simp [cmdC, cmdV])⟩ ?_
  intro i ⟨g1, g2⟩
  rcases Nat.lt_or_ge i t.length with hlt | hge
  · obtain ⟨x, hx⟩ := at_some hlt
    have hs := any_step (p := fun x => decide (x = c)) hx
    simp only [g2, Bool.false_or] at hs
    repeat' (first | (with_reducible refine BWp.of ?_) | (with_reducible refine bcall.of ?_) | (with_reducible refine awp_seq ?_) | (with_reducible refine awp_block ?_) | ((first | (with_reducible refine awp_region' hP hN ?_; refine ⟨_, rfl, rfl, ?_⟩) | (with_reducible refine awp_ret ?_) | (with_reducible refine awp_skip ?_) | (with_reducible refine awp_exit ?_) | (with_reducible refine awp_label ?_)); simp only [↓aXs, ↓aX, ↓aList, ↓astep, ↓aThen, ↓aBlock, ↓AWp_eq, ↓acall_eq, push_cast, Nat.reduceBEq, Nat.reduceAdd, Nat.reduceMul, Nat.reduceSub, Nat.reduceLeDiff, Nat.reduceLT, Int.reduceLE, Int.reduceLT, Int.reduceToNat, reduceCtorEq, Nat.reduceEqDiff, reduceIte, aEnd, hx]) | ((with_reducible refine And.intro ?_ ?_); (focus (first | (with_reducible trivial) | (with_reducible assumption) | omega | (simp_all; done) | (simp_all; omega)))) | (with_reducible exact Nat.le_refl _) | (with_reducible refine awp_cond' ?_; refine ⟨_, rfl, ?_, ?_⟩ <;> intro hc <;> (try simp only [↓aXs, ↓aX, ↓aList, ↓astep, ↓aThen, ↓aBlock, ↓AWp_eq, ↓acall_eq, push_cast, Nat.reduceBEq, Nat.reduceAdd, Nat.reduceMul, Nat.reduceSub, Nat.reduceLeDiff, Nat.reduceLT, Int.reduceLE, Int.reduceLT, Int.reduceToNat, reduceCtorEq, Nat.reduceEqDiff, reduceIte, aEnd, hx] at hc) <;> (try contradiction) <;> (try omega)) | fail)
    refine awp_draw hP hN 6 (by rfl) (by kernel_rfl) (by rfl) ?_
    simp only [↓aXs, ↓aX, ↓aList, ↓astep, ↓aThen, ↓aBlock, ↓AWp_eq, ↓acall_eq, push_cast, Nat.reduceBEq, Nat.reduceAdd, Nat.reduceMul, Nat.reduceSub, Nat.reduceLeDiff, Nat.reduceLT, Int.reduceLE, Int.reduceLT, Int.reduceToNat, reduceCtorEq, Nat.reduceEqDiff, reduceIte, aEnd, hx]
    repeat' (first | (with_reducible refine BWp.of ?_) | (with_reducible refine bcall.of ?_) | (with_reducible refine awp_seq ?_) | (with_reducible refine awp_block ?_) | ((first | (with_reducible refine awp_region' hP hN ?_; refine ⟨_, rfl, rfl, ?_⟩) | (with_reducible refine awp_ret ?_) | (with_reducible refine awp_skip ?_) | (with_reducible refine awp_exit ?_) | (with_reducible refine awp_label ?_)); simp only [↓aXs, ↓aX, ↓aList, ↓astep, ↓aThen, ↓aBlock, ↓AWp_eq, ↓acall_eq, push_cast, Nat.reduceBEq, Nat.reduceAdd, Nat.reduceMul, Nat.reduceSub, Nat.reduceLeDiff, Nat.reduceLT, Int.reduceLE, Int.reduceLT, Int.reduceToNat, reduceCtorEq, Nat.reduceEqDiff, reduceIte, aEnd, hx]) | ((with_reducible refine And.intro ?_ ?_); (focus (first | (with_reducible trivial) | (with_reducible assumption) | omega | (simp_all; done) | (simp_all; omega)))) | (with_reducible exact Nat.le_refl _) | (with_reducible refine awp_cond' ?_; refine ⟨_, rfl, ?_, ?_⟩ <;> intro hc <;> (try simp only [↓aXs, ↓aX, ↓aList, ↓astep, ↓aThen, ↓aBlock, ↓AWp_eq, ↓acall_eq, push_cast, Nat.reduceBEq, Nat.reduceAdd, Nat.reduceMul, Nat.reduceSub, Nat.reduceLeDiff, Nat.reduceLT, Int.reduceLE, Int.reduceLT, Int.reduceToNat, reduceCtorEq, Nat.reduceEqDiff, reduceIte, aEnd, hx] at hc) <;> (try contradiction) <;> (try omega)) | fail)
    · rw [show hasC t c = true from List.any_eq_true.2 ⟨x, List.mem_of_getElem? hx, decide_eq_true (by rcases x with ⟨_, ⟨_, _⟩, ⟨_, _⟩⟩; rcases c with ⟨_, ⟨_, _⟩, ⟨_, _⟩⟩; simp_all)⟩]
    · exact ⟨i + 1, ⟨by omega, by rw [hs]; exact decide_eq_false fun e => by subst e; simp at hc⟩, by omega, les_of [] hP (by decide) (by decide) (Nat.le_refl _) (by simp only [↓aXs, ↓aX, ↓aList, ↓astep, ↓aThen, ↓aBlock, ↓AWp_eq, ↓acall_eq, push_cast, Nat.reduceBEq, Nat.reduceAdd, Nat.reduceMul, Nat.reduceSub, Nat.reduceLeDiff, Nat.reduceLT, Int.reduceLE, Int.reduceLT, Int.reduceToNat, reduceCtorEq, Nat.reduceEqDiff, reduceIte, aEnd] <;> simp [cmdC, cmdV])⟩
  · rw [List.take_of_length_le hge] at g2
    repeat' (first | (with_reducible refine BWp.of ?_) | (with_reducible refine bcall.of ?_) | (with_reducible refine awp_seq ?_) | (with_reducible refine awp_block ?_) | ((first | (with_reducible refine awp_region' hP hN ?_; refine ⟨_, rfl, rfl, ?_⟩) | (with_reducible refine awp_ret ?_) | (with_reducible refine awp_skip ?_) | (with_reducible refine awp_exit ?_) | (with_reducible refine awp_label ?_)); simp only [↓aXs, ↓aX, ↓aList, ↓astep, ↓aThen, ↓aBlock, ↓AWp_eq, ↓acall_eq, push_cast, Nat.reduceBEq, Nat.reduceAdd, Nat.reduceMul, Nat.reduceSub, Nat.reduceLeDiff, Nat.reduceLT, Int.reduceLE, Int.reduceLT, Int.reduceToNat, reduceCtorEq, Nat.reduceEqDiff, reduceIte, aEnd]) | ((with_reducible refine And.intro ?_ ?_); (focus (first | (with_reducible trivial) | (with_reducible assumption) | omega | (simp_all; done) | (simp_all; omega)))) | (with_reducible exact Nat.le_refl _) | (with_reducible refine awp_cond' ?_; refine ⟨_, rfl, ?_, ?_⟩ <;> intro hc <;> (try simp only [↓aXs, ↓aX, ↓aList, ↓astep, ↓aThen, ↓aBlock, ↓AWp_eq, ↓acall_eq, push_cast, Nat.reduceBEq, Nat.reduceAdd, Nat.reduceMul, Nat.reduceSub, Nat.reduceLeDiff, Nat.reduceLT, Int.reduceLE, Int.reduceLT, Int.reduceToNat, reduceCtorEq, Nat.reduceEqDiff, reduceIte, aEnd] at hc) <;> (try contradiction) <;> (try omega)) | fail)
    rw [show hasC t c = false from g2]

end Go.Proofs.YtellipmolheaaaaDoor
