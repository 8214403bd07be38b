import Derived.Test.YtjafeamjgmacnaaDoorConV
import Derived.Test.YtjafeamjgmacnaaDoorCoreC
set_option linter.unusedSimpArgs false
set_option maxRecDepth 10000
namespace Go.Proofs.YtjafeamjgmacnaaDoor
open Go Go.RowKit

/-! ### orders -/

def possP (cs : List Cmd) : Prop := cs.Pairwise fun y x => mustI x y = false
def possSP (cs : List Cmd) : Prop := cs.Pairwise fun y x => mustS x y = false
noncomputable def fitsB (cs : List Cmd) : Bool := logOk cs && bP (cs.map (·.p)).Nodup && bP (possP cs)

theorem pair_iff {cs : List Cmd} {m : Cmd → Cmd → Bool} : cs.Pairwise (fun y x => m x y = false) ↔ ∀ (i k : Nat) x y, k < i → cs[i]? = some x → cs[k]? = some y → m x y = false := by
  rw [List.pairwise_iff_getElem]
  constructor
  · intro h i k x y hk hx hy
    obtain ⟨h1, e1⟩ := List.getElem?_eq_some_iff.1 hx
    obtain ⟨h2, e2⟩ := List.getElem?_eq_some_iff.1 hy
    have := h k i h2 h1 hk
    rwa [e1, e2] at this
  · intro h k i hk hi hki
    exact h i k _ _ hki (List.getElem?_eq_getElem hi) (List.getElem?_eq_getElem hk)

theorem poss_eq {cs : List Cmd} (h : ∀ c ∈ cs, cmdOk c = true) : possSP cs ↔ possP cs := by
  unfold possSP possP
  rw [pair_iff, pair_iff]
  constructor
  · intro hh i k x y hk hx hy
    rw [← must_eq (h x (List.mem_of_getElem? hx)) (h y (List.mem_of_getElem? hy))]
    exact hh i k x y hk hx hy
  · intro hh i k x y hk hx hy
    rw [must_eq (h x (List.mem_of_getElem? hx)) (h y (List.mem_of_getElem? hy))]
    exact hh i k x y hk hx hy

theorem possible_i (cs : List Cmd) (hl : cs.length ≤ 100000) (hp : ∀ c ∈ cs, c.p.length ≤ 1000000) : ACalls Tryd.prog 43 [.sl 5 (cs.map cmdV)] 0 (fun r => r = .v (.bool (bP (possP cs)))) := by
  refine acalls_of Tryd.func43 Tryd.ntmps43 (by kernel_rfl) rfl rfl fun X hP hN m hm => ?_
  repeat' (first | (with_reducible refine BWp.of ?_) | (with_reducible refine bcall.of ?_) | (with_reducible refine awp_seq ?_) | (with_reducible refine awp_block ?_) | ((first | (with_reducible refine awp_region' hP hN ?_; refine ⟨_, rfl, rfl, ?_⟩) | (with_reducible refine awp_ret ?_) | (with_reducible refine awp_skip ?_) | (with_reducible refine awp_exit ?_) | (with_reducible refine awp_label ?_)); simp only [↓aXs, ↓aX, ↓aList, ↓astep, ↓aThen, ↓aBlock, ↓AWp_eq, ↓acall_eq, push_cast, Nat.reduceBEq, Nat.reduceAdd, Nat.reduceMul, Nat.reduceSub, Nat.reduceLeDiff, Nat.reduceLT, Int.reduceLE, Int.reduceLT, Int.reduceToNat, reduceCtorEq, Nat.reduceEqDiff, reduceIte, aEnd]) | ((with_reducible refine And.intro ?_ ?_); (focus (first | (with_reducible trivial) | (with_reducible assumption) | omega | (simp_all; done) | (simp_all; omega)))) | (with_reducible exact Nat.le_refl _) | (with_reducible refine awp_cond' ?_; refine ⟨_, rfl, ?_, ?_⟩ <;> intro hc <;> (try simp only [↓aXs, ↓aX, ↓aList, ↓astep, ↓aThen, ↓aBlock, ↓AWp_eq, ↓acall_eq, push_cast, Nat.reduceBEq, Nat.reduceAdd, Nat.reduceMul, Nat.reduceSub, Nat.reduceLeDiff, Nat.reduceLT, Int.reduceLE, Int.reduceLT, Int.reduceToNat, reduceCtorEq, Nat.reduceEqDiff, reduceIte, aEnd] at hc) <;> (try contradiction) <;> (try omega)) | fail)
  refine awp_loop (fun i : Nat => i ≤ cs.length ∧ ∀ (a b : Nat) x y, a < i → b < a → cs[a]? = some x → cs[b]? = some y → mustI x y = false)
    (fun i => ⟨[(9, .v (.int .i64 (i : Nat))), (8, .v (.int .i64 (cs.length : Nat))), (7, .sl 5 (cs.map cmdV)), (0, .sl 5 (cs.map cmdV))], m⟩) (fun i => cs.length - i)
    ⟨0, ⟨Nat.zero_le _, fun a b x y h => absurd h (Nat.not_lt_zero _)⟩, les_of [] hP (by decide) (by decide) (Nat.le_refl _) (by simp only [↓aXs, ↓aX, ↓aList, ↓astep, ↓aThen, ↓aBlock, ↓AWp_eq, ↓acall_eq, push_cast, Nat.reduceBEq, Nat.reduceAdd, Nat.reduceMul, Nat.reduceSub, Nat.reduceLeDiff, Nat.reduceLT, Int.reduceLE, Int.reduceLT, Int.reduceToNat, reduceCtorEq, Nat.reduceEqDiff, reduceIte, aEnd] <;> simp)⟩ ?_
  intro i ⟨g1, g2⟩
  rcases Nat.lt_or_ge i cs.length with hlt | hge
  · obtain ⟨x, hx⟩ := at_some hlt
    have hxl := hp x (List.mem_of_getElem? hx)
    have hmin : min i cs.length = i := by omega
    repeat' (first | (with_reducible refine BWp.of ?_) | (with_reducible refine bcall.of ?_) | (with_reducible refine awp_seq ?_) | (with_reducible refine awp_block ?_) | ((first | (with_reducible refine awp_region' hP hN ?_; refine ⟨_, rfl, rfl, ?_⟩) | (with_reducible refine awp_ret ?_) | (with_reducible refine awp_skip ?_) | (with_reducible refine awp_exit ?_) | (with_reducible refine awp_label ?_)); simp only [↓aXs, ↓aX, ↓aList, ↓astep, ↓aThen, ↓aBlock, ↓AWp_eq, ↓acall_eq, push_cast, Nat.reduceBEq, Nat.reduceAdd, Nat.reduceMul, Nat.reduceSub, Nat.reduceLeDiff, Nat.reduceLT, Int.reduceLE, Int.reduceLT, Int.reduceToNat, reduceCtorEq, Nat.reduceEqDiff, reduceIte, aEnd, hx]) | ((with_reducible refine And.intro ?_ ?_); (focus (first | (with_reducible trivial) | (with_reducible assumption) | omega | (simp_all; done) | (simp_all; omega)))) | (with_reducible exact Nat.le_refl _) | (with_reducible refine awp_cond' ?_; refine ⟨_, rfl, ?_, ?_⟩ <;> intro hc <;> (try simp only [↓aXs, ↓aX, ↓aList, ↓astep, ↓aThen, ↓aBlock, ↓AWp_eq, ↓acall_eq, push_cast, Nat.reduceBEq, Nat.reduceAdd, Nat.reduceMul, Nat.reduceSub, Nat.reduceLeDiff, Nat.reduceLT, Int.reduceLE, Int.reduceLT, Int.reduceToNat, reduceCtorEq, Nat.reduceEqDiff, reduceIte, aEnd, hx] at hc) <;> (try contradiction) <;> (try omega)) | fail)
    refine awp_loop (fun k : Nat => k ≤ i ∧ ∀ (b : Nat) y, b < k → cs[b]? = some y → mustI x y = false)
      (fun k => ⟨[(18, .v (.int .i64 (k : Nat))), (17, .v (.int .i64 (i : Nat))), (16, .sl 5 ((cs.take i).map cmdV)), (9, .v (.int .i64 (i : Nat))), (8, .v (.int .i64 (cs.length : Nat))), (7, .sl 5 (cs.map cmdV)), (4, .ptr (cmdC x) 0), (0, .sl 5 (cs.map cmdV))], m⟩) (fun k => i - k)
      ⟨0, ⟨Nat.zero_le _, fun b y h => absurd h (Nat.not_lt_zero _)⟩, les_of [] hP (by decide) (by decide) (Nat.le_refl _) (by simp only [↓aXs, ↓aX, ↓aList, ↓astep, ↓aThen, ↓aBlock, ↓AWp_eq, ↓acall_eq, push_cast, Nat.reduceBEq, Nat.reduceAdd, Nat.reduceMul, Nat.reduceSub, Nat.reduceLeDiff, Nat.reduceLT, Int.reduceLE, Int.reduceLT, Int.reduceToNat, reduceCtorEq, Nat.reduceEqDiff, reduceIte, aEnd] <;> simp [hmin, cmdC, cmdV, List.map_take])⟩ ?_
    intro k ⟨k1, k2⟩
    rcases Nat.lt_or_ge k i with hk | hk
    · obtain ⟨y, hy⟩ := at_some (l := cs) (i := k) (by omega)
      have hyl := hp y (List.mem_of_getElem? hy)
      have hy' : (cs.take i)[k]? = some y := by rw [List.getElem?_take_of_lt hk, hy]
      have hl2 : (cs.take i).length = i := by simp; omega
      repeat' (first | (with_reducible refine BWp.of ?_) | (with_reducible refine bcall.of ?_) | (with_reducible refine awp_seq ?_) | (with_reducible refine awp_block ?_) | ((first | (with_reducible refine awp_region' hP hN ?_; refine ⟨_, rfl, rfl, ?_⟩) | (with_reducible refine awp_ret ?_) | (with_reducible refine awp_skip ?_) | (with_reducible refine awp_exit ?_) | (with_reducible refine awp_label ?_)); simp only [↓aXs, ↓aX, ↓aList, ↓astep, ↓aThen, ↓aBlock, ↓AWp_eq, ↓acall_eq, push_cast, Nat.reduceBEq, Nat.reduceAdd, Nat.reduceMul, Nat.reduceSub, Nat.reduceLeDiff, Nat.reduceLT, Int.reduceLE, Int.reduceLT, Int.reduceToNat, reduceCtorEq, Nat.reduceEqDiff, reduceIte, aEnd, hy']) | ((with_reducible refine And.intro ?_ ?_); (focus (first | (with_reducible trivial) | (with_reducible assumption) | omega | (simp_all; done) | (simp_all; omega)))) | (with_reducible exact Nat.le_refl _) | (with_reducible refine awp_cond' ?_; refine ⟨_, rfl, ?_, ?_⟩ <;> intro hc <;> (try simp only [↓aXs, ↓aX, ↓aList, ↓astep, ↓aThen, ↓aBlock, ↓AWp_eq, ↓acall_eq, push_cast, Nat.reduceBEq, Nat.reduceAdd, Nat.reduceMul, Nat.reduceSub, Nat.reduceLeDiff, Nat.reduceLT, Int.reduceLE, Int.reduceLT, Int.reduceToNat, reduceCtorEq, Nat.reduceEqDiff, reduceIte, aEnd, hy'] at hc) <;> (try contradiction) <;> (try omega)) | (refine acall_det rfl (must0_i x y hxl hyl) (by ((try simp only [↓aXs, ↓aX, ↓aList, ↓astep, ↓aThen, ↓aBlock, ↓AWp_eq, ↓acall_eq, push_cast, Nat.reduceBEq, Nat.reduceAdd, Nat.reduceMul, Nat.reduceSub, Nat.reduceLeDiff, Nat.reduceLT, Int.reduceLE, Int.reduceLT, Int.reduceToNat, reduceCtorEq, Nat.reduceEqDiff, reduceIte, aEnd, hy']); try (first | (with_reducible trivial) | (with_reducible assumption) | omega | (simp_all; done) | (simp_all; omega)))) (by (first | (intro _; rfl) | (simp only [↓aXs, ↓aX, ↓aList, ↓astep, ↓aThen, ↓aBlock, ↓AWp_eq, ↓acall_eq, push_cast, Nat.reduceBEq, Nat.reduceAdd, Nat.reduceMul, Nat.reduceSub, Nat.reduceLeDiff, Nat.reduceLT, Int.reduceLE, Int.reduceLT, Int.reduceToNat, reduceCtorEq, Nat.reduceEqDiff, reduceIte, aEnd, hy']; first | done | (with_reducible trivial) | (with_reducible assumption) | omega | (simp_all; done) | (simp_all; omega)))) (by ((try simp only [↓aXs, ↓aX, ↓aList, ↓astep, ↓aThen, ↓aBlock, ↓AWp_eq, ↓acall_eq, push_cast, Nat.reduceBEq, Nat.reduceAdd, Nat.reduceMul, Nat.reduceSub, Nat.reduceLeDiff, Nat.reduceLT, Int.reduceLE, Int.reduceLT, Int.reduceToNat, reduceCtorEq, Nat.reduceEqDiff, reduceIte, aEnd, hy']); first | done | (unfold LIM at *; omega))) ?_; simp only [↓aXs, ↓aX, ↓aList, ↓astep, ↓aThen, ↓aBlock, ↓AWp_eq, ↓acall_eq, push_cast, Nat.reduceBEq, Nat.reduceAdd, Nat.reduceMul, Nat.reduceSub, Nat.reduceLeDiff, Nat.reduceLT, Int.reduceLE, Int.reduceLT, Int.reduceToNat, reduceCtorEq, Nat.reduceEqDiff, reduceIte, aEnd, hy']) | fail)
      · rw [bP_false]
        intro h
        have := pair_iff.1 h i k x y hk hx hy
        rw [this] at hc
        cases hc
      · have hc2 := hc
        refine ⟨k + 1, ⟨by omega, fun b z hb hz => ?_⟩, by omega, les_of [] hP (by decide) (by decide) (Nat.le_refl _) (by simp only [↓aXs, ↓aX, ↓aList, ↓astep, ↓aThen, ↓aBlock, ↓AWp_eq, ↓acall_eq, push_cast, Nat.reduceBEq, Nat.reduceAdd, Nat.reduceMul, Nat.reduceSub, Nat.reduceLeDiff, Nat.reduceLT, Int.reduceLE, Int.reduceLT, Int.reduceToNat, reduceCtorEq, Nat.reduceEqDiff, reduceIte, aEnd] <;> simp [cmdC, cmdV])⟩
        by_cases e : b = k
        · subst e
          rw [hy] at hz
          simp only [Option.some.injEq] at hz
          rw [← hz]; exact hc2
        · exact k2 b z (by omega) hz
    · repeat' (first | (with_reducible refine BWp.of ?_) | (with_reducible refine bcall.of ?_) | (with_reducible refine awp_seq ?_) | (with_reducible refine awp_block ?_) | ((first | (with_reducible refine awp_region' hP hN ?_; refine ⟨_, rfl, rfl, ?_⟩) | (with_reducible refine awp_ret ?_) | (with_reducible refine awp_skip ?_) | (with_reducible refine awp_exit ?_) | (with_reducible refine awp_label ?_)); simp only [↓aXs, ↓aX, ↓aList, ↓astep, ↓aThen, ↓aBlock, ↓AWp_eq, ↓acall_eq, push_cast, Nat.reduceBEq, Nat.reduceAdd, Nat.reduceMul, Nat.reduceSub, Nat.reduceLeDiff, Nat.reduceLT, Int.reduceLE, Int.reduceLT, Int.reduceToNat, reduceCtorEq, Nat.reduceEqDiff, reduceIte, aEnd]) | ((with_reducible refine And.intro ?_ ?_); (focus (first | (with_reducible trivial) | (with_reducible assumption) | omega | (simp_all; done) | (simp_all; omega)))) | (with_reducible exact Nat.le_refl _) | (with_reducible refine awp_cond' ?_; refine ⟨_, rfl, ?_, ?_⟩ <;> intro hc <;> (try simp only [↓aXs, ↓aX, ↓aList, ↓astep, ↓aThen, ↓aBlock, ↓AWp_eq, ↓acall_eq, push_cast, Nat.reduceBEq, Nat.reduceAdd, Nat.reduceMul, Nat.reduceSub, Nat.reduceLeDiff, Nat.reduceLT, Int.reduceLE, Int.reduceLT, Int.reduceToNat, reduceCtorEq, Nat.reduceEqDiff, reduceIte, aEnd] at hc) <;> (try contradiction) <;> (try omega)) | fail)
      refine ⟨i + 1, ⟨by omega, fun a b x' y ha hb hx' hy => ?_⟩, by omega, les_of [] hP (by decide) (by decide) (Nat.le_refl _) (by simp only [↓aXs, ↓aX, ↓aList, ↓astep, ↓aThen, ↓aBlock, ↓AWp_eq, ↓acall_eq, push_cast, Nat.reduceBEq, Nat.reduceAdd, Nat.reduceMul, Nat.reduceSub, Nat.reduceLeDiff, Nat.reduceLT, Int.reduceLE, Int.reduceLT, Int.reduceToNat, reduceCtorEq, Nat.reduceEqDiff, reduceIte, aEnd] <;> simp)⟩
      by_cases e : a = i
      · subst e
        rw [hx] at hx'
        simp only [Option.some.injEq] at hx'
        rw [← hx']
        exact k2 b y (by omega) hy
      · exact g2 a b x' y (by omega) hb hx' hy
  · repeat' (first | (with_reducible refine BWp.of ?_) | (with_reducible refine bcall.of ?_) | (with_reducible refine awp_seq ?_) | (with_reducible refine awp_block ?_) | ((first | (with_reducible refine awp_region' hP hN ?_; refine ⟨_, rfl, rfl, ?_⟩) | (with_reducible refine awp_ret ?_) | (with_reducible refine awp_skip ?_) | (with_reducible refine awp_exit ?_) | (with_reducible refine awp_label ?_)); simp only [↓aXs, ↓aX, ↓aList, ↓astep, ↓aThen, ↓aBlock, ↓AWp_eq, ↓acall_eq, push_cast, Nat.reduceBEq, Nat.reduceAdd, Nat.reduceMul, Nat.reduceSub, Nat.reduceLeDiff, Nat.reduceLT, Int.reduceLE, Int.reduceLT, Int.reduceToNat, reduceCtorEq, Nat.reduceEqDiff, reduceIte, aEnd]) | ((with_reducible refine And.intro ?_ ?_); (focus (first | (with_reducible trivial) | (with_reducible assumption) | omega | (simp_all; done) | (simp_all; omega)))) | (with_reducible exact Nat.le_refl _) | (with_reducible refine awp_cond' ?_; refine ⟨_, rfl, ?_, ?_⟩ <;> intro hc <;> (try simp only [↓aXs, ↓aX, ↓aList, ↓astep, ↓aThen, ↓aBlock, ↓AWp_eq, ↓acall_eq, push_cast, Nat.reduceBEq, Nat.reduceAdd, Nat.reduceMul, Nat.reduceSub, Nat.reduceLeDiff, Nat.reduceLT, Int.reduceLE, Int.reduceLT, Int.reduceToNat, reduceCtorEq, Nat.reduceEqDiff, reduceIte, aEnd] at hc) <;> (try contradiction) <;> (try omega)) | fail)
    rw [bP_true (p := possP cs) (pair_iff.2 fun a b x y hb hx hy => g2 a b x y (by have := (List.getElem?_eq_some_iff.1 hx).1; omega) hb hx hy)]

theorem fits_i (cs : List Cmd) (hl : cs.length ≤ 100000) (hp : ∀ c ∈ cs, c.p.length ≤ 1000000) : ACalls Tryd.prog 16 [.sl 5 (cs.map cmdV)] 0 (fun r => r = .v (.bool (fitsB cs))) := by
  refine acalls_of Tryd.func16 Tryd.ntmps16 (by kernel_rfl) rfl rfl fun X hP hN m hm => ?_
  repeat' (first | (with_reducible refine BWp.of ?_) | (with_reducible refine bcall.of ?_) | (with_reducible refine awp_seq ?_) | (with_reducible refine awp_block ?_) | ((first | (with_reducible refine awp_region' hP hN ?_; refine ⟨_, rfl, rfl, ?_⟩) | (with_reducible refine awp_ret ?_) | (with_reducible refine awp_skip ?_) | (with_reducible refine awp_exit ?_) | (with_reducible refine awp_label ?_)); simp only [↓aXs, ↓aX, ↓aList, ↓astep, ↓aThen, ↓aBlock, ↓AWp_eq, ↓acall_eq, push_cast, Nat.reduceBEq, Nat.reduceAdd, Nat.reduceMul, Nat.reduceSub, Nat.reduceLeDiff, Nat.reduceLT, Int.reduceLE, Int.reduceLT, Int.reduceToNat, reduceCtorEq, Nat.reduceEqDiff, reduceIte, aEnd]) | ((with_reducible refine And.intro ?_ ?_); (focus (first | (with_reducible trivial) | (with_reducible assumption) | omega | (simp_all; done) | (simp_all; omega)))) | (with_reducible exact Nat.le_refl _) | (with_reducible refine awp_cond' ?_; refine ⟨_, rfl, ?_, ?_⟩ <;> intro hc <;> (try simp only [↓aXs, ↓aX, ↓aList, ↓astep, ↓aThen, ↓aBlock, ↓AWp_eq, ↓acall_eq, push_cast, Nat.reduceBEq, Nat.reduceAdd, Nat.reduceMul, Nat.reduceSub, Nat.reduceLeDiff, Nat.reduceLT, Int.reduceLE, Int.reduceLT, Int.reduceToNat, reduceCtorEq, Nat.reduceEqDiff, reduceIte, aEnd] at hc) <;> (try contradiction) <;> (try omega)) | (refine acall_det rfl (logValid_i cs (by omega) hp) (by ((try simp only [↓aXs, ↓aX, ↓aList, ↓astep, ↓aThen, ↓aBlock, ↓AWp_eq, ↓acall_eq, push_cast, Nat.reduceBEq, Nat.reduceAdd, Nat.reduceMul, Nat.reduceSub, Nat.reduceLeDiff, Nat.reduceLT, Int.reduceLE, Int.reduceLT, Int.reduceToNat, reduceCtorEq, Nat.reduceEqDiff, reduceIte, aEnd]); try (first | (with_reducible trivial) | (with_reducible assumption) | omega | (simp_all; done) | (simp_all; omega)))) (by (first | (intro _; rfl) | (simp only [↓aXs, ↓aX, ↓aList, ↓astep, ↓aThen, ↓aBlock, ↓AWp_eq, ↓acall_eq, push_cast, Nat.reduceBEq, Nat.reduceAdd, Nat.reduceMul, Nat.reduceSub, Nat.reduceLeDiff, Nat.reduceLT, Int.reduceLE, Int.reduceLT, Int.reduceToNat, reduceCtorEq, Nat.reduceEqDiff, reduceIte, aEnd]; first | done | (with_reducible trivial) | (with_reducible assumption) | omega | (simp_all; done) | (simp_all; omega)))) (by ((try simp only [↓aXs, ↓aX, ↓aList, ↓astep, ↓aThen, ↓aBlock, ↓AWp_eq, ↓acall_eq, push_cast, Nat.reduceBEq, Nat.reduceAdd, Nat.reduceMul, Nat.reduceSub, Nat.reduceLeDiff, Nat.reduceLT, Int.reduceLE, Int.reduceLT, Int.reduceToNat, reduceCtorEq, Nat.reduceEqDiff, reduceIte, aEnd]); first | done | (unfold LIM at *; omega))) ?_; simp only [↓aXs, ↓aX, ↓aList, ↓astep, ↓aThen, ↓aBlock, ↓AWp_eq, ↓acall_eq, push_cast, Nat.reduceBEq, Nat.reduceAdd, Nat.reduceMul, Nat.reduceSub, Nat.reduceLeDiff, Nat.reduceLT, Int.reduceLE, Int.reduceLT, Int.reduceToNat, reduceCtorEq, Nat.reduceEqDiff, reduceIte, aEnd]) | (refine acall_det rfl (oneEach_i cs hl hp) (by ((try simp only [↓aXs, ↓aX, ↓aList, ↓astep, ↓aThen, ↓aBlock, ↓AWp_eq, ↓acall_eq, push_cast, Nat.reduceBEq, Nat.reduceAdd, Nat.reduceMul, Nat.reduceSub, Nat.reduceLeDiff, Nat.reduceLT, Int.reduceLE, Int.reduceLT, Int.reduceToNat, reduceCtorEq, Nat.reduceEqDiff, reduceIte, aEnd]); try (first | (with_reducible trivial) | (with_reducible assumption) | omega | (simp_all; done) | (simp_all; omega)))) (by (first | (intro _; rfl) | (simp only [↓aXs, ↓aX, ↓aList, ↓astep, ↓aThen, ↓aBlock, ↓AWp_eq, ↓acall_eq, push_cast, Nat.reduceBEq, Nat.reduceAdd, Nat.reduceMul, Nat.reduceSub, Nat.reduceLeDiff, Nat.reduceLT, Int.reduceLE, Int.reduceLT, Int.reduceToNat, reduceCtorEq, Nat.reduceEqDiff, reduceIte, aEnd]; first | done | (with_reducible trivial) | (with_reducible assumption) | omega | (simp_all; done) | (simp_all; omega)))) (by ((try simp only [↓aXs, ↓aX, ↓aList, ↓astep, ↓aThen, ↓aBlock, ↓AWp_eq, ↓acall_eq, push_cast, Nat.reduceBEq, Nat.reduceAdd, Nat.reduceMul, Nat.reduceSub, Nat.reduceLeDiff, Nat.reduceLT, Int.reduceLE, Int.reduceLT, Int.reduceToNat, reduceCtorEq, Nat.reduceEqDiff, reduceIte, aEnd]); first | done | (unfold LIM at *; omega))) ?_; simp only [↓aXs, ↓aX, ↓aList, ↓astep, ↓aThen, ↓aBlock, ↓AWp_eq, ↓acall_eq, push_cast, Nat.reduceBEq, Nat.reduceAdd, Nat.reduceMul, Nat.reduceSub, Nat.reduceLeDiff, Nat.reduceLT, Int.reduceLE, Int.reduceLT, Int.reduceToNat, reduceCtorEq, Nat.reduceEqDiff, reduceIte, aEnd]) | (refine acall_det rfl (possible_i cs hl hp) (by ((try simp only [↓aXs, ↓aX, ↓aList, ↓astep, ↓aThen, ↓aBlock, ↓AWp_eq, ↓acall_eq, push_cast, Nat.reduceBEq, Nat.reduceAdd, Nat.reduceMul, Nat.reduceSub, Nat.reduceLeDiff, Nat.reduceLT, Int.reduceLE, Int.reduceLT, Int.reduceToNat, reduceCtorEq, Nat.reduceEqDiff, reduceIte, aEnd]); try (first | (with_reducible trivial) | (with_reducible assumption) | omega | (simp_all; done) | (simp_all; omega)))) (by (first | (intro _; rfl) | (simp only [↓aXs, ↓aX, ↓aList, ↓astep, ↓aThen, ↓aBlock, ↓AWp_eq, ↓acall_eq, push_cast, Nat.reduceBEq, Nat.reduceAdd, Nat.reduceMul, Nat.reduceSub, Nat.reduceLeDiff, Nat.reduceLT, Int.reduceLE, Int.reduceLT, Int.reduceToNat, reduceCtorEq, Nat.reduceEqDiff, reduceIte, aEnd]; first | done | (with_reducible trivial) | (with_reducible assumption) | omega | (simp_all; done) | (simp_all; omega)))) (by ((try simp only [↓aXs, ↓aX, ↓aList, ↓astep, ↓aThen, ↓aBlock, ↓AWp_eq, ↓acall_eq, push_cast, Nat.reduceBEq, Nat.reduceAdd, Nat.reduceMul, Nat.reduceSub, Nat.reduceLeDiff, Nat.reduceLT, Int.reduceLE, Int.reduceLT, Int.reduceToNat, reduceCtorEq, Nat.reduceEqDiff, reduceIte, aEnd]); first | done | (unfold LIM at *; omega))) ?_; simp only [↓aXs, ↓aX, ↓aList, ↓astep, ↓aThen, ↓aBlock, ↓AWp_eq, ↓acall_eq, push_cast, Nat.reduceBEq, Nat.reduceAdd, Nat.reduceMul, Nat.reduceSub, Nat.reduceLeDiff, Nat.reduceLT, Int.reduceLE, Int.reduceLT, Int.reduceToNat, reduceCtorEq, Nat.reduceEqDiff, reduceIte, aEnd]) | fail)
  all_goals rfl

theorem logOk_all {cs : List Cmd} (h : logOk cs = true) : ∀ c ∈ cs, cmdOk c = true := fun _ hc => logOk_mem h hc

theorem in_i (n lo hi : Int) : ACalls Tryd.prog 69 [.v (.int .i64 n), .v (.int .i64 lo), .v (.int .i64 hi)] 0 (fun r => r = .v (.bool (decide (lo ≤ n) && decide (n ≤ hi)))) := by
  refine acalls_of Tryd.func69 Tryd.ntmps69 (by kernel_rfl) rfl rfl fun X hP hN m hm => ?_
  repeat' (first | (with_reducible refine BWp.of ?_) | (with_reducible refine bcall.of ?_) | (with_reducible refine awp_seq ?_) | (with_reducible refine awp_block ?_) | ((first | (with_reducible refine awp_region' hP hN ?_; refine ⟨_, rfl, rfl, ?_⟩) | (with_reducible refine awp_ret ?_) | (with_reducible refine awp_skip ?_) | (with_reducible refine awp_exit ?_) | (with_reducible refine awp_label ?_)); simp only [↓aXs, ↓aX, ↓aList, ↓astep, ↓aThen, ↓aBlock, ↓AWp_eq, ↓acall_eq, push_cast, Nat.reduceBEq, Nat.reduceAdd, Nat.reduceMul, Nat.reduceSub, Nat.reduceLeDiff, Nat.reduceLT, Int.reduceLE, Int.reduceLT, Int.reduceToNat, reduceCtorEq, Nat.reduceEqDiff, reduceIte, aEnd]) | ((with_reducible refine And.intro ?_ ?_); (focus (first | (with_reducible trivial) | (with_reducible assumption) | omega | (simp_all; done) | (simp_all; omega)))) | (with_reducible exact Nat.le_refl _) | (with_reducible refine awp_cond' ?_; refine ⟨_, rfl, ?_, ?_⟩ <;> intro hc <;> (try simp only [↓aXs, ↓aX, ↓aList, ↓astep, ↓aThen, ↓aBlock, ↓AWp_eq, ↓acall_eq, push_cast, Nat.reduceBEq, Nat.reduceAdd, Nat.reduceMul, Nat.reduceSub, Nat.reduceLeDiff, Nat.reduceLT, Int.reduceLE, Int.reduceLT, Int.reduceToNat, reduceCtorEq, Nat.reduceEqDiff, reduceIte, aEnd] at hc) <;> (try contradiction) <;> (try omega)) | fail)
  all_goals rfl

theorem in_s (n lo hi : Int) : ACalls Tryd.prog 86 [.v (.int .i64 n), .v (.int .i64 lo), .v (.int .i64 hi)] 0 (fun r => r = .v (.bool (decide (lo ≤ n) && decide (n ≤ hi)))) := by
  refine acalls_of Tryd.func86 Tryd.ntmps86 (by kernel_rfl) rfl rfl fun X hP hN m hm => ?_
  repeat' (first | (with_reducible refine BWp.of ?_) | (with_reducible refine bcall.of ?_) | (with_reducible refine awp_seq ?_) | (with_reducible refine awp_block ?_) | ((first | (with_reducible refine awp_region' hP hN ?_; refine ⟨_, rfl, rfl, ?_⟩) | (with_reducible refine awp_ret ?_) | (with_reducible refine awp_skip ?_) | (with_reducible refine awp_exit ?_) | (with_reducible refine awp_label ?_)); simp only [↓aXs, ↓aX, ↓aList, ↓astep, ↓aThen, ↓aBlock, ↓AWp_eq, ↓acall_eq, push_cast, Nat.reduceBEq, Nat.reduceAdd, Nat.reduceMul, Nat.reduceSub, Nat.reduceLeDiff, Nat.reduceLT, Int.reduceLE, Int.reduceLT, Int.reduceToNat, reduceCtorEq, Nat.reduceEqDiff, reduceIte, aEnd]) | ((with_reducible refine And.intro ?_ ?_); (focus (first | (with_reducible trivial) | (with_reducible assumption) | omega | (simp_all; done) | (simp_all; omega)))) | (with_reducible exact Nat.le_refl _) | (with_reducible refine awp_cond' ?_; refine ⟨_, rfl, ?_, ?_⟩ <;> intro hc <;> (try simp only [↓aXs, ↓aX, ↓aList, ↓astep, ↓aThen, ↓aBlock, ↓AWp_eq, ↓acall_eq, push_cast, Nat.reduceBEq, Nat.reduceAdd, Nat.reduceMul, Nat.reduceSub, Nat.reduceLeDiff, Nat.reduceLT, Int.reduceLE, Int.reduceLT, Int.reduceToNat, reduceCtorEq, Nat.reduceEqDiff, reduceIte, aEnd] at hc) <;> (try contradiction) <;> (try omega)) | fail)
  all_goals rfl

def swapL (cs : List Cmd) (k : Nat) : List Cmd := match cs[k]?, cs[k + 1]? with
  | some x, some y => (cs.set k y).set (k + 1) x
  | _, _ => cs
noncomputable def swapF (cs : List Cmd) (k : Int) : List Cmd × Bool :=
  if (fitsB cs && (decide (0 ≤ k) && decide (k ≤ (cs.length : Int) - 2)) && bP (possP (swapL cs k.toNat))) = true then (swapL cs k.toNat, true) else ([], false)

theorem swap_form {cs : List Cmd} {k : Nat} {x y : Cmd} (hx : cs[k]? = some x) (hy : cs[k + 1]? = some y) : cs = cs.take k ++ x :: y :: cs.drop (k + 2) ∧ swapL cs k = cs.take k ++ y :: x :: cs.drop (k + 2) := by
  obtain ⟨h1, e1⟩ := List.getElem?_eq_some_iff.1 hx
  obtain ⟨h2, e2⟩ := List.getElem?_eq_some_iff.1 hy
  have hcs : cs = cs.take k ++ x :: y :: cs.drop (k + 2) := by
    rw [← e1, ← e2, List.getElem_cons_drop h2, List.getElem_cons_drop h1, List.take_append_drop]
  have hlen : (cs.take k).length = k := by simp; omega
  refine ⟨hcs, ?_⟩
  rw [swapL, hx, hy]
  simp only
  generalize cs.take k = A at hcs hlen
  generalize cs.drop (k + 2) = B at hcs
  subst hcs
  subst hlen
  simp [List.set_append]

theorem swap_perm {cs : List Cmd} {k : Nat} {x y : Cmd} (hx : cs[k]? = some x) (hy : cs[k + 1]? = some y) : (swapL cs k).Perm cs := by
  obtain ⟨h1, h2⟩ := swap_form hx hy
  rw [h2]
  conv => rhs; rw [h1]
  exact List.Perm.append_left _ (List.Perm.swap ..)

theorem swap_ok {cs : List Cmd} {k : Nat} {x y : Cmd} (hx : cs[k]? = some x) (hy : cs[k + 1]? = some y) : logOk (swapL cs k) = logOk cs ∧ (((swapL cs k).map (·.p)).Nodup ↔ (cs.map (·.p)).Nodup) := by
  have h := swap_perm hx hy
  refine ⟨?_, (h.map _).nodup_iff⟩
  unfold logOk
  rw [h.length_eq]
  congr 1
  exact h.all_eq

theorem swapF_no {cs : List Cmd} {k : Int} (h : (!fitsB cs || !(decide (0 ≤ k) && decide (k ≤ (cs.length : Int) - 2))) = true) : swapF cs k = ([], false) := by
  rw [swapF, if_neg]
  intro h2
  rw [Bool.and_eq_true, Bool.and_eq_true] at h2
  rw [h2.1.1, h2.1.2] at h
  cases h

theorem swap_state {cs : List Cmd} {n : Nat} {x y : Cmd} (hx : cs[n]? = some x) (hy : cs[n + 1]? = some y) :
    ((cs.map cmdV).set n (cmdV y)).set ((n : Int) + 1).toNat (repl ((((cs.map cmdV).set n (cmdV y))[((n : Int) + 1).toNat]?).getD undef) 0 (cmdV x).cells.toList) = (swapL cs n).map cmdV := by
  have e : ((n : Int) + 1).toNat = n + 1 := by omega
  rw [e, List.getElem?_set_ne (by omega), List.getElem?_map, hy, swapL, hx, hy]
  simp only [setc_con, Option.map_some, Option.getD_some]
  rfl

theorem swapF_in {cs : List Cmd} {k : Int} (h : (!fitsB cs || !(decide (0 ≤ k) && decide (k ≤ (cs.length : Int) - 2))) = false) : fitsB cs = true ∧ ∃ (n : Nat) (x y : Cmd), k = n ∧ cs[n]? = some x ∧ cs[n + 1]? = some y ∧ swapF cs k = if bP (possP (swapL cs n)) = true then (swapL cs n, true) else ([], false) := by
  rw [Bool.or_eq_false_iff, Bool.not_eq_false', Bool.not_eq_false', Bool.and_eq_true, decide_eq_true_eq, decide_eq_true_eq] at h
  obtain ⟨h1, h2, h3⟩ := h
  obtain ⟨n, rfl⟩ := Int.eq_ofNat_of_zero_le h2
  obtain ⟨x, hx⟩ := at_some (l := cs) (i := n) (by omega)
  obtain ⟨y, hy⟩ := at_some (l := cs) (i := n + 1) (by omega)
  refine ⟨h1, n, x, y, rfl, hx, hy, ?_⟩
  rw [swapF, h1, decide_eq_true h2, decide_eq_true h3]
  simp

theorem swapL_p {cs : List Cmd} {n : Nat} {x y : Cmd} (hx : cs[n]? = some x) (hy : cs[n + 1]? = some y) {L : Nat} (hp : ∀ c ∈ cs, c.p.length ≤ L) : ∀ c ∈ swapL cs n, c.p.length ≤ L := fun c hc => hp c ((swap_perm hx hy).mem_iff.1 hc)

theorem swapL_len {cs : List Cmd} {n : Nat} {x y : Cmd} (hx : cs[n]? = some x) (hy : cs[n + 1]? = some y) : (swapL cs n).length = cs.length := (swap_perm hx hy).length_eq

theorem swapL_fits {cs : List Cmd} {n : Nat} {x y : Cmd} (hx : cs[n]? = some x) (hy : cs[n + 1]? = some y) (h : fitsB cs = true) : fitsB (swapL cs n) = bP (possP (swapL cs n)) := by
  obtain ⟨h1, h2⟩ := swap_ok hx hy
  simp only [fitsB, Bool.and_eq_true] at h
  rw [fitsB, h1, bP_congr h2, h.1.1, h.1.2]
  rfl

end Go.Proofs.YtjafeamjgmacnaaDoor
