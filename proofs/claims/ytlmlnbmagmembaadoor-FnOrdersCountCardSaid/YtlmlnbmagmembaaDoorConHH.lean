import Derived.Test.YtlmlnbmagmembaaDoorConGG
set_option linter.unusedSimpArgs false
set_option maxRecDepth 10000
namespace Go.Proofs.YtlmlnbmagmembaaDoor
open Go Go.RowKit

/-- what is not used yet -/
def unL : List Cmd → List Bool → List Cmd
  | c :: cs, u :: us => if u = true then unL cs us else c :: unL cs us
  | _, _ => []

def boolV (b : Bool) : Value := .bool b

attribute [push_cast] boolV

theorem unL_sub : ∀ (cs : List Cmd) (us : List Bool), ∀ c ∈ unL cs us, c ∈ cs
  | [], us, c, h => by cases us <;> cases h
  | _ :: _, [], c, h => by cases h
  | x :: cs, u :: us, c, h => by
    unfold unL at h
    split at h
    · exact List.mem_cons_of_mem _ (unL_sub cs us c h)
    · rcases List.mem_cons.1 h with rfl | h
      · exact List.mem_cons_self
      · exact List.mem_cons_of_mem _ (unL_sub cs us c h)

theorem unL_mem : ∀ (cs : List Cmd) (us : List Bool) (i : Nat) (c : Cmd), cs[i]? = some c → us[i]? = some false → c ∈ unL cs us
  | [], us, i, c, h, _ => by simp at h
  | _ :: _, [], i, c, _, h => by simp at h
  | x :: cs, u :: us, 0, c, h, h2 => by
    simp at h h2
    subst h; subst h2
    simp [unL]
  | x :: cs, u :: us, i + 1, c, h, h2 => by
    have := unL_mem cs us i c (by simpa using h) (by simpa using h2)
    unfold unL
    split
    · exact this
    · exact List.mem_cons_of_mem _ this

theorem unL_at : ∀ (cs : List Cmd) (us : List Bool) (c : Cmd), c ∈ unL cs us → ∃ i : Nat, cs[i]? = some c ∧ us[i]? = some false
  | [], us, c, h => by cases us <;> cases h
  | _ :: _, [], c, h => by cases h
  | x :: cs, u :: us, c, h => by
    unfold unL at h
    split at h
    · obtain ⟨i, h1, h2⟩ := unL_at cs us c h
      exact ⟨i + 1, by simpa using h1, by simpa using h2⟩
    · rename_i hu
      rcases List.mem_cons.1 h with rfl | h
      · exact ⟨0, rfl, by simp at hu; simp [hu]⟩
      · obtain ⟨i, h1, h2⟩ := unL_at cs us c h
        exact ⟨i + 1, by simpa using h1, by simpa using h2⟩

/-- a round of the count at one place -/
def posF (cs : List Cmd) (us : List Bool) (f : Cmd × List Cmd → Nat) (i : Nat) : Nat := match cs[i]?, us[i]? with
  | some c, some false => f (c, unL cs (us.set i true))
  | _, _ => 0

theorem pos_sum : ∀ (cs : List Cmd) (us : List Bool) (f : Cmd × List Cmd → Nat), cs.length = us.length → ((List.range cs.length).map (posF cs us f)).sum = ((sels (unL cs us)).map f).sum
  | [], us, f, _ => by
    cases us <;> rfl
  | c :: cs, [], f, h => by simp at h
  | c :: cs, u :: us, f, h => by
    have hl : cs.length = us.length := by simpa using h
    rw [List.length_cons, List.range_succ_eq_map, List.map_cons, List.sum_cons, List.map_map]
    cases u with
    | true =>
      have e : unL (c :: cs) (true :: us) = unL cs us := by rw [unL, if_pos rfl]
      have hr : (posF (c :: cs) (true :: us) f ∘ Nat.succ) = posF cs us f := by
        funext i
        simp only [Function.comp, posF, List.getElem?_cons_succ, List.set_cons_succ]
        rw [show ∀ v, unL (c :: cs) (true :: v) = unL cs v from fun v => by rw [unL, if_pos rfl]]
      rw [e, hr, pos_sum cs us f hl]
      simp [posF]
    | false =>
      have e : ∀ v, unL (c :: cs) (false :: v) = c :: unL cs v := fun v => by rw [unL, if_neg (by simp)]
      have hr : (posF (c :: cs) (false :: us) f ∘ Nat.succ) = posF cs us (f ∘ fun p => (p.1, c :: p.2)) := by
        funext i
        simp only [Function.comp, posF, List.getElem?_cons_succ, List.set_cons_succ, e]
      rw [e, sels, List.map_cons, List.sum_cons, List.map_map, hr, pos_sum cs us _ hl]
      congr 1

theorem mustI_self (c : Cmd) : mustI c c = false := by simp [mustI, under_irrefl]

theorem unL_set_len : ∀ (cs : List Cmd) (us : List Bool) (i : Nat) (c : Cmd), cs[i]? = some c → us[i]? = some false → (unL cs us).Perm (c :: unL cs (us.set i true))
  | [], us, i, c, h, _ => by simp at h
  | _ :: _, [], i, c, _, h => by simp at h
  | x :: cs, u :: us, 0, c, h, h2 => by
    simp at h h2
    subst h; subst h2
    simp [unL]
  | x :: cs, u :: us, i + 1, c, h, h2 => by
    have := unL_set_len cs us i c (by simpa using h) (by simpa using h2)
    rw [List.set_cons_succ]
    cases u with
    | true => rw [unL, if_pos rfl, unL, if_pos rfl]; exact this
    | false =>
      rw [unL, if_neg (by simp), unL, if_neg (by simp)]
      exact (List.Perm.cons x this).trans (List.Perm.swap _ _ _)

def freeF (cs : List Cmd) (us : List Bool) (c : Cmd) (u : Bool) : Bool := (unL cs us).all (fun r => !mustI r c) && !u

theorem bool_elt (us : List Bool) : ∀ y ∈ us.map boolV, EltOk 1 y := fun y hy => by
  obtain ⟨b, _, rfl⟩ := List.mem_map.1 hy
  simp [EltOk, boolV, Value.cells, Value.oneCell']

theorem free_s (cs : List Cmd) (us : List Bool) (k : Nat) (c : Cmd) (u : Bool) (hl : cs.length = us.length) (hl2 : cs.length ≤ 100) (hv : ∀ c ∈ cs, cmdOk c = true) (hcc : cs[k]? = some c) (hu : us[k]? = some u) :
    ACalls Tryd.prog 122 [.sl 5 (cs.map cmdV), .sl 1 (us.map boolV), .v (.int .i64 (k : Nat))] 0 (fun r => r = .v (.bool (freeF cs us c u))) := by
  have hk := (List.getElem?_eq_some_iff.1 hcc).1
  refine acalls_of Tryd.func122 Tryd.ntmps122 (by kernel_rfl) rfl rfl fun X hP hN m hm => ?_
  repeat' (first | (with_reducible refine BWp.of ?_) | (with_reducible refine bcall.of ?_) | (with_reducible refine awp_seq ?_) | (with_reducible refine awp_block ?_) | ((first | (with_reducible refine awp_region' hP hN ?_; refine ⟨_, rfl, rfl, ?_⟩) | (with_reducible refine awp_ret ?_) | (with_reducible refine awp_skip ?_) | (with_reducible refine awp_exit ?_) | (with_reducible refine awp_label ?_)); simp only [↓aXs, ↓aX, ↓aList, ↓astep, ↓aThen, ↓aBlock, ↓AWp_eq, ↓acall_eq, push_cast, Nat.reduceBEq, Nat.reduceAdd, Nat.reduceMul, Nat.reduceSub, Nat.reduceLeDiff, Nat.reduceLT, Int.reduceLE, Int.reduceLT, Int.reduceToNat, reduceCtorEq, Nat.reduceEqDiff, reduceIte, aEnd]) | ((with_reducible refine And.intro ?_ ?_); (focus (first | (with_reducible trivial) | (with_reducible assumption) | omega | (simp_all; done) | (simp_all; omega)))) | (with_reducible exact Nat.le_refl _) | (with_reducible refine awp_cond' ?_; refine ⟨_, rfl, ?_, ?_⟩ <;> intro hc <;> (try simp only [↓aXs, ↓aX, ↓aList, ↓astep, ↓aThen, ↓aBlock, ↓AWp_eq, ↓acall_eq, push_cast, Nat.reduceBEq, Nat.reduceAdd, Nat.reduceMul, Nat.reduceSub, Nat.reduceLeDiff, Nat.reduceLT, Int.reduceLE, Int.reduceLT, Int.reduceToNat, reduceCtorEq, Nat.reduceEqDiff, reduceIte, aEnd] at hc) <;> (try contradiction) <;> (try omega)) | fail)
  refine awp_loop (fun i : Nat => i ≤ cs.length ∧ ∀ (j : Nat) x, j < i → cs[j]? = some x → us[j]? = some false → mustI x c = false)
    (fun i => ⟨[(7, .v (.int .i64 (i : Nat))), (2, .v (.int .i64 (k : Nat))), (1, .sl 1 (us.map boolV)), (0, .sl 5 (cs.map cmdV))], m⟩) (fun i => cs.length - i)
    ⟨0, ⟨Nat.zero_le _, fun j x h => absurd h (Nat.not_lt_zero _)⟩, les_of [] hP (by decide) (by decide) (Nat.le_refl _) (by simp only [↓aXs, ↓aX, ↓aList, ↓astep, ↓aThen, ↓aBlock, ↓AWp_eq, ↓acall_eq, push_cast, Nat.reduceBEq, Nat.reduceAdd, Nat.reduceMul, Nat.reduceSub, Nat.reduceLeDiff, Nat.reduceLT, Int.reduceLE, Int.reduceLT, Int.reduceToNat, reduceCtorEq, Nat.reduceEqDiff, reduceIte, aEnd] <;> simp)⟩ ?_
  intro i ⟨g1, g2⟩
  rcases Nat.lt_or_ge i cs.length with hlt | hge
  · obtain ⟨x, hx⟩ := at_some hlt
    obtain ⟨v, hvv⟩ := at_some (l := us) (i := i) (by omega)
    have hm0 := must0_s x c
    rw [must_eq (hv x (List.mem_of_getElem? hx)) (hv c (List.mem_of_getElem? hcc))] at hm0
    repeat' (first | (with_reducible refine BWp.of ?_) | (with_reducible refine bcall.of ?_) | (with_reducible refine awp_seq ?_) | (with_reducible refine awp_block ?_) | ((first | (with_reducible refine awp_region' hP hN ?_; refine ⟨_, rfl, rfl, ?_⟩) | (with_reducible refine awp_ret ?_) | (with_reducible refine awp_skip ?_) | (with_reducible refine awp_exit ?_) | (with_reducible refine awp_label ?_)); simp only [↓aXs, ↓aX, ↓aList, ↓astep, ↓aThen, ↓aBlock, ↓AWp_eq, ↓acall_eq, push_cast, Nat.reduceBEq, Nat.reduceAdd, Nat.reduceMul, Nat.reduceSub, Nat.reduceLeDiff, Nat.reduceLT, Int.reduceLE, Int.reduceLT, Int.reduceToNat, reduceCtorEq, Nat.reduceEqDiff, reduceIte, aEnd, hx, hvv, hcc]) | ((with_reducible refine And.intro ?_ ?_); (focus (first | (with_reducible trivial) | (with_reducible assumption) | omega | (simp_all; done) | (simp_all; omega)))) | (with_reducible exact Nat.le_refl _) | (with_reducible refine awp_cond' ?_; refine ⟨_, rfl, ?_, ?_⟩ <;> intro hc <;> (try simp only [↓aXs, ↓aX, ↓aList, ↓astep, ↓aThen, ↓aBlock, ↓AWp_eq, ↓acall_eq, push_cast, Nat.reduceBEq, Nat.reduceAdd, Nat.reduceMul, Nat.reduceSub, Nat.reduceLeDiff, Nat.reduceLT, Int.reduceLE, Int.reduceLT, Int.reduceToNat, reduceCtorEq, Nat.reduceEqDiff, reduceIte, aEnd, hx, hvv, hcc] at hc) <;> (try contradiction) <;> (try omega)) | fail)
    refine awp_draw hP hN 16 (by rfl) (by kernel_rfl) (by rfl) ?_
    simp only [↓aXs, ↓aX, ↓aList, ↓astep, ↓aThen, ↓aBlock, ↓AWp_eq, ↓acall_eq, push_cast, Nat.reduceBEq, Nat.reduceAdd, Nat.reduceMul, Nat.reduceSub, Nat.reduceLeDiff, Nat.reduceLT, Int.reduceLE, Int.reduceLT, Int.reduceToNat, reduceCtorEq, Nat.reduceEqDiff, reduceIte, aEnd, hx, hvv, hcc]
    repeat' (first | (with_reducible refine BWp.of ?_) | (with_reducible refine bcall.of ?_) | (with_reducible refine awp_seq ?_) | (with_reducible refine awp_block ?_) | ((first | (with_reducible refine awp_region' hP hN ?_; refine ⟨_, rfl, rfl, ?_⟩) | (with_reducible refine awp_ret ?_) | (with_reducible refine awp_skip ?_) | (with_reducible refine awp_exit ?_) | (with_reducible refine awp_label ?_)); simp only [↓aXs, ↓aX, ↓aList, ↓astep, ↓aThen, ↓aBlock, ↓AWp_eq, ↓acall_eq, push_cast, Nat.reduceBEq, Nat.reduceAdd, Nat.reduceMul, Nat.reduceSub, Nat.reduceLeDiff, Nat.reduceLT, Int.reduceLE, Int.reduceLT, Int.reduceToNat, reduceCtorEq, Nat.reduceEqDiff, reduceIte, aEnd, hx, hvv, hcc]) | ((with_reducible refine And.intro ?_ ?_); (focus (first | (with_reducible trivial) | (with_reducible assumption) | omega | (simp_all; done) | (simp_all; omega)))) | (with_reducible exact Nat.le_refl _) | (with_reducible refine awp_cond' ?_; refine ⟨_, rfl, ?_, ?_⟩ <;> intro hc <;> (try simp only [↓aXs, ↓aX, ↓aList, ↓astep, ↓aThen, ↓aBlock, ↓AWp_eq, ↓acall_eq, push_cast, Nat.reduceBEq, Nat.reduceAdd, Nat.reduceMul, Nat.reduceSub, Nat.reduceLeDiff, Nat.reduceLT, Int.reduceLE, Int.reduceLT, Int.reduceToNat, reduceCtorEq, Nat.reduceEqDiff, reduceIte, aEnd, hx, hvv, hcc] at hc) <;> (try contradiction) <;> (try omega)) | (refine acall_det rfl (hm0) (by ((try simp only [↓aXs, ↓aX, ↓aList, ↓astep, ↓aThen, ↓aBlock, ↓AWp_eq, ↓acall_eq, push_cast, Nat.reduceBEq, Nat.reduceAdd, Nat.reduceMul, Nat.reduceSub, Nat.reduceLeDiff, Nat.reduceLT, Int.reduceLE, Int.reduceLT, Int.reduceToNat, reduceCtorEq, Nat.reduceEqDiff, reduceIte, aEnd, hx, hvv, hcc]); try (first | (with_reducible trivial) | (with_reducible assumption) | omega | (simp_all; done) | (simp_all; omega)))) (by (first | (intro _; rfl) | (simp only [↓aXs, ↓aX, ↓aList, ↓astep, ↓aThen, ↓aBlock, ↓AWp_eq, ↓acall_eq, push_cast, Nat.reduceBEq, Nat.reduceAdd, Nat.reduceMul, Nat.reduceSub, Nat.reduceLeDiff, Nat.reduceLT, Int.reduceLE, Int.reduceLT, Int.reduceToNat, reduceCtorEq, Nat.reduceEqDiff, reduceIte, aEnd, hx, hvv, hcc]; first | done | (with_reducible trivial) | (with_reducible assumption) | omega | (simp_all; done) | (simp_all; omega)))) (by ((try simp only [↓aXs, ↓aX, ↓aList, ↓astep, ↓aThen, ↓aBlock, ↓AWp_eq, ↓acall_eq, push_cast, Nat.reduceBEq, Nat.reduceAdd, Nat.reduceMul, Nat.reduceSub, Nat.reduceLeDiff, Nat.reduceLT, Int.reduceLE, Int.reduceLT, Int.reduceToNat, reduceCtorEq, Nat.reduceEqDiff, reduceIte, aEnd, hx, hvv, hcc]); first | done | (unfold LIM at *; omega))) ?_; simp only [↓aXs, ↓aX, ↓aList, ↓astep, ↓aThen, ↓aBlock, ↓AWp_eq, ↓acall_eq, push_cast, Nat.reduceBEq, Nat.reduceAdd, Nat.reduceMul, Nat.reduceSub, Nat.reduceLeDiff, Nat.reduceLT, Int.reduceLE, Int.reduceLT, Int.reduceToNat, reduceCtorEq, Nat.reduceEqDiff, reduceIte, aEnd, hx, hvv, hcc]) | fail)
    · have h2 : v = false ∧ mustI x c = true := by simpa using hc
      have hno : (unL cs us).all (fun r => !mustI r c) = false := List.all_eq_false.2 ⟨x, unL_mem cs us i x hx (by rw [hvv, h2.1]), by simp [h2.2]⟩
      rw [freeF, hno]; rfl
    · refine ⟨i + 1, ⟨by omega, fun j y hj hy hy2 => ?_⟩, by omega, les_of [] hP (by decide) (by decide) (Nat.le_refl _) (by simp only [↓aXs, ↓aX, ↓aList, ↓astep, ↓aThen, ↓aBlock, ↓AWp_eq, ↓acall_eq, push_cast, Nat.reduceBEq, Nat.reduceAdd, Nat.reduceMul, Nat.reduceSub, Nat.reduceLeDiff, Nat.reduceLT, Int.reduceLE, Int.reduceLT, Int.reduceToNat, reduceCtorEq, Nat.reduceEqDiff, reduceIte, aEnd] <;> simp)⟩
      by_cases hji : j = i
      · subst hji
        rw [hx] at hy
        rw [hvv] at hy2
        cases hy; cases hy2
        simpa using hc
      · exact g2 j y (by omega) hy hy2
  · repeat' (first | (with_reducible refine BWp.of ?_) | (with_reducible refine bcall.of ?_) | (with_reducible refine awp_seq ?_) | (with_reducible refine awp_block ?_) | ((first | (with_reducible refine awp_region' hP hN ?_; refine ⟨_, rfl, rfl, ?_⟩) | (with_reducible refine awp_ret ?_) | (with_reducible refine awp_skip ?_) | (with_reducible refine awp_exit ?_) | (with_reducible refine awp_label ?_)); simp only [↓aXs, ↓aX, ↓aList, ↓astep, ↓aThen, ↓aBlock, ↓AWp_eq, ↓acall_eq, push_cast, Nat.reduceBEq, Nat.reduceAdd, Nat.reduceMul, Nat.reduceSub, Nat.reduceLeDiff, Nat.reduceLT, Int.reduceLE, Int.reduceLT, Int.reduceToNat, reduceCtorEq, Nat.reduceEqDiff, reduceIte, aEnd, hu]) | ((with_reducible refine And.intro ?_ ?_); (focus (first | (with_reducible trivial) | (with_reducible assumption) | omega | (simp_all; done) | (simp_all; omega)))) | (with_reducible exact Nat.le_refl _) | (with_reducible refine awp_cond' ?_; refine ⟨_, rfl, ?_, ?_⟩ <;> intro hc <;> (try simp only [↓aXs, ↓aX, ↓aList, ↓astep, ↓aThen, ↓aBlock, ↓AWp_eq, ↓acall_eq, push_cast, Nat.reduceBEq, Nat.reduceAdd, Nat.reduceMul, Nat.reduceSub, Nat.reduceLeDiff, Nat.reduceLT, Int.reduceLE, Int.reduceLT, Int.reduceToNat, reduceCtorEq, Nat.reduceEqDiff, reduceIte, aEnd, hu] at hc) <;> (try contradiction) <;> (try omega)) | fail)
    have hall : (unL cs us).all (fun r => !mustI r c) = true := List.all_eq_true.2 fun r hr => by
      obtain ⟨j, h1, h2⟩ := unL_at cs us r hr
      have := (List.getElem?_eq_some_iff.1 h1).1
      rw [g2 j r (by omega) h1 h2]; rfl
    rw [freeF, hall]; simp

theorem count_s (cs : List Cmd) (hl2 : cs.length ≤ 6) (hv : ∀ c ∈ cs, cmdOk c = true) : ∀ (n : Nat) (us : List Bool), cs.length = us.length → (unL cs us).length = n → n ≤ 6 →
    ACalls Tryd.prog 85 [.sl 5 (cs.map cmdV), .sl 1 (us.map boolV), .v (.int .i64 (n : Nat))] 0 (fun r => r = .v (.int .i64 (ordS n (unL cs us) : Nat)))
  | 0, us, hl, hn, _ => by
    refine acalls_of Tryd.func85 Tryd.ntmps85 (by kernel_rfl) rfl rfl fun X hP hN m hm => ?_
    repeat' (first | (with_reducible refine BWp.of ?_) | (with_reducible refine bcall.of ?_) | (with_reducible refine awp_seq ?_) | (with_reducible refine awp_block ?_) | ((first | (with_reducible refine awp_region' hP hN ?_; refine ⟨_, rfl, rfl, ?_⟩) | (with_reducible refine awp_ret ?_) | (with_reducible refine awp_skip ?_) | (with_reducible refine awp_exit ?_) | (with_reducible refine awp_label ?_)); simp only [↓aXs, ↓aX, ↓aList, ↓astep, ↓aThen, ↓aBlock, ↓AWp_eq, ↓acall_eq, push_cast, Nat.reduceBEq, Nat.reduceAdd, Nat.reduceMul, Nat.reduceSub, Nat.reduceLeDiff, Nat.reduceLT, Int.reduceLE, Int.reduceLT, Int.reduceToNat, reduceCtorEq, Nat.reduceEqDiff, reduceIte, aEnd]) | ((with_reducible refine And.intro ?_ ?_); (focus (first | (with_reducible trivial) | (with_reducible assumption) | omega | (simp_all; done) | (simp_all; omega)))) | (with_reducible exact Nat.le_refl _) | (with_reducible refine awp_cond' ?_; refine ⟨_, rfl, ?_, ?_⟩ <;> intro hc <;> (try simp only [↓aXs, ↓aX, ↓aList, ↓astep, ↓aThen, ↓aBlock, ↓AWp_eq, ↓acall_eq, push_cast, Nat.reduceBEq, Nat.reduceAdd, Nat.reduceMul, Nat.reduceSub, Nat.reduceLeDiff, Nat.reduceLT, Int.reduceLE, Int.reduceLT, Int.reduceToNat, reduceCtorEq, Nat.reduceEqDiff, reduceIte, aEnd] at hc) <;> (try contradiction) <;> (try omega)) | fail)
    rfl
  | n + 1, us, hl, hn, h6 => by
    have ih := count_s cs hl2 hv n
    have hf := fac_le n (by omega)
    have hle : ∀ (n : Nat) (rest : List Cmd), rest.length = n → ordS n rest ≤ fac n := fun n rest h => by
      rw [← ordI_ordS n [] rest h List.Pairwise.nil (fun _ h => by cases h)]
      exact ordI_le n [] rest h
    let F : Cmd × List Cmd → Nat := fun p => if p.2.all (fun r => !mustI r p.1) = true then ordS n p.2 else 0
    have hord : ordS (n + 1) (unL cs us) = ((List.range cs.length).map (posF cs us F)).sum := (pos_sum cs us F hl).symm
    have hstep : ∀ i, (((List.range (i + 1)).map (posF cs us F)).sum) = ((List.range i).map (posF cs us F)).sum + posF cs us F i := fun i => by
      rw [List.range_succ, List.map_append, List.sum_append]
      simp
    have hpos : ∀ (i : Nat) c u, cs[i]? = some c → us[i]? = some u → posF cs us F i = if freeF cs us c u = true then ordS n (unL cs (us.set i true)) else 0 := fun i c u h1 h2 => by
      cases u with
      | true => simp [posF, h1, h2, freeF]
      | false =>
        have hp := unL_set_len cs us i c h1 h2
        have hall : (unL cs us).all (fun r => !mustI r c) = (unL cs (us.set i true)).all (fun r => !mustI r c) := by
          rw [Bool.eq_iff_iff, List.all_eq_true, List.all_eq_true]
          constructor
          · exact fun h r hr => h r (hp.mem_iff.2 (List.mem_cons_of_mem _ hr))
          · intro h r hr
            rcases List.mem_cons.1 (hp.mem_iff.1 hr) with rfl | hr
            · rw [mustI_self]; rfl
            · exact h r hr
        simp only [posF, h1, h2, freeF, hall, Bool.not_false, Bool.and_true]
        rfl
    have hterm : ∀ (i : Nat) c u, cs[i]? = some c → us[i]? = some u → freeF cs us c u = true → (unL cs (us.set i true)).length = n ∧ u = false := fun i c u h1 h2 h3 => by
      have hu : u = false := by
        simp only [freeF, Bool.and_eq_true, Bool.not_eq_true'] at h3
        exact h3.2
      subst hu
      have := (unL_set_len cs us i c h1 h2).length_eq
      rw [List.length_cons] at this
      exact ⟨by omega, rfl⟩
    have hb : ∀ i, i ≤ cs.length → ((List.range i).map (posF cs us F)).sum ≤ 720 * i := fun i => by
      induction i with
      | zero => intro _; simp
      | succ i ihb =>
        intro hi
        obtain ⟨c, h1⟩ := at_some (l := cs) (i := i) (by omega)
        obtain ⟨u, h2⟩ := at_some (l := us) (i := i) (by omega)
        have hp := hpos i c u h1 h2
        have hle2 : posF cs us F i ≤ 720 := by
          rw [hp]
          split
          · rename_i h3
            exact Nat.le_trans (hle n _ (hterm i c u h1 h2 h3).1) hf
          · exact Nat.zero_le _
        rw [hstep]
        have := ihb (by omega)
        omega
    rw [hord]
    generalize hG : posF cs us F = G at *
    refine acalls_of Tryd.func85 Tryd.ntmps85 (by kernel_rfl) rfl rfl fun X hP hN m hm => ?_
    repeat' (first | (with_reducible refine BWp.of ?_) | (with_reducible refine bcall.of ?_) | (with_reducible refine awp_seq ?_) | (with_reducible refine awp_block ?_) | ((first | (with_reducible refine awp_region' hP hN ?_; refine ⟨_, rfl, rfl, ?_⟩) | (with_reducible refine awp_ret ?_) | (with_reducible refine awp_skip ?_) | (with_reducible refine awp_exit ?_) | (with_reducible refine awp_label ?_)); simp only [↓aXs, ↓aX, ↓aList, ↓astep, ↓aThen, ↓aBlock, ↓AWp_eq, ↓acall_eq, push_cast, Nat.reduceBEq, Nat.reduceAdd, Nat.reduceMul, Nat.reduceSub, Nat.reduceLeDiff, Nat.reduceLT, Int.reduceLE, Int.reduceLT, Int.reduceToNat, reduceCtorEq, Nat.reduceEqDiff, reduceIte, aEnd]) | ((with_reducible refine And.intro ?_ ?_); (focus (first | (with_reducible trivial) | (with_reducible assumption) | omega | (simp_all; done) | (simp_all; omega)))) | (with_reducible exact Nat.le_refl _) | (with_reducible refine awp_cond' ?_; refine ⟨_, rfl, ?_, ?_⟩ <;> intro hc <;> (try simp only [↓aXs, ↓aX, ↓aList, ↓astep, ↓aThen, ↓aBlock, ↓AWp_eq, ↓acall_eq, push_cast, Nat.reduceBEq, Nat.reduceAdd, Nat.reduceMul, Nat.reduceSub, Nat.reduceLeDiff, Nat.reduceLT, Int.reduceLE, Int.reduceLT, Int.reduceToNat, reduceCtorEq, Nat.reduceEqDiff, reduceIte, aEnd] at hc) <;> (try contradiction) <;> (try omega)) | fail)
    refine awp_loop (fun i : Nat => i ≤ cs.length)
      (fun i => ⟨[(8, .v (.int .i64 (i : Nat))), (7, .v (.int .i64 (((List.range i).map G).sum : Nat))), (2, .v (.int .i64 ((n : Int) + 1))), (1, .sl 1 (us.map boolV)), (0, .sl 5 (cs.map cmdV))], m⟩) (fun i => cs.length - i)
      ⟨0, Nat.zero_le _, les_of [] hP (by decide) (by decide) (Nat.le_refl _) (by simp only [↓aXs, ↓aX, ↓aList, ↓astep, ↓aThen, ↓aBlock, ↓AWp_eq, ↓acall_eq, push_cast, Nat.reduceBEq, Nat.reduceAdd, Nat.reduceMul, Nat.reduceSub, Nat.reduceLeDiff, Nat.reduceLT, Int.reduceLE, Int.reduceLT, Int.reduceToNat, reduceCtorEq, Nat.reduceEqDiff, reduceIte, aEnd] <;> simp)⟩ ?_
    intro i g1
    rcases Nat.lt_or_ge i cs.length with hlt | hge
    · obtain ⟨c, hcc⟩ := at_some hlt
      obtain ⟨u, huu⟩ := at_some (l := us) (i := i) (by omega)
      have hfr := free_s cs us i c u hl (by omega) hv hcc huu
      have hsi := hstep i
      rw [hpos i c u hcc huu] at hsi
      have hbi := hb i (by omega)
      cases hfree : freeF cs us c u with
      | false =>
        rw [hfree] at hfr hsi
        repeat' (first | (with_reducible refine BWp.of ?_) | (with_reducible refine bcall.of ?_) | (with_reducible refine awp_seq ?_) | (with_reducible refine awp_block ?_) | ((first | (with_reducible refine awp_region' hP hN ?_; refine ⟨_, rfl, rfl, ?_⟩) | (with_reducible refine awp_ret ?_) | (with_reducible refine awp_skip ?_) | (with_reducible refine awp_exit ?_) | (with_reducible refine awp_label ?_)); simp only [↓aXs, ↓aX, ↓aList, ↓astep, ↓aThen, ↓aBlock, ↓AWp_eq, ↓acall_eq, push_cast, Nat.reduceBEq, Nat.reduceAdd, Nat.reduceMul, Nat.reduceSub, Nat.reduceLeDiff, Nat.reduceLT, Int.reduceLE, Int.reduceLT, Int.reduceToNat, reduceCtorEq, Nat.reduceEqDiff, reduceIte, aEnd]) | ((with_reducible refine And.intro ?_ ?_); (focus (first | (with_reducible trivial) | (with_reducible assumption) | omega | (simp_all; done) | (simp_all; omega)))) | (with_reducible exact Nat.le_refl _) | (with_reducible refine awp_cond' ?_; refine ⟨_, rfl, ?_, ?_⟩ <;> intro hc <;> (try simp only [↓aXs, ↓aX, ↓aList, ↓astep, ↓aThen, ↓aBlock, ↓AWp_eq, ↓acall_eq, push_cast, Nat.reduceBEq, Nat.reduceAdd, Nat.reduceMul, Nat.reduceSub, Nat.reduceLeDiff, Nat.reduceLT, Int.reduceLE, Int.reduceLT, Int.reduceToNat, reduceCtorEq, Nat.reduceEqDiff, reduceIte, aEnd] at hc) <;> (try contradiction) <;> (try omega)) | (refine acall_det rfl (hfr) (by ((try simp only [↓aXs, ↓aX, ↓aList, ↓astep, ↓aThen, ↓aBlock, ↓AWp_eq, ↓acall_eq, push_cast, Nat.reduceBEq, Nat.reduceAdd, Nat.reduceMul, Nat.reduceSub, Nat.reduceLeDiff, Nat.reduceLT, Int.reduceLE, Int.reduceLT, Int.reduceToNat, reduceCtorEq, Nat.reduceEqDiff, reduceIte, aEnd]); try (first | (with_reducible trivial) | (with_reducible assumption) | omega | (simp_all; done) | (simp_all; omega)))) (by (first | (intro _; rfl) | (simp only [↓aXs, ↓aX, ↓aList, ↓astep, ↓aThen, ↓aBlock, ↓AWp_eq, ↓acall_eq, push_cast, Nat.reduceBEq, Nat.reduceAdd, Nat.reduceMul, Nat.reduceSub, Nat.reduceLeDiff, Nat.reduceLT, Int.reduceLE, Int.reduceLT, Int.reduceToNat, reduceCtorEq, Nat.reduceEqDiff, reduceIte, aEnd]; first | done | (with_reducible trivial) | (with_reducible assumption) | omega | (simp_all; done) | (simp_all; omega)))) (by ((try simp only [↓aXs, ↓aX, ↓aList, ↓astep, ↓aThen, ↓aBlock, ↓AWp_eq, ↓acall_eq, push_cast, Nat.reduceBEq, Nat.reduceAdd, Nat.reduceMul, Nat.reduceSub, Nat.reduceLeDiff, Nat.reduceLT, Int.reduceLE, Int.reduceLT, Int.reduceToNat, reduceCtorEq, Nat.reduceEqDiff, reduceIte, aEnd]); first | done | (unfold LIM at *; omega))) ?_; simp only [↓aXs, ↓aX, ↓aList, ↓astep, ↓aThen, ↓aBlock, ↓AWp_eq, ↓acall_eq, push_cast, Nat.reduceBEq, Nat.reduceAdd, Nat.reduceMul, Nat.reduceSub, Nat.reduceLeDiff, Nat.reduceLT, Int.reduceLE, Int.reduceLT, Int.reduceToNat, reduceCtorEq, Nat.reduceEqDiff, reduceIte, aEnd]) | fail)
        exact ⟨i + 1, by omega, by omega, les_of [] hP (by decide) (by decide) (Nat.le_refl _) (by simp only [↓aXs, ↓aX, ↓aList, ↓astep, ↓aThen, ↓aBlock, ↓AWp_eq, ↓acall_eq, push_cast, Nat.reduceBEq, Nat.reduceAdd, Nat.reduceMul, Nat.reduceSub, Nat.reduceLeDiff, Nat.reduceLT, Int.reduceLE, Int.reduceLT, Int.reduceToNat, reduceCtorEq, Nat.reduceEqDiff, reduceIte, aEnd] <;> simp [hsi])⟩
      | true =>
        rw [hfree] at hfr hsi
        obtain ⟨ht1, ht2⟩ := hterm i c u hcc huu hfree
        have hrec := ih (us.set i true) (by simp; omega) ht1 (by omega)
        rw [List.map_set] at hrec
        have hrb := Nat.le_trans (hle n _ ht1) hf
        repeat' (first | (with_reducible refine BWp.of ?_) | (with_reducible refine bcall.of ?_) | (with_reducible refine awp_seq ?_) | (with_reducible refine awp_block ?_) | ((first | (with_reducible refine awp_region' hP hN ?_; refine ⟨_, rfl, rfl, ?_⟩) | (with_reducible refine awp_ret ?_) | (with_reducible refine awp_skip ?_) | (with_reducible refine awp_exit ?_) | (with_reducible refine awp_label ?_)); simp only [↓aXs, ↓aX, ↓aList, ↓astep, ↓aThen, ↓aBlock, ↓AWp_eq, ↓acall_eq, push_cast, Nat.reduceBEq, Nat.reduceAdd, Nat.reduceMul, Nat.reduceSub, Nat.reduceLeDiff, Nat.reduceLT, Int.reduceLE, Int.reduceLT, Int.reduceToNat, reduceCtorEq, Nat.reduceEqDiff, reduceIte, aEnd]) | ((with_reducible refine And.intro ?_ ?_); (focus (first | (with_reducible trivial) | (with_reducible assumption) | omega | (simp_all; done) | (simp_all; omega)))) | (with_reducible exact Nat.le_refl _) | (with_reducible refine awp_cond' ?_; refine ⟨_, rfl, ?_, ?_⟩ <;> intro hc <;> (try simp only [↓aXs, ↓aX, ↓aList, ↓astep, ↓aThen, ↓aBlock, ↓AWp_eq, ↓acall_eq, push_cast, Nat.reduceBEq, Nat.reduceAdd, Nat.reduceMul, Nat.reduceSub, Nat.reduceLeDiff, Nat.reduceLT, Int.reduceLE, Int.reduceLT, Int.reduceToNat, reduceCtorEq, Nat.reduceEqDiff, reduceIte, aEnd] at hc) <;> (try contradiction) <;> (try omega)) | (refine acall_det rfl (hfr) (by ((try simp only [↓aXs, ↓aX, ↓aList, ↓astep, ↓aThen, ↓aBlock, ↓AWp_eq, ↓acall_eq, push_cast, Nat.reduceBEq, Nat.reduceAdd, Nat.reduceMul, Nat.reduceSub, Nat.reduceLeDiff, Nat.reduceLT, Int.reduceLE, Int.reduceLT, Int.reduceToNat, reduceCtorEq, Nat.reduceEqDiff, reduceIte, aEnd]); try (first | (with_reducible trivial) | (with_reducible assumption) | omega | (simp_all; done) | (simp_all; omega)))) (by (first | (intro _; rfl) | (simp only [↓aXs, ↓aX, ↓aList, ↓astep, ↓aThen, ↓aBlock, ↓AWp_eq, ↓acall_eq, push_cast, Nat.reduceBEq, Nat.reduceAdd, Nat.reduceMul, Nat.reduceSub, Nat.reduceLeDiff, Nat.reduceLT, Int.reduceLE, Int.reduceLT, Int.reduceToNat, reduceCtorEq, Nat.reduceEqDiff, reduceIte, aEnd]; first | done | (with_reducible trivial) | (with_reducible assumption) | omega | (simp_all; done) | (simp_all; omega)))) (by ((try simp only [↓aXs, ↓aX, ↓aList, ↓astep, ↓aThen, ↓aBlock, ↓AWp_eq, ↓acall_eq, push_cast, Nat.reduceBEq, Nat.reduceAdd, Nat.reduceMul, Nat.reduceSub, Nat.reduceLeDiff, Nat.reduceLT, Int.reduceLE, Int.reduceLT, Int.reduceToNat, reduceCtorEq, Nat.reduceEqDiff, reduceIte, aEnd]); first | done | (unfold LIM at *; omega))) ?_; simp only [↓aXs, ↓aX, ↓aList, ↓astep, ↓aThen, ↓aBlock, ↓AWp_eq, ↓acall_eq, push_cast, Nat.reduceBEq, Nat.reduceAdd, Nat.reduceMul, Nat.reduceSub, Nat.reduceLeDiff, Nat.reduceLT, Int.reduceLE, Int.reduceLT, Int.reduceToNat, reduceCtorEq, Nat.reduceEqDiff, reduceIte, aEnd]) | fail)
        refine ⟨⟨by omega, by omega, bool_elt us⟩, ?_⟩
        repeat' (first | (with_reducible refine BWp.of ?_) | (with_reducible refine bcall.of ?_) | (with_reducible refine awp_seq ?_) | (with_reducible refine awp_block ?_) | ((first | (with_reducible refine awp_region' hP hN ?_; refine ⟨_, rfl, rfl, ?_⟩) | (with_reducible refine awp_ret ?_) | (with_reducible refine awp_skip ?_) | (with_reducible refine awp_exit ?_) | (with_reducible refine awp_label ?_)); simp only [↓aXs, ↓aX, ↓aList, ↓astep, ↓aThen, ↓aBlock, ↓AWp_eq, ↓acall_eq, push_cast, Nat.reduceBEq, Nat.reduceAdd, Nat.reduceMul, Nat.reduceSub, Nat.reduceLeDiff, Nat.reduceLT, Int.reduceLE, Int.reduceLT, Int.reduceToNat, reduceCtorEq, Nat.reduceEqDiff, reduceIte, aEnd, huu]) | ((with_reducible refine And.intro ?_ ?_); (focus (first | (with_reducible trivial) | (with_reducible assumption) | omega | (simp_all; done) | (simp_all; omega)))) | (with_reducible exact Nat.le_refl _) | (with_reducible refine awp_cond' ?_; refine ⟨_, rfl, ?_, ?_⟩ <;> intro hc <;> (try simp only [↓aXs, ↓aX, ↓aList, ↓astep, ↓aThen, ↓aBlock, ↓AWp_eq, ↓acall_eq, push_cast, Nat.reduceBEq, Nat.reduceAdd, Nat.reduceMul, Nat.reduceSub, Nat.reduceLeDiff, Nat.reduceLT, Int.reduceLE, Int.reduceLT, Int.reduceToNat, reduceCtorEq, Nat.reduceEqDiff, reduceIte, aEnd, huu] at hc) <;> (try contradiction) <;> (try omega)) | fail)
        rw [show repl (Value.bool u) 0 [Value.bool true] = boolV true by first | rfl | simp [repl, boolV, Value.cells], show (n : Int) + 1 - 1 = n by omega]
        refine acall_det rfl hrec (by simp only [↓aXs, ↓aX, ↓aList, ↓astep, ↓aThen, ↓aBlock, ↓AWp_eq, ↓acall_eq, push_cast, Nat.reduceBEq, Nat.reduceAdd, Nat.reduceMul, Nat.reduceSub, Nat.reduceLeDiff, Nat.reduceLT, Int.reduceLE, Int.reduceLT, Int.reduceToNat, reduceCtorEq, Nat.reduceEqDiff, reduceIte, aEnd]) (by simp only [↓aXs, ↓aX, ↓aList, ↓astep, ↓aThen, ↓aBlock, ↓AWp_eq, ↓acall_eq, push_cast, Nat.reduceBEq, Nat.reduceAdd, Nat.reduceMul, Nat.reduceSub, Nat.reduceLeDiff, Nat.reduceLT, Int.reduceLE, Int.reduceLT, Int.reduceToNat, reduceCtorEq, Nat.reduceEqDiff, reduceIte, aEnd] <;> simp) (by simp only [↓aXs, ↓aX, ↓aList, ↓astep, ↓aThen, ↓aBlock, ↓AWp_eq, ↓acall_eq, push_cast, Nat.reduceBEq, Nat.reduceAdd, Nat.reduceMul, Nat.reduceSub, Nat.reduceLeDiff, Nat.reduceLT, Int.reduceLE, Int.reduceLT, Int.reduceToNat, reduceCtorEq, Nat.reduceEqDiff, reduceIte, aEnd] <;> (unfold LIM at *; omega)) ?_
        simp only [↓aXs, ↓aX, ↓aList, ↓astep, ↓aThen, ↓aBlock, ↓AWp_eq, ↓acall_eq, push_cast, Nat.reduceBEq, Nat.reduceAdd, Nat.reduceMul, Nat.reduceSub, Nat.reduceLeDiff, Nat.reduceLT, Int.reduceLE, Int.reduceLT, Int.reduceToNat, reduceCtorEq, Nat.reduceEqDiff, reduceIte, aEnd]
        repeat' (first | (with_reducible refine BWp.of ?_) | (with_reducible refine bcall.of ?_) | (with_reducible refine awp_seq ?_) | (with_reducible refine awp_block ?_) | ((first | (with_reducible refine awp_region' hP hN ?_; refine ⟨_, rfl, rfl, ?_⟩) | (with_reducible refine awp_ret ?_) | (with_reducible refine awp_skip ?_) | (with_reducible refine awp_exit ?_) | (with_reducible refine awp_label ?_)); simp only [↓aXs, ↓aX, ↓aList, ↓astep, ↓aThen, ↓aBlock, ↓AWp_eq, ↓acall_eq, push_cast, Nat.reduceBEq, Nat.reduceAdd, Nat.reduceMul, Nat.reduceSub, Nat.reduceLeDiff, Nat.reduceLT, Int.reduceLE, Int.reduceLT, Int.reduceToNat, reduceCtorEq, Nat.reduceEqDiff, reduceIte, aEnd]) | ((with_reducible refine And.intro ?_ ?_); (focus (first | (with_reducible trivial) | (with_reducible assumption) | omega | (simp_all; done) | (simp_all; omega)))) | (with_reducible exact Nat.le_refl _) | (with_reducible refine awp_cond' ?_; refine ⟨_, rfl, ?_, ?_⟩ <;> intro hc <;> (try simp only [↓aXs, ↓aX, ↓aList, ↓astep, ↓aThen, ↓aBlock, ↓AWp_eq, ↓acall_eq, push_cast, Nat.reduceBEq, Nat.reduceAdd, Nat.reduceMul, Nat.reduceSub, Nat.reduceLeDiff, Nat.reduceLT, Int.reduceLE, Int.reduceLT, Int.reduceToNat, reduceCtorEq, Nat.reduceEqDiff, reduceIte, aEnd] at hc) <;> (try contradiction) <;> (try omega)) | fail)
        exact ⟨i + 1, by omega, by omega, les_of [] hP (by decide) (by decide) (Nat.le_refl _) (by simp only [↓aXs, ↓aX, ↓aList, ↓astep, ↓aThen, ↓aBlock, ↓AWp_eq, ↓acall_eq, push_cast, Nat.reduceBEq, Nat.reduceAdd, Nat.reduceMul, Nat.reduceSub, Nat.reduceLeDiff, Nat.reduceLT, Int.reduceLE, Int.reduceLT, Int.reduceToNat, reduceCtorEq, Nat.reduceEqDiff, reduceIte, aEnd] <;> simp [hsi])⟩
    · have hi : i = cs.length := by omega
      subst hi
      repeat' (first | (with_reducible refine BWp.of ?_) | (with_reducible refine bcall.of ?_) | (with_reducible refine awp_seq ?_) | (with_reducible refine awp_block ?_) | ((first | (with_reducible refine awp_region' hP hN ?_; refine ⟨_, rfl, rfl, ?_⟩) | (with_reducible refine awp_ret ?_) | (with_reducible refine awp_skip ?_) | (with_reducible refine awp_exit ?_) | (with_reducible refine awp_label ?_)); simp only [↓aXs, ↓aX, ↓aList, ↓astep, ↓aThen, ↓aBlock, ↓AWp_eq, ↓acall_eq, push_cast, Nat.reduceBEq, Nat.reduceAdd, Nat.reduceMul, Nat.reduceSub, Nat.reduceLeDiff, Nat.reduceLT, Int.reduceLE, Int.reduceLT, Int.reduceToNat, reduceCtorEq, Nat.reduceEqDiff, reduceIte, aEnd]) | ((with_reducible refine And.intro ?_ ?_); (focus (first | (with_reducible trivial) | (with_reducible assumption) | omega | (simp_all; done) | (simp_all; omega)))) | (with_reducible exact Nat.le_refl _) | (with_reducible refine awp_cond' ?_; refine ⟨_, rfl, ?_, ?_⟩ <;> intro hc <;> (try simp only [↓aXs, ↓aX, ↓aList, ↓astep, ↓aThen, ↓aBlock, ↓AWp_eq, ↓acall_eq, push_cast, Nat.reduceBEq, Nat.reduceAdd, Nat.reduceMul, Nat.reduceSub, Nat.reduceLeDiff, Nat.reduceLT, Int.reduceLE, Int.reduceLT, Int.reduceToNat, reduceCtorEq, Nat.reduceEqDiff, reduceIte, aEnd] at hc) <;> (try contradiction) <;> (try omega)) | fail)

end Go.Proofs.YtlmlnbmagmembaaDoor
