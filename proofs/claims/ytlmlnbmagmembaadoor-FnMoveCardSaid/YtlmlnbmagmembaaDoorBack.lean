import Derived.Test.YtlmlnbmagmembaaDoorCopy
set_option linter.unusedSimpArgs false
set_option maxRecDepth 10000
namespace Go.Proofs.YtlmlnbmagmembaaDoor
open Go Go.RowKit

/-! ### a log taken back -/

theorem undoF_ok {c : Cmd} (h : cmdOk c = true) : undoF c = ⟨c.p, c.t, c.f⟩ := if_pos h

theorem ap_back {t : List Nod} {c : Cmd} (ht : treeOk t = true) (hc : cmdOk c = true) (h : (apF t c).2 = true) : apF (apF t c).1 (undoF c) = (t, true) := by
  have ha : (applyF t c).2 = true := by rw [applyF_ap ht hc]; exact h
  obtain ⟨_, _, _, k4, k5, k6⟩ := ap_facts ha
  have hu := ap_undo ha
  obtain ⟨x1, x2, x3⟩ := apF_yes h
  have hco : cmdOk (undoF c) = true := by rw [undoF_ok hc]; exact cmdOk_turn hc
  rw [x3, ← applyF_ap k6 hco, hu]

theorem all_back : ∀ (cs : List Cmd) (t : List Nod), treeOk t = true → (∀ c ∈ cs, cmdOk c = true) → (allF t cs).2 = cs.length → allF (allF t cs).1 (cs.reverse.map undoF) = (t, cs.length)
  | [], t, _, _, _ => rfl
  | c :: r, t, ht, hc, ha => by
    have hy : (apF t c).2 = true := (all_at (a := []) (x := c) (b := r) ha).2
    have ht1 := apF_ok (c := c) ht
    unfold allF at ha
    rw [if_pos hy] at ha
    have ih := all_back r _ ht1 (fun d h => hc d (List.mem_cons_of_mem _ h)) (by simpa using ha)
    have hb := ap_back ht (hc c List.mem_cons_self) hy
    have e1 : (allF t (c :: r)).1 = (allF (apF t c).1 r).1 := by rw [allF, if_pos hy]
    rw [e1, List.reverse_cons, List.map_append, allF_append, ih, if_pos (by simp)]
    simp only [List.map_cons, List.map_nil]
    rw [allF, if_pos (by rw [hb]), hb]
    simp [allF]

/-! ### what is removed -/

def remC (n : Nod) : Cmd := ⟨n.p, n.c, ⟨0, 0⟩⟩
def remL (t : List Nod) (p : List UInt8) : List Cmd := (t.filter (inC p)).reverse.map remC

theorem under_less {a b : List UInt8} (ha : a ≠ [47]) (h : underI a b = true) : Op.bytesLess a b = true := by
  unfold underI at h
  rw [if_neg ha, Bool.and_eq_true, decide_eq_true_eq, decide_eq_true_eq] at h
  have h2 : b.take a.length = a := by
    have := congrArg (List.take a.length) h.2
    rwa [List.take_take, Nat.min_eq_left (by omega), List.take_left] at this
  have := less_take a.length b (by omega)
  rwa [h2] at this

theorem under_trans {a b c : List UInt8} (ha : a ≠ [47]) (hb : b ≠ [47]) (h1 : underI a b = true) (h2 : underI b c = true) : underI a c = true := by
  unfold underI at h1 h2 ⊢
  rw [if_neg ha, Bool.and_eq_true, decide_eq_true_eq, decide_eq_true_eq] at h1
  rw [if_neg hb, Bool.and_eq_true, decide_eq_true_eq, decide_eq_true_eq] at h2
  rw [if_neg ha, Bool.and_eq_true, decide_eq_true_eq, decide_eq_true_eq]
  refine ⟨by omega, ?_⟩
  have e : c.take b.length = b := by
    have := congrArg (List.take b.length) h2.2
    rwa [List.take_take, Nat.min_eq_left (by omega), List.take_left] at this
  rw [← h1.2, ← e, List.take_take, Nat.min_eq_left (by omega)]

theorem inC_under {p : List UInt8} (hp : p ≠ [47]) {n y : Nod} (hn : inC p n = true) (hn47 : n.p ≠ [47]) (hu : underI n.p y.p = true) : inC p y = true := by
  simp only [inC, Bool.or_eq_true, decide_eq_true_eq] at hn ⊢
  rcases hn with e | h
  · right; rw [← e]; exact hu
  · right; exact under_trans hp hn47 h hu

theorem rem_step {u : List Nod} {n : Nod} (hu : treeOk u = true) (hn : n ∈ u) (hno : ∀ y ∈ u, underI n.p y.p = false) : apF u (remC n) = (delI u n.p, true) := by
  obtain ⟨t1, s, t3⟩ := (treeOk_iff u).1 hu
  obtain ⟨d1, d2, d3, d4⟩ := t1 n hn
  obtain ⟨q1, q2⟩ := depth_path d1
  have hput : putF u n.p ⟨0, 0⟩ = delI u n.p := by rw [← putI_eq s, putI, if_pos rfl]
  have hgn : getF u n.p = n.c := getF_of_mem s hn
  have hul : underL u n.p = [] := by
    rw [underL, List.map_eq_nil_iff, List.filter_eq_nil_iff]
    intro y hy
    rw [hno y hy]
    simp
  have hok : treeOk (putF u n.p ⟨0, 0⟩) = true := (put_when hu d1 rfl).2 ⟨.inr rfl, .inl hul, by rw [if_neg fun h => h.2 rfl]; exact t3⟩
  have htp : treePutF u n.p ⟨0, 0⟩ = (putF u n.p ⟨0, 0⟩, true) := by
    rw [treePutF, hu, decide_eq_false (show ¬ depthF n.p < 1 by omega), hok]
    rfl
  show (if getT u n.p = n.c ∧ (treePutF u n.p ⟨0, 0⟩).2 = true then ((treePutF u n.p ⟨0, 0⟩).1, true) else (u, false)) = _
  rw [if_pos ⟨by rw [getT, if_neg q2, hgn], by rw [htp]⟩, htp, hput]

theorem rem_all {p : List UInt8} (hp : p ≠ [47]) : ∀ (k : Nat) (u : List Nod), (u.filter (inC p)).length = k → treeOk u = true → allF u (remL u p) = (u.filter fun n => !inC p n, k)
  | 0, u, hk, hu => by
    have h0 : u.filter (inC p) = [] := List.length_eq_zero_iff.1 hk
    rw [remL, h0]
    have : (u.filter fun n => !inC p n) = u := by
      rw [List.filter_eq_self]
      intro x hx
      have := List.filter_eq_nil_iff.1 h0 x hx
      simpa using this
    rw [this]
    rfl
  | k + 1, u, hk, hu => by
    obtain ⟨t1, s, t3⟩ := (treeOk_iff u).1 hu
    obtain ⟨S, n, hS⟩ : ∃ S n, u.filter (inC p) = S ++ [n] := by
      have hne : u.filter (inC p) ≠ [] := fun e => by rw [e] at hk; cases hk
      exact ⟨_, _, (List.dropLast_concat_getLast hne).symm⟩
    have hnm : n ∈ u.filter (inC p) := by rw [hS]; simp
    obtain ⟨hnu, hni⟩ := List.mem_filter.1 hnm
    have hn47 := (nod_path hu hnu).2
    have hno : ∀ y ∈ u, underI n.p y.p = false := fun y hy => by
      cases h : underI n.p y.p with
      | false => rfl
      | true =>
        exfalso
        have hym : y ∈ S ++ [n] := by rw [← hS]; exact List.mem_filter.2 ⟨hy, inC_under hp hni hn47 h⟩
        have hl := under_less hn47 h
        have hsS : srt (S ++ [n]) := by rw [← hS]; exact srt_sub List.filter_sublist s
        rcases List.mem_append.1 hym with hyS | hyn
        · have := (List.pairwise_append.1 hsS).2.2 y hyS n List.mem_cons_self
          rw [less_asymm this] at hl
          cases hl
        · simp at hyn
          rw [hyn, less_irrefl] at hl
          cases hl
    have hst := rem_step hu hnu hno
    have hu' : treeOk (delI u n.p) = true := by
      have := apF_ok (c := remC n) hu
      rwa [hst] at this
    have hSn : ∀ y ∈ S, y.p ≠ n.p := fun y hy => by
      have hsS : srt (S ++ [n]) := by rw [← hS]; exact srt_sub List.filter_sublist s
      exact less_ne ((List.pairwise_append.1 hsS).2.2 y hy n List.mem_cons_self)
    have hf1 : (delI u n.p).filter (inC p) = S := by
      rw [delI, List.filter_filter, show (fun a => inC p a && !decide (a.p = n.p)) = (fun a => (!decide (a.p = n.p)) && inC p a) from funext fun a => Bool.and_comm _ _, ← List.filter_filter, hS, List.filter_append]
      have e1 : S.filter (fun m => !decide (m.p = n.p)) = S := by
        rw [List.filter_eq_self]
        intro y hy
        simp [hSn y hy]
      rw [e1]
      simp
    have hf2 : ((delI u n.p).filter fun m => !inC p m) = u.filter fun m => !inC p m := by
      rw [delI, List.filter_filter]
      apply List.filter_congr
      intro y hy
      by_cases e : y.p = n.p
      · have : inC p y = true := by rw [inC, e]; exact hni
        simp [this]
      · simp [e]
    have ih := rem_all hp k (delI u n.p) (by rw [hf1]; rw [hS, List.length_append] at hk; simpa using hk) hu'
    rw [remL, hf1, hf2] at ih
    rw [remL, hS, List.reverse_append]
    show allF u (remC n :: (S.reverse.map remC)) = _
    rw [allF, if_pos (by rw [hst]), hst]
    simp only
    rw [ih]

end Go.Proofs.YtlmlnbmagmembaaDoor
