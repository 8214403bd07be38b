import Derived.Test.YtellipmolheaaaaGreatDoorCan
import Derived.Test.YtellipmolheaaaaGreatDoorBack
set_option linter.unusedSimpArgs false
set_option maxRecDepth 10000
namespace Go.Proofs.YtellipmolheaaaaGreatDoor
open Go Go.RowKit

/-! ### the canonical log between two trees -/

/-- a log that fits goes from the one tree to the other on each path -/
theorem fits_chain {p : List UInt8} : ∀ (cs : List Cmd) (t : List Nod), treeOk t = true → (∀ c ∈ cs, cmdOk c = true) → (allF t cs).2 = cs.length → chain (getT t p) (thr cs p) (getT (allF t cs).1 p)
  | [], t, _, _, _ => rfl
  | c :: r, t, ht, hc, ha => by
    have hy : (apF t c).2 = true := (all_at (a := []) (x := c) (b := r) ha).2
    have ht1 := apF_ok (c := c) ht
    have ha' := ha
    unfold allF at ha'
    rw [if_pos hy] at ha'
    have ih := fits_chain (p := p) r _ ht1 (fun d h => hc d (List.mem_cons_of_mem _ h)) (by simpa using ha')
    obtain ⟨x1, x2, x3⟩ := apF_yes hy
    have e1 : (allF t (c :: r)).1 = (allF (apF t c).1 r).1 := by rw [allF, if_pos hy]
    rw [e1, thr_cons]
    by_cases hp : c.p = p
    · rw [if_pos hp]
      obtain ⟨q1, q2⟩ := cmdOk_path (hc c List.mem_cons_self)
      have g1 : getT (apF t c).1 p = c.t := by
        obtain ⟨_, _, c2, _, _⟩ := treePutF_ok x2
        rw [x3, ← hp, getT, if_neg q2, getF_put ((treeOk_iff t).1 ht).2.1 c2, if_pos rfl]
      rw [g1] at ih
      exact ⟨by rw [← hp]; exact x1.symm, ih⟩
    · rw [if_neg hp]
      rwa [apF_other ht hy (fun e => hp e.symm)] at ih

structure DifR (t u : List Nod) (R : List Cmd) : Prop where
  srt : R.Pairwise fun x y => beforeF x y = true
  nod : (R.map (·.p)).Nodup
  mem : ∀ c, c ∈ R ↔ c.f = getT t c.p ∧ c.t = getT u c.p ∧ c.f ≠ c.t

theorem CanR.dif {cs out : List Cmd} {t : List Nod} (h : CanR cs out) (ht : treeOk t = true) (hc : ∀ c ∈ cs, cmdOk c = true) (ha : (allF t cs).2 = cs.length) : DifR t (allF t cs).1 out := by
  refine ⟨h.srt, h.nod, fun c => (h.mem c).trans ⟨fun ⟨h1, h2, h3⟩ => ?_, fun ⟨h1, h2, h3⟩ => ?_⟩⟩
  · obtain ⟨e1, e2⟩ := chain_two h1 h2 (fits_chain cs t ht hc ha)
    exact ⟨e1, e2, h3⟩
  · have hch := fits_chain (p := c.p) cs t ht hc ha
    rw [← h1, ← h2] at hch
    refine ⟨fun e => ?_, hch, h3⟩
    rw [e] at hch
    exact h3 hch

theorem fits_joins {cs : List Cmd} {t : List Nod} (ht : treeOk t = true) (hc : ∀ c ∈ cs, cmdOk c = true) (ha : (allF t cs).2 = cs.length) : joinsP cs := fun p => ⟨_, _, fits_chain cs t ht hc ha⟩

theorem tree_ext {t u : List Nod} (ht : treeOk t = true) (hu : treeOk u = true) (h : ∀ p, getT t p = getT u p) : t = u := by
  have sub : ∀ {a b : List Nod}, treeOk a = true → treeOk b = true → (∀ p, getT a p = getT b p) → ∀ x ∈ a, x ∈ b := fun {a b} ha hb h x hx => by
    obtain ⟨_, np⟩ := nod_path ha hx
    have e := h x.p
    rw [getT, getT, if_neg np, if_neg np, getF_of_mem ((treeOk_iff a).1 ha).2.1 hx] at e
    have hk := nod_nz ha x hx
    rw [e] at hk
    obtain ⟨y, hy, ey, ec⟩ := getF_mem hk
    rw [ec] at e
    have : y = x := by cases x; cases y; simp_all
    rw [← this]
    exact hy
  exact srt_mem ((treeOk_iff t).1 ht).2.1 ((treeOk_iff u).1 hu).2.1 fun x => ⟨sub ht hu h x, sub hu ht (fun p => (h p).symm) x⟩

theorem getT_put {t : List Nod} (ht : treeOk t = true) {p q : List UInt8} {c : Con} (hc : conOk c = true) (hq : q ≠ [47]) : getT (putF t p c) q = if q = p then c else getT t q := by
  rw [getT, if_neg hq, getF_put ((treeOk_iff t).1 ht).2.1 hc, getT, if_neg hq]

/-- the first command of a canonical log between two trees fits -/
theorem dif_first {t u : List Nod} {c : Cmd} {r : List Cmd} (h : DifR t u (c :: r)) (ht : treeOk t = true) (hu : treeOk u = true) (hd : 0 < depthF c.p) (hf : conOk c.f = true) (hc : conOk c.t = true) : treeOk (putF t c.p c.t) = true := by
  obtain ⟨q1, q2⟩ := depth_path hd
  obtain ⟨m1, m2, m3⟩ := (h.mem c).1 List.mem_cons_self
  obtain ⟨t1, s, t3⟩ := (treeOk_iff t).1 ht
  obtain ⟨u1, s', u3⟩ := (treeOk_iff u).1 hu
  -- what comes later
  have later : ∀ d : Cmd, d.f = getT t d.p → d.t = getT u d.p → d.f ≠ d.t → d.p ≠ c.p → beforeF d c = true → False := fun d d1 d2 d3 hp hb => by
    have hdm := (h.mem d).2 ⟨d1, d2, d3⟩
    rcases List.mem_cons.1 hdm with e | e
    · exact hp (by rw [e])
    · have := (List.pairwise_cons.1 h.srt).1 d e
      rw [before_asymm this] at hb
      cases hb
  have hgt : getF t c.p = c.f := by rw [m1, getT, if_neg q2]
  have hgu : getF u c.p = c.t := by rw [m2, getT, if_neg q2]
  have parU : c.t.k ≠ 0 → (getT u (parentF c.p)).k = 1 := fun hk => by
    obtain ⟨y, hy, ey, ec⟩ := getF_mem (t := u) (p := c.p) (by rw [hgu]; exact hk)
    have := (u1 y hy).2.2.2
    rwa [ey] at this
  have parT : c.f.k ≠ 0 → (getT t (parentF c.p)).k = 1 := fun hk => by
    obtain ⟨y, hy, ey, ec⟩ := getF_mem (t := t) (p := c.p) (by rw [hgt]; exact hk)
    have := (t1 y hy).2.2.2
    rwa [ey] at this
  -- nothing lies under a path that is no directory there
  have noU : c.t.k ≠ 1 → ∀ y ∈ u, underI c.p y.p = false := fun hk y hy => by
    cases hy' : underI c.p y.p with
    | false => rfl
    | true =>
      have := under_dir hu q1 y.p.length y (Nat.le_refl _) hy hy'
      rw [← m2] at this
      exact absurd this hk
  have noT : c.f.k ≠ 1 → underL t c.p = [] := fun hk => by
    rw [underL, List.map_eq_nil_iff, List.filter_eq_nil_iff]
    intro y hy hy'
    have := under_dir ht q1 y.p.length y (Nat.le_refl _) hy hy'
    rw [← m1] at this
    exact hk this
  by_cases hE : endsF c = true
  · -- it ends something: what is under it has gone
    have hul : underL t c.p = [] ∨ c.t.k = 1 := by
      by_cases hk1 : c.t.k = 1
      · exact .inr hk1
      · left
        rw [underL, List.map_eq_nil_iff, List.filter_eq_nil_iff]
        intro y hy hy'
        obtain ⟨_, np⟩ := nod_path ht hy
        have gy : getT t y.p = y.c := by rw [getT, if_neg np, getF_of_mem s hy]
        have gu : getT u y.p = ⟨0, 0⟩ := by
          rw [getT, if_neg np]
          refine getF_none fun z hz e => ?_
          have := noU hk1 z hz
          rw [e, hy'] at this
          cases this
        have hnz := nod_nz ht y hy
        have hlt := under_less q2 hy'
        refine later ⟨y.p, y.c, ⟨0, 0⟩⟩ gy.symm gu.symm (fun e => hnz (by rw [show y.c = ⟨0, 0⟩ from e])) (fun e => by
          have e : y.p = c.p := e
          rw [e, less_irrefl] at hlt
          cases hlt) ?_
        have hEy : endsF ⟨y.p, y.c, ⟨0, 0⟩⟩ = true := rfl
        rw [beforeF, if_pos (by rw [hEy, hE]; rfl)]
        exact hlt
    refine (put_when ht hd hc).2 ⟨?_, hul, ?_⟩
    · by_cases hk : c.t.k = 0
      · exact .inr hk
      · left
        apply parT
        simp only [endsF, Bool.or_eq_true, decide_eq_true_eq] at hE
        omega
    · rw [if_neg fun e => ?_]
      · exact t3
      · rw [hgt] at e
        simp only [endsF, Bool.or_eq_true, decide_eq_true_eq] at hE
        omega
  · -- nothing ends any more
    have hE0 : endsF c = false := by simpa using hE
    have hE1 := hE0
    simp only [endsF, Bool.or_eq_false_iff, decide_eq_false_iff_not] at hE1
    obtain ⟨k1, k2⟩ := hE1
    have noE : ∀ d : Cmd, d.f = getT t d.p → d.t = getT u d.p → d.f ≠ d.t → endsF d = true → False := fun d d1 d2 d3 de => by
      refine later d d1 d2 d3 (fun e => ?_) ?_
      · have : d = c := cmd_ext e (by rw [d1, m1, e]) (by rw [d2, m2, e])
        rw [this, hE0] at de
        cases de
      · rw [beforeF, de, hE0]
        rfl
    refine (put_when ht hd hc).2 ⟨.inl ?_, .inl (noT k2), ?_⟩
    · -- the parent is there
      have hpu := parU k1
      by_cases hpt : getT t (parentF c.p) = getT u (parentF c.p)
      · rw [hpt]
        exact hpu
      · exfalso
        have hdE : endsF ⟨parentF c.p, getT t (parentF c.p), getT u (parentF c.p)⟩ = false := by
          cases he : endsF ⟨parentF c.p, getT t (parentF c.p), getT u (parentF c.p)⟩ with
          | false => rfl
          | true => exact (noE _ rfl rfl hpt he).elim
        have hpr : parentF c.p ≠ [47] := fun e => hpt (by rw [e, getT, getT, if_pos rfl, if_pos rfl])
        have hul := under_self q1 q2
        have hlt := under_less hpr hul
        refine later ⟨parentF c.p, getT t (parentF c.p), getT u (parentF c.p)⟩ rfl rfl hpt (fun e => by
          have e : parentF c.p = c.p := e
          rw [e, less_irrefl] at hlt
          cases hlt) ?_
        rw [beforeF, hdE, hE0]
        exact hlt
    · -- there is room
      have hsub : ∀ q ∈ (putF t c.p c.t).map (·.p), q ∈ u.map (·.p) := fun q hq => by
        obtain ⟨y, hy, rfl⟩ := List.mem_map.1 hq
        have inU : ∀ p : List UInt8, p ≠ [47] → (getT u p).k ≠ 0 → p ∈ u.map (·.p) := fun p np hk => by
          rw [getT, if_neg np] at hk
          obtain ⟨z, hz, ez, _⟩ := getF_mem hk
          exact List.mem_map.2 ⟨z, hz, ez⟩
        rcases (mem_put s).1 hy with ⟨hy, hne⟩ | ⟨_, rfl⟩
        · obtain ⟨_, np⟩ := nod_path ht hy
          have gy : getT t y.p = y.c := by rw [getT, if_neg np, getF_of_mem s hy]
          refine inU y.p np fun hk => ?_
          have gu : getT u y.p = ⟨0, 0⟩ := con_zero (by rw [getT, if_neg np]; exact getF_ok hu _) hk
          have hnz := nod_nz ht y hy
          exact noE ⟨y.p, y.c, ⟨0, 0⟩⟩ gy.symm gu.symm (fun e => hnz (by rw [show y.c = ⟨0, 0⟩ from e])) rfl
        · exact inU c.p q2 (by rw [← m2]; exact k1)
      have hnd : ((putF t c.p c.t).map (·.p)).Nodup := by
        have hps : Go.Proofs.YtellipmolheaaaaGreatDoor.srt (putF t c.p c.t) := srt_put s c.p c.t
        exact (List.pairwise_map.2 (hps.imp fun h => less_ne h))
      have hle := nodup_len hnd hsub
      rw [List.length_map, List.length_map] at hle
      have hpl := put_len ht c.p c.t k1
      rw [hpl] at hle
      by_cases hg : (getF t c.p).k = 0
      · rw [if_pos hg] at hle
        rw [if_pos ⟨hg, k1⟩]
        omega
      · rw [if_neg hg] at hle
        rw [if_neg fun e => hg e.1]
        omega

theorem dif_fits : ∀ (R : List Cmd) (t u : List Nod), treeOk t = true → treeOk u = true → (∀ c ∈ R, cmdOk c = true) → DifR t u R → allF t R = (u, R.length)
  | [], t, u, ht, hu, _, h => by
    have e : t = u := tree_ext ht hu fun p => Classical.byContradiction fun hne => by
      have := (h.mem ⟨p, getT t p, getT u p⟩).2 ⟨rfl, rfl, hne⟩
      cases this
    rw [e]
    rfl
  | c :: r, t, u, ht, hu, hok, h => by
    have hco := hok c List.mem_cons_self
    obtain ⟨q1, q2⟩ := cmdOk_path hco
    obtain ⟨c1, c2⟩ := cmdOk_con hco
    have hd : 0 < depthF c.p := by
      simp only [cmdOk, Bool.and_eq_true, decide_eq_true_eq] at hco
      exact hco.1.1.1
    obtain ⟨m1, m2, m3⟩ := (h.mem c).1 List.mem_cons_self
    have hput := dif_first h ht hu hd c1 c2
    have htp : treePutF t c.p c.t = (putF t c.p c.t, true) := by
      rw [treePutF, ht, c2, decide_eq_false (show ¬ depthF c.p < 1 by omega), hput]
      rfl
    have hap : apF t c = (putF t c.p c.t, true) := by
      rw [apF, htp, if_pos ⟨m1.symm, rfl⟩]
    have hn := h.nod
    rw [List.map_cons, List.nodup_cons] at hn
    have hg : ∀ q, getT (putF t c.p c.t) q = if q = c.p then c.t else getT t q := fun q => by
      by_cases hq : q = [47]
      · rw [hq, getT, if_pos rfl, if_neg (fun e => q2 e.symm), getT, if_pos rfl]
      · exact getT_put ht c2 hq
    have hr : DifR (putF t c.p c.t) u r := by
      refine ⟨(List.pairwise_cons.1 h.srt).2, hn.2, fun d => ?_⟩
      rw [hg]
      by_cases hp : d.p = c.p
      · rw [if_pos hp]
        constructor
        · intro hdr
          exact absurd (List.mem_map.2 ⟨d, hdr, hp⟩) hn.1
        · rintro ⟨e1, e2, e3⟩
          exact absurd (by rw [e1, e2, hp, ← m2]) e3
      · rw [if_neg hp, ← h.mem d]
        constructor
        · exact List.mem_cons_of_mem _
        · intro hdc
          rcases List.mem_cons.1 hdc with e | e
          · exact absurd (by rw [e]) hp
          · exact e
    have ih := dif_fits r _ u hput hu (fun d hd => hok d (List.mem_cons_of_mem _ hd)) hr
    rw [allF, if_pos (by rw [hap]), hap]
    simp only
    rw [ih]
    simp

end Go.Proofs.YtellipmolheaaaaGreatDoor
