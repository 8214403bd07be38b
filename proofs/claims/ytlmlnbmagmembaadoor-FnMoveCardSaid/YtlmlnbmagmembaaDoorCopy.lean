import Derived.Test.YtlmlnbmagmembaaDoorConM
import Derived.Test.YtlmlnbmagmembaaDoorLawO
import Derived.Test.YtlmlnbmagmembaaDoorUnder
import Derived.Test.YtlmlnbmagmembaaDoorLawQ
set_option linter.unusedSimpArgs false
set_option maxRecDepth 10000
namespace Go.Proofs.YtlmlnbmagmembaaDoor
open Go Go.RowKit

/-! ### logs that fit a tree -/

theorem apF_yes {t : List Nod} {c : Cmd} (h : (apF t c).2 = true) : getT t c.p = c.f ∧ (treePutF t c.p c.t).2 = true ∧ (apF t c).1 = putF t c.p c.t := by
  unfold apF at h ⊢
  split at h
  · rename_i h1
    rw [if_pos h1]
    exact ⟨h1.1, h1.2, (treePutF_ok h1.2).2.2.2.1⟩
  · cases h

theorem apF_other {t : List Nod} {c : Cmd} (ht : treeOk t = true) (h : (apF t c).2 = true) {q : List UInt8} (hq : q ≠ c.p) : getT (apF t c).1 q = getT t q := by
  obtain ⟨h1, h2, h3⟩ := apF_yes h
  rw [h3, getT, getT, getF_put ((treeOk_iff t).1 ht).2.1 (treePutF_ok h2).2.2.1, if_neg hq]

/-- what no command names stays -/
theorem allF_other {q : List UInt8} : ∀ (cs : List Cmd) (t : List Nod), treeOk t = true → (∀ (k : Nat) c, k < (allF t cs).2 → cs[k]? = some c → c.p ≠ q) → getT (allF t cs).1 q = getT t q
  | [], t, _, _ => rfl
  | c :: r, t, ht, h => by
    unfold allF at h ⊢
    split
    · rename_i h1
      rw [if_pos h1] at h
      have hc : c.p ≠ q := h 0 c (by simp only; omega) rfl
      have ih := allF_other r (apF t c).1 (apF_ok ht) fun k d hk hd => h (k + 1) d (by simp only; omega) (by simpa using hd)
      rw [ih, apF_other ht h1 fun e => hc e.symm]
    · rfl

theorem con_zero {c : Con} (h : conOk c = true) (hk : c.k = 0) : c = ⟨0, 0⟩ := by
  refine con_eta hk ?_
  simp only [conOk, hk] at h
  simpa using h

theorem con_dir {c : Con} (h : conOk c = true) (hk : c.k = 1) : c = ⟨1, 0⟩ := by
  refine con_eta hk ?_
  simp only [conOk, hk] at h
  simpa using h

theorem cmdOk_con {c : Cmd} (h : cmdOk c = true) : conOk c.f = true ∧ conOk c.t = true := by
  simp only [cmdOk, Bool.and_eq_true] at h
  exact ⟨h.1.1.2, h.1.2⟩

/-- what is above a command that is done is a directory -/
theorem ap_above {t : List Nod} {x : Cmd} (ht : treeOk t = true) (hx : cmdOk x = true) (h : (apF t x).2 = true) {p : List UInt8} (hp : pathOk p = true) (hu : underI p x.p = true) : (getT t p).k = 1 := by
  obtain ⟨h1, h2, h3⟩ := apF_yes h
  obtain ⟨k1, k2, k3, k4, k5⟩ := treePutF_ok h2
  obtain ⟨q1, q2⟩ := cmdOk_path hx
  obtain ⟨c1, c2⟩ := cmdOk_con hx
  by_cases hf : x.f.k = 0
  · have htk : x.t.k ≠ 0 := fun e => cmdOk_ne hx (by rw [con_zero c1 hf, con_zero c2 e])
    have hg := getF_put ((treeOk_iff t).1 k1).2.1 k3 x.p x.p
    rw [if_pos rfl] at hg
    obtain ⟨y, hy, e, _⟩ := getF_mem (t := putF t x.p x.t) (p := x.p) (by rw [hg]; exact htk)
    have hd := under_dir k5 hp y.p.length y (Nat.le_refl _) hy (by rw [e]; exact hu)
    have hne : p ≠ x.p := fun e' => by
      rw [e', under_irrefl] at hu
      cases hu
    rwa [← h3, apF_other ht h hne] at hd
  · have hg : getF t x.p = x.f := by rw [← h1, getT, if_neg q2]
    obtain ⟨y, hy, e, _⟩ := getF_mem (t := t) (p := x.p) (by rw [hg]; exact hf)
    exact under_dir ht hp y.p.length y (Nat.le_refl _) hy (by rw [e]; exact hu)

theorem allF_le : ∀ (cs : List Cmd) (t : List Nod), (allF t cs).2 ≤ cs.length
  | [], t => Nat.le_refl _
  | c :: r, t => by
    unfold allF
    split
    · have := allF_le r (apF t c).1
      simp only [List.length_cons]
      omega
    · simp

theorem all_at {t : List Nod} {a b : List Cmd} {x : Cmd} (h : (allF t (a ++ x :: b)).2 = (a ++ x :: b).length) : (allF t a).2 = a.length ∧ (apF (allF t a).1 x).2 = true := by
  rw [allF_append] at h
  by_cases h1 : (allF t a).2 = a.length
  · rw [if_pos h1] at h
    refine ⟨h1, ?_⟩
    cases h2 : (apF (allF t a).1 x).2 with
    | true => rfl
    | false =>
      exfalso
      rw [allF, h2] at h
      simp at h
  · exfalso
    rw [if_neg h1] at h
    simp only [List.length_append, List.length_cons] at h
    have := h1
    have hle : (allF t a).2 ≤ a.length := allF_le a t
    omega

/-- a log that fits, with each path once, is in a possible order -/
theorem fits_pair : ∀ (cs : List Cmd) (t : List Nod), treeOk t = true → (∀ c ∈ cs, cmdOk c = true) → (allF t cs).2 = cs.length → (cs.map (·.p)).Nodup → cs.Pairwise fun y x => mustI x y = false
  | [], _, _, _, _, _ => List.Pairwise.nil
  | y :: r, t, ht, hc, ha, hn => by
    obtain ⟨hn1, hn2⟩ := List.nodup_cons.1 (show (y.p :: r.map (·.p)).Nodup from hn)
    have hy : (apF t y).2 = true := (all_at (a := []) (x := y) (b := r) ha).2
    have ht1 := apF_ok (c := y) ht
    have ha1 : (allF (apF t y).1 r).2 = r.length := by
      unfold allF at ha
      rw [if_pos hy] at ha
      simpa using ha
    refine List.pairwise_cons.2 ⟨fun x hx => ?_, fits_pair r _ ht1 (fun c h => hc c (List.mem_cons_of_mem _ h)) ha1 hn2⟩
    have hyo := hc y List.mem_cons_self
    have hxo := hc x (List.mem_cons_of_mem _ hx)
    obtain ⟨r1, r2, rfl⟩ := List.append_of_mem hx
    obtain ⟨b1, b2⟩ := all_at ha1
    have htx := allF_ok r1 ht1
    rw [List.map_append, List.map_cons] at hn1 hn2
    have hyx : y.p ≠ x.p := fun e => hn1 (by rw [e]; simp)
    have hyr : ∀ c ∈ r1, c.p ≠ y.p := fun c h e => hn1 (List.mem_append_left _ (List.mem_map.2 ⟨c, h, e⟩))
    have hxr : ∀ c ∈ r1, c.p ≠ x.p := fun c h e => (List.nodup_append.1 hn2).2.2 c.p (List.mem_map.2 ⟨c, h, rfl⟩) x.p List.mem_cons_self e
    have gy : getT (allF (apF t y).1 r1).1 y.p = getT (apF t y).1 y.p := allF_other r1 _ ht1 fun k c _ hk => hyr c (List.mem_of_getElem? hk)
    have gx : getT (allF (apF t y).1 r1).1 x.p = getT (apF t y).1 x.p := allF_other r1 _ ht1 fun k c _ hk => hxr c (List.mem_of_getElem? hk)
    obtain ⟨y1, y2, y3⟩ := apF_yes hy
    obtain ⟨x1, x2, x3⟩ := apF_yes b2
    obtain ⟨q1, q2⟩ := cmdOk_path hyo
    obtain ⟨p1, p2⟩ := cmdOk_path hxo
    obtain ⟨cy1, cy2⟩ := cmdOk_con hyo
    obtain ⟨cx1, cx2⟩ := cmdOk_con hxo
    cases hm : mustI x y with
    | false => rfl
    | true =>
      exfalso
      simp only [mustI, Bool.or_eq_true, Bool.and_eq_true, decide_eq_true_eq] at hm
      rcases hm with ⟨m1, m2⟩ | ⟨m1, m2⟩
      · have := ap_above htx hxo b2 q1 m1
        rw [gy, y3, getT, if_neg q2, getF_put ((treeOk_iff t).1 ht).2.1 (treePutF_ok y2).2.2.1, if_pos rfl] at this
        exact cmdOk_ne hyo (by rw [con_dir cy1 m2, con_dir cy2 this])
      · have := ap_above ht hyo hy p1 m1
        rw [← apF_other ht hy hyx.symm, ← gx, x1] at this
        exact cmdOk_ne hxo (by rw [con_dir cx1 this, con_dir cx2 m2])

end Go.Proofs.YtlmlnbmagmembaaDoor

set_option linter.unusedSimpArgs false
set_option maxRecDepth 10000
namespace Go.Proofs.YtlmlnbmagmembaaDoor
open Go Go.RowKit

/-! ### what is copied -/

def inC (a : List UInt8) (n : Nod) : Bool := decide (n.p = a) || underI a n.p
def copC (a b : List UInt8) (n : Nod) : Cmd := ⟨b ++ n.p.drop a.length, ⟨0, 0⟩, n.c⟩
def copL (t : List Nod) (a b : List UInt8) : List Cmd := (t.filter (inC a)).map (copC a b)

theorem inC_take {a : List UInt8} (ha : a ≠ [47]) {n : Nod} (h : inC a n = true) : n.p = a ++ n.p.drop a.length := by
  simp only [inC, Bool.or_eq_true, decide_eq_true_eq] at h
  rcases h with e | h
  · rw [e, List.drop_length, List.append_nil]
  · unfold underI at h
    rw [if_neg ha, Bool.and_eq_true, decide_eq_true_eq, decide_eq_true_eq] at h
    have h2 : n.p.take a.length = a := by
      have := congrArg (List.take a.length) h.2
      rwa [List.take_take, Nat.min_eq_left (by omega), List.take_left] at this
    conv => lhs; rw [← List.take_append_drop a.length n.p, h2]

theorem inC_len {a : List UInt8} {n : Nod} (h : inC a n = true) (ha : a ≠ [47]) : a.length ≤ n.p.length := by
  rw [inC_take ha h, List.length_append]
  omega

theorem cop_nodup {t : List Nod} (hs : srt t) {a b : List UInt8} (ha : a ≠ [47]) : ((copL t a b).map (·.p)).Nodup := by
  rw [copL, List.map_map]
  refine List.pairwise_map.2 ?_
  have h1 : srt (t.filter (inC a)) := srt_sub List.filter_sublist hs
  refine List.Pairwise.imp_of_mem (fun {x y} hx hy hl e => ?_) h1
  have e1 : x.p.drop a.length = y.p.drop a.length := List.append_cancel_left e
  have ex := inC_take ha (List.mem_filter.1 hx).2
  have ey := inC_take ha (List.mem_filter.1 hy).2
  rw [e1, ← ey] at ex
  exact less_ne hl ex

/-- a log that fits, each path once: what is there behind it -/
theorem fit_get {t : List Nod} {cs : List Cmd} (ht : treeOk t = true) (ha : (allF t cs).2 = cs.length) (hn : (cs.map (·.p)).Nodup) {c : Cmd} (hc : c ∈ cs) (hp : c.p ≠ [47]) : getT t c.p = c.f ∧ getT (allF t cs).1 c.p = c.t := by
  obtain ⟨o1, o2, rfl⟩ := List.append_of_mem hc
  obtain ⟨b1, b2⟩ := all_at ha
  rw [List.map_append, List.map_cons] at hn
  obtain ⟨n1, n2, n3⟩ := List.nodup_append.1 hn
  have hx1 : ∀ d ∈ o1, d.p ≠ c.p := fun d h => n3 d.p (List.mem_map.2 ⟨d, h, rfl⟩) c.p List.mem_cons_self
  have hx2 : ∀ d ∈ o2, d.p ≠ c.p := fun d h e => (List.nodup_cons.1 n2).1 (by rw [← e]; exact List.mem_map.2 ⟨d, h, rfl⟩)
  have hu := allF_ok o1 ht
  obtain ⟨x1, x2, x3⟩ := apF_yes b2
  refine ⟨?_, ?_⟩
  · rw [← x1]
    exact (allF_other o1 t ht fun k d _ hk => hx1 d (List.mem_of_getElem? hk)).symm
  · rw [allF_append, if_pos b1]
    show getT (allF (allF t o1).1 (c :: o2)).1 c.p = c.t
    rw [allF, if_pos b2]
    show getT (allF (apF (allF t o1).1 c).1 o2).1 c.p = c.t
    rw [allF_other o2 _ (apF_ok hu) fun k d _ hk => hx2 d (List.mem_of_getElem? hk), x3, getT, if_neg hp, getF_put ((treeOk_iff _).1 hu).2.1 (treePutF_ok x2).2.2.1, if_pos rfl]

theorem fit_len : ∀ (cs : List Cmd) (t : List Nod), treeOk t = true → (∀ c ∈ cs, cmdOk c = true ∧ c.f = ⟨0, 0⟩) → (allF t cs).2 = cs.length → (allF t cs).1.length = t.length + cs.length
  | [], t, _, _, _ => rfl
  | c :: r, t, ht, hc, ha => by
    obtain ⟨ho, hf⟩ := hc c List.mem_cons_self
    have hy : (apF t c).2 = true := (all_at (a := []) (x := c) (b := r) ha).2
    unfold allF at ha ⊢
    rw [if_pos hy] at ha ⊢
    have ih := fit_len r _ (apF_ok (c := c) ht) (fun d h => hc d (List.mem_cons_of_mem _ h)) (by simpa using ha)
    obtain ⟨x1, x2, x3⟩ := apF_yes hy
    have hk : c.t.k ≠ 0 := fun e => cmdOk_ne ho (by rw [hf, con_zero (cmdOk_con ho).2 e])
    have hg : (getF t c.p).k = 0 := by
      rw [getT, if_neg (cmdOk_path ho).2] at x1
      rw [x1, hf]
    have hpl := put_len ht c.p c.t hk
    rw [if_pos hg] at hpl
    simp only
    rw [ih, x3, hpl, List.length_cons]
    omega

theorem filter_or {p q : Nod → Bool} : ∀ (t : List Nod), (∀ x ∈ t, p x = true → q x = false) → (t.filter fun x => p x || q x).length = (t.filter p).length + (t.filter q).length
  | [], _ => rfl
  | x :: r, h => by
    have ih := filter_or r fun y hy => h y (List.mem_cons_of_mem _ hy)
    have hx := h x List.mem_cons_self
    cases hp : p x with
    | true =>
      rw [List.filter_cons, if_pos (by simp [hp]), List.filter_cons, if_pos hp, List.filter_cons, if_neg (by simp [hx hp]), List.length_cons, List.length_cons, ih]
      omega
    | false =>
      cases hq : q x with
      | true =>
        rw [List.filter_cons, if_pos (by simp [hq]), List.filter_cons, if_neg (by simp [hp]), List.filter_cons, if_pos hq, List.length_cons, List.length_cons, ih]
        omega
      | false => rw [List.filter_cons, if_neg (by simp [hp, hq]), List.filter_cons, if_neg (by simp [hp]), List.filter_cons, if_neg (by simp [hq]), ih]

theorem cop_len {t : List Nod} (ht : treeOk t = true) {a b : List UInt8} {x : Nod} (hx : x ∈ t) (e : x.p = a) : (copL t a b).length = (underL t a).length + 1 := by
  have s := ((treeOk_iff t).1 ht).2.1
  rw [copL, List.length_map, underL, List.length_map]
  have h1 := filter_or (p := fun n => decide (n.p = a)) (q := fun n => underI a n.p) t fun y _ hy => by
    rw [decide_eq_true_eq] at hy
    rw [hy, under_irrefl]
  have h2 : (t.filter fun n => decide (n.p = a)).length + (delI t a).length = t.length := by
    rw [delI]
    clear hx ht s h1
    induction t with
    | nil => rfl
    | cons y r ih =>
      by_cases e : y.p = a
      · rw [List.filter_cons, if_pos (by simp [e]), List.filter_cons, if_neg (by simp [e]), List.length_cons, List.length_cons]
        omega
      · rw [List.filter_cons, if_neg (by simp [e]), List.filter_cons, if_pos (by simp [e]), List.length_cons, List.length_cons]
        omega
  have h3 := del_len s x hx e
  show (t.filter fun n => decide (n.p = a) || underI a n.p).length = _
  rw [h1]
  omega

theorem cop_new {t : List Nod} {a b : List UInt8} (ht : treeOk t = true) (hl : logOk (copL t a b) = true) (ha : (allF t (copL t a b)).2 = (copL t a b).length) (h47 : a ≠ [47]) {n : Nod} (hn : n ∈ t) (hi : inC a n = true) :
    treeGetF (allF t (copL t a b)).1 (b ++ n.p.drop a.length) = n.c ∧ pathOk (b ++ n.p.drop a.length) = true := by
  have hm : copC a b n ∈ copL t a b := List.mem_map.2 ⟨n, List.mem_filter.2 ⟨hn, hi⟩, rfl⟩
  have ho := logOk_mem0 hl hm
  obtain ⟨q1, q2⟩ := cmdOk_path ho
  have h2 := (fit_get ht ha (cop_nodup ((treeOk_iff t).1 ht).2.1 h47) hm q2).2
  refine ⟨?_, q1⟩
  rw [treeGetF, allF_ok _ ht]
  show (if (!true || !pathOk (copC a b n).p) = true then _ else getT _ (copC a b n).p) = n.c
  rw [q1, if_neg (by simp), h2]
  rfl

theorem cop_old {t : List Nod} {a b : List UInt8} (ht : treeOk t = true) (hl : logOk (copL t a b) = true) (ha : (allF t (copL t a b)).2 = (copL t a b).length) (h47 : a ≠ [47]) {n : Nod} (hn : n ∈ t) :
    treeGetF (allF t (copL t a b)).1 n.p = n.c := by
  have s := ((treeOk_iff t).1 ht).2.1
  obtain ⟨q1, q2⟩ := nod_path ht hn
  have hg : getT t n.p = n.c := by rw [getT, if_neg q2, getF_of_mem s hn]
  rw [treeGetF, allF_ok _ ht, q1, if_neg (by simp), allF_other _ t ht fun k c _ hk e => ?_, hg]
  have hm := List.mem_of_getElem? hk
  have ho := logOk_mem0 hl hm
  have h1 := (fit_get ht ha (cop_nodup s h47) hm (cmdOk_path ho).2).1
  obtain ⟨z, _, rfl⟩ := List.mem_map.1 hm
  rw [e, hg] at h1
  exact nod_nz ht n hn (by rw [h1]; rfl)

end Go.Proofs.YtlmlnbmagmembaaDoor
