import Derived.Test.YtlmlnbmagmembaaDoorConM
import Derived.Test.YtlmlnbmagmembaaDoorLawO
import Derived.Test.YtlmlnbmagmembaaDoorUnder
set_option linter.unusedSimpArgs false
set_option maxRecDepth 10000
namespace Go.Proofs.YtlmlnbmagmembaaDoor
open Go Go.RowKit

/-! ### logs that fit a tree -/

theorem apF_yes {t : List Nod} {c : Cmd} (h : (apF t c).2 = true) : getT t c.p = c.f ∧ (treePutF t c.p c.t).2 = true ∧ (apF t c).1 = putF t c.p c.t := by
  unfold apF at h ⊢
  split at h
  · rename_i h1
    rw [if_pos h1]
    exact ⟨h1.1, h1.2, (treePutF_ok h1.2).2.2.2.1⟩
  · cases h

theorem apF_other {t : List Nod} {c : Cmd} (ht : treeOk t = true) (h : (apF t c).2 = true) {q : List UInt8} (hq : q ≠ c.p) : getT (apF t c).1 q = getT t q := by
  obtain ⟨h1, h2, h3⟩ := apF_yes h
  rw [h3, getT, getT, getF_put ((treeOk_iff t).1 ht).2.1 (treePutF_ok h2).2.2.1, if_neg hq]

/-- what no command names stays -/
theorem allF_other {q : List UInt8} : ∀ (cs : List Cmd) (t : List Nod), treeOk t = true → (∀ (k : Nat) c, k < (allF t cs).2 → cs[k]? = some c → c.p ≠ q) → getT (allF t cs).1 q = getT t q
  | [], t, _, _ => rfl
  | c :: r, t, ht, h => by
    unfold allF at h ⊢
    split
    · rename_i h1
      rw [if_pos h1] at h
      have hc : c.p ≠ q := h 0 c (by simp only; omega) rfl
      have ih := allF_other r (apF t c).1 (apF_ok ht) fun k d hk hd => h (k + 1) d (by simp only; omega) (by simpa using hd)
      rw [ih, apF_other ht h1 fun e => hc e.symm]
    · rfl

theorem con_zero {c : Con} (h : conOk c = true) (hk : c.k = 0) : c = ⟨0, 0⟩ := by
  refine con_eta hk ?_
  simp only [conOk, hk] at h
  simpa using h

theorem con_dir {c : Con} (h : conOk c = true) (hk : c.k = 1) : c = ⟨1, 0⟩ := by
  refine con_eta hk ?_
  simp only [conOk, hk] at h
  simpa using h

theorem cmdOk_con {c : Cmd} (h : cmdOk c = true) : conOk c.f = true ∧ conOk c.t = true := by
  simp only [cmdOk, Bool.and_eq_true] at h
  exact ⟨h.1.1.2, h.1.2⟩

/-- what is above a command that is done is a directory -/
theorem ap_above {t : List Nod} {x : Cmd} (ht : treeOk t = true) (hx : cmdOk x = true) (h : (apF t x).2 = true) {p : List UInt8} (hp : pathOk p = true) (hu : underI p x.p = true) : (getT t p).k = 1 := by
  obtain ⟨h1, h2, h3⟩ := apF_yes h
  obtain ⟨k1, k2, k3, k4, k5⟩ := treePutF_ok h2
  obtain ⟨q1, q2⟩ := cmdOk_path hx
  obtain ⟨c1, c2⟩ := cmdOk_con hx
  by_cases hf : x.f.k = 0
  · have htk : x.t.k ≠ 0 := fun e => cmdOk_ne hx (by rw [con_zero c1 hf, con_zero c2 e])
    have hg := getF_put ((treeOk_iff t).1 k1).2.1 k3 x.p x.p
    rw [if_pos rfl] at hg
    obtain ⟨y, hy, e, _⟩ := getF_mem (t := putF t x.p x.t) (p := x.p) (by rw [hg]; exact htk)
    have hd := under_dir k5 hp y.p.length y (Nat.le_refl _) hy (by rw [e]; exact hu)
    have hne : p ≠ x.p := fun e' => by
      rw [e', under_irrefl] at hu
      cases hu
    rwa [← h3, apF_other ht h hne] at hd
  · have hg : getF t x.p = x.f := by rw [← h1, getT, if_neg q2]
    obtain ⟨y, hy, e, _⟩ := getF_mem (t := t) (p := x.p) (by rw [hg]; exact hf)
    exact under_dir ht hp y.p.length y (Nat.le_refl _) hy (by rw [e]; exact hu)

theorem allF_le : ∀ (cs : List Cmd) (t : List Nod), (allF t cs).2 ≤ cs.length
  | [], t => Nat.le_refl _
  | c :: r, t => by
    unfold allF
    split
    · have := allF_le r (apF t c).1
      simp only [List.length_cons]
      omega
    · simp

theorem all_at {t : List Nod} {a b : List Cmd} {x : Cmd} (h : (allF t (a ++ x :: b)).2 = (a ++ x :: b).length) : (allF t a).2 = a.length ∧ (apF (allF t a).1 x).2 = true := by
  rw [allF_append] at h
  by_cases h1 : (allF t a).2 = a.length
  · rw [if_pos h1] at h
    refine ⟨h1, ?_⟩
    cases h2 : (apF (allF t a).1 x).2 with
    | true => rfl
    | false =>
      exfalso
      rw [allF, h2] at h
      simp at h
  · exfalso
    rw [if_neg h1] at h
    simp only [List.length_append, List.length_cons] at h
    have := h1
    have hle : (allF t a).2 ≤ a.length := allF_le a t
    omega

/-- a log that fits, with each path once, is in a possible order -/
theorem fits_pair : ∀ (cs : List Cmd) (t : List Nod), treeOk t = true → (∀ c ∈ cs, cmdOk c = true) → (allF t cs).2 = cs.length → (cs.map (·.p)).Nodup → cs.Pairwise fun y x => mustI x y = false
  | [], _, _, _, _, _ => List.Pairwise.nil
  | y :: r, t, ht, hc, ha, hn => by
    obtain ⟨hn1, hn2⟩ := List.nodup_cons.1 (show (y.p :: r.map (·.p)).Nodup from hn)
    have hy : (apF t y).2 = true := (all_at (a := []) (x := y) (b := r) ha).2
    have ht1 := apF_ok (c := y) ht
    have ha1 : (allF (apF t y).1 r).2 = r.length := by
      unfold allF at ha
      rw [if_pos hy] at ha
      simpa using ha
    refine List.pairwise_cons.2 ⟨fun x hx => ?_, fits_pair r _ ht1 (fun c h => hc c (List.mem_cons_of_mem _ h)) ha1 hn2⟩
    have hyo := hc y List.mem_cons_self
    have hxo := hc x (List.mem_cons_of_mem _ hx)
    obtain ⟨r1, r2, rfl⟩ := List.append_of_mem hx
    obtain ⟨b1, b2⟩ := all_at ha1
    have htx := allF_ok r1 ht1
    rw [List.map_append, List.map_cons] at hn1 hn2
    have hyx : y.p ≠ x.p := fun e => hn1 (by rw [e]; simp)
    have hyr : ∀ c ∈ r1, c.p ≠ y.p := fun c h e => hn1 (List.mem_append_left _ (List.mem_map.2 ⟨c, h, e⟩))
    have hxr : ∀ c ∈ r1, c.p ≠ x.p := fun c h e => (List.nodup_append.1 hn2).2.2 c.p (List.mem_map.2 ⟨c, h, rfl⟩) x.p List.mem_cons_self e
    have gy : getT (allF (apF t y).1 r1).1 y.p = getT (apF t y).1 y.p := allF_other r1 _ ht1 fun k c _ hk => hyr c (List.mem_of_getElem? hk)
    have gx : getT (allF (apF t y).1 r1).1 x.p = getT (apF t y).1 x.p := allF_other r1 _ ht1 fun k c _ hk => hxr c (List.mem_of_getElem? hk)
    obtain ⟨y1, y2, y3⟩ := apF_yes hy
    obtain ⟨x1, x2, x3⟩ := apF_yes b2
    obtain ⟨q1, q2⟩ := cmdOk_path hyo
    obtain ⟨p1, p2⟩ := cmdOk_path hxo
    obtain ⟨cy1, cy2⟩ := cmdOk_con hyo
    obtain ⟨cx1, cx2⟩ := cmdOk_con hxo
    cases hm : mustI x y with
    | false => rfl
    | true =>
      exfalso
      simp only [mustI, Bool.or_eq_true, Bool.and_eq_true, decide_eq_true_eq] at hm
      rcases hm with ⟨m1, m2⟩ | ⟨m1, m2⟩
      · have := ap_above htx hxo b2 q1 m1
        rw [gy, y3, getT, if_neg q2, getF_put ((treeOk_iff t).1 ht).2.1 (treePutF_ok y2).2.2.1, if_pos rfl] at this
        exact cmdOk_ne hyo (by rw [con_dir cy1 m2, con_dir cy2 this])
      · have := ap_above ht hyo hy p1 m1
        rw [← apF_other ht hy hyx.symm, ← gx, x1] at this
        exact cmdOk_ne hxo (by rw [con_dir cx1 this, con_dir cx2 m2])

end Go.Proofs.YtlmlnbmagmembaaDoor
