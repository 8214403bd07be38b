import Derived.Test.YtlmlnbmagmembaaDoorBack
import Derived.Test.YtlmlnbmagmembaaDoorSrt
set_option linter.unusedSimpArgs false
set_option maxRecDepth 10000
namespace Go.Proofs.YtlmlnbmagmembaaDoor
open Go Go.RowKit

theorem get_eq {t u : List Nod} {p q : List UInt8} (ht : treeOk t = true) (hu : treeOk u = true) (hp : p ≠ [47]) (hq : q ≠ [47]) (h : ∀ c, (⟨p, c⟩ : Nod) ∈ t ↔ (⟨q, c⟩ : Nod) ∈ u) : getT t p = getT u q := by
  rw [getT, getT, if_neg hp, if_neg hq]
  by_cases hk : (getF t p).k = 0
  · rw [con_zero (getF_ok ht p) hk]
    by_cases hk2 : (getF u q).k = 0
    · rw [con_zero (getF_ok hu q) hk2]
    · exfalso
      obtain ⟨x, hx, e, e2⟩ := getF_mem hk2
      have h3 : (⟨p, x.c⟩ : Nod) ∈ t := (h x.c).2 (by rw [← e]; exact hx)
      have h4 := getF_of_mem ((treeOk_iff t).1 ht).2.1 h3
      simp only at h4
      rw [h4] at hk
      rw [e2] at hk2
      exact hk2 hk
  · obtain ⟨x, hx, e, e2⟩ := getF_mem hk
    have h3 : (⟨q, x.c⟩ : Nod) ∈ u := (h x.c).1 (by rw [← e]; exact hx)
    have h4 := getF_of_mem ((treeOk_iff u).1 hu).2.1 h3
    rw [e2]
    exact h4.symm

/-- what a log that makes new nodes leaves -/
theorem all_mem : ∀ (cs : List Cmd) (t : List Nod), treeOk t = true → (∀ c ∈ cs, c.f = ⟨0, 0⟩ ∧ c.t.k ≠ 0 ∧ c.p ≠ [47]) → (allF t cs).2 = cs.length → ∀ y, y ∈ (allF t cs).1 ↔ y ∈ t ∨ ∃ c ∈ cs, y = ⟨c.p, c.t⟩
  | [], t, _, _, _, y => by simp [allF]
  | c :: r, t, ht, hc, ha, y => by
    have hy : (apF t c).2 = true := (all_at (a := []) (x := c) (b := r) ha).2
    obtain ⟨g1, g2, g3⟩ := apF_yes hy
    have ht1 := apF_ok (c := c) ht
    unfold allF at ha
    rw [if_pos hy] at ha
    have ih := all_mem r _ ht1 (fun d h => hc d (List.mem_cons_of_mem _ h)) (by simpa using ha) y
    have e1 : (allF t (c :: r)).1 = (allF (apF t c).1 r).1 := by rw [allF, if_pos hy]
    obtain ⟨k1, k2, k3⟩ := hc c List.mem_cons_self
    have hs := ((treeOk_iff t).1 ht).2.1
    rw [e1, ih, g3, mem_put hs]
    have hno : ∀ y ∈ t, y.p ≠ c.p := fun y hy e => by
      have h4 := getF_of_mem hs hy
      rw [k1, getT, if_neg k3, ← e, h4] at g1
      exact nod_nz ht y hy (by rw [g1])
    constructor
    · rintro ((⟨h, _⟩ | ⟨_, h⟩) | ⟨d, hd, h⟩)
      · exact .inl h
      · exact .inr ⟨c, List.mem_cons_self, h⟩
      · exact .inr ⟨d, List.mem_cons_of_mem _ hd, h⟩
    · rintro (h | ⟨d, hd, h⟩)
      · exact .inl (.inl ⟨h, hno y h⟩)
      · rcases List.mem_cons.1 hd with rfl | hd
        · exact .inl (.inr ⟨k2, h⟩)
        · exact .inr ⟨d, hd, h⟩

theorem less_app : ∀ (b s t : List UInt8), Op.bytesLess (b ++ s) (b ++ t) = Op.bytesLess s t
  | [], _, _ => rfl
  | c :: b, s, t => by
    rw [List.cons_append, List.cons_append, Op.bytesLess, less_app b s t]
    simp

/-! ### a copy that fits -/

structure CopyOk (t : List Nod) (a b : List UInt8) : Prop where
  ht : treeOk t = true
  pa : pathOk a = true
  na : a ≠ [47]
  pb : pathOk b = true
  nb : b ≠ [47]
  ga : (getT t a).k ≠ 0
  nu : inC a ⟨b, ⟨0, 0⟩⟩ = false
  lk : logOk (copL t a b) = true
  al : (allF t (copL t a b)).2 = (copL t a b).length

theorem inC_path {a : List UInt8} {n m : Nod} (e : n.p = m.p) : inC a n = inC a m := by rw [inC, inC, e]

theorem inC_no {a b q : List UInt8} {c d : Con} (na : a ≠ [47]) (nb : b ≠ [47]) (h : inC a ⟨b, d⟩ = false) (hl : a.length ≤ b.length) (h1 : inC a ⟨q, c⟩ = true) (h2 : inC b ⟨q, c⟩ = true) : False := by
  have t1 := inC_take na h1
  have t2 := inC_take nb h2
  have l1 := inC_len h1 na
  have l2 := inC_len h2 nb
  simp only at t1 t2 l1 l2
  have hb : q.take b.length = b := by rw [t2, List.take_left]
  have ha : q.take a.length = a := by rw [t1, List.take_left]
  have hba : b.take a.length = a := by rw [← hb, List.take_take, Nat.min_eq_left hl, ha]
  simp only [inC, Bool.or_eq_false_iff, decide_eq_false_iff_not] at h
  obtain ⟨h3, h4⟩ := h
  rcases Nat.lt_or_ge a.length b.length with hlt | hge
  · unfold inC underI at h1
    rw [if_neg na, Bool.or_eq_true, Bool.and_eq_true, decide_eq_true_eq, decide_eq_true_eq, decide_eq_true_eq] at h1
    rcases h1 with e | ⟨_, e⟩
    · simp only at e
      rw [e] at l2
      omega
    · unfold underI at h4
      rw [if_neg na, Bool.and_eq_false_iff, decide_eq_false_iff_not, decide_eq_false_iff_not] at h4
      rcases h4 with h4 | h4
      · omega
      · apply h4
        simp only at e
        rw [← hb, List.take_take, Nat.min_eq_left (by omega), e]
  · apply h3
    rw [← hba, List.take_of_length_le hge]

section
variable {t : List Nod} {a b : List UInt8}

theorem CopyOk.root (h : CopyOk t a b) : getT t b = ⟨0, 0⟩ := by
  have hg := h.ga
  rw [getT, if_neg h.na] at hg
  obtain ⟨x, hx, e, e2⟩ := getF_mem hg
  have hc : copC a b x ∈ copL t a b := List.mem_map.2 ⟨x, List.mem_filter.2 ⟨hx, by rw [inC, decide_eq_true e]; rfl⟩, rfl⟩
  have hp : (copC a b x).p = b := by rw [copC, e, List.drop_length, List.append_nil]
  have := (fit_get h.ht h.al (cop_nodup ((treeOk_iff t).1 h.ht).2.1 h.na) hc (by rw [hp]; exact h.nb)).1
  rwa [hp] at this

theorem CopyOk.noB (h : CopyOk t a b) : ∀ n ∈ t, inC b n = false := fun n hn => by
  have hr := h.root
  rw [inC, Bool.or_eq_false_iff, decide_eq_false_iff_not]
  refine ⟨fun e => ?_, ?_⟩
  · have h4 := getF_of_mem ((treeOk_iff t).1 h.ht).2.1 hn
    rw [getT, if_neg h.nb, ← e, h4] at hr
    exact nod_nz h.ht n hn (by rw [hr])
  · cases hu : underI b n.p with
    | false => rfl
    | true =>
      have := under_dir h.ht h.pb n.p.length n (Nat.le_refl _) hn hu
      rw [hr] at this
      cases this

theorem CopyOk.nuB (h : CopyOk t a b) : inC b ⟨a, ⟨0, 0⟩⟩ = false := by
  have hg := h.ga
  rw [getT, if_neg h.na] at hg
  obtain ⟨x, hx, e, e2⟩ := getF_mem hg
  rw [← h.noB x hx]
  exact inC_path e.symm

theorem CopyOk.apart (h : CopyOk t a b) {q : List UInt8} {c : Con} (h1 : inC a ⟨q, c⟩ = true) (h2 : inC b ⟨q, c⟩ = true) : False := by
  rcases Nat.le_total a.length b.length with hl | hl
  · exact inC_no h.na h.nb h.nu hl h1 h2
  · exact inC_no h.nb h.na h.nuB hl h2 h1

theorem CopyOk.mem (h : CopyOk t a b) (y : Nod) : y ∈ (allF t (copL t a b)).1 ↔ y ∈ t ∨ ∃ m ∈ t, inC a m = true ∧ y = ⟨b ++ m.p.drop a.length, m.c⟩ := by
  rw [all_mem _ t h.ht (fun c hc => by
    have hok := logOk_mem0 h.lk hc
    obtain ⟨n, hn, rfl⟩ := List.mem_map.1 hc
    refine ⟨rfl, nod_nz h.ht n (List.mem_filter.1 hn).1, ?_⟩
    unfold cmdOk at hok
    simp only [Bool.and_eq_true, decide_eq_true_eq] at hok
    exact (depth_path hok.1.1.1).2) h.al]
  constructor
  · rintro (hy | ⟨c, hc, hy⟩)
    · exact .inl hy
    · obtain ⟨n, hn, rfl⟩ := List.mem_map.1 hc
      obtain ⟨h1, h2⟩ := List.mem_filter.1 hn
      exact .inr ⟨n, h1, h2, hy⟩
  · rintro (hy | ⟨m, h1, h2, hy⟩)
    · exact .inl hy
    · exact .inr ⟨copC a b m, List.mem_map.2 ⟨m, List.mem_filter.2 ⟨h1, h2⟩, rfl⟩, hy⟩

theorem CopyOk.uok (h : CopyOk t a b) : treeOk (allF t (copL t a b)).1 = true := allF_ok _ h.ht

theorem inC_app {b s : List UInt8} {c : Con} (nb : b ≠ [47]) (hs : s = [] ∨ ∃ r, s = 47 :: r) : inC b ⟨b ++ s, c⟩ = true := by
  rcases hs with rfl | ⟨r, rfl⟩
  · rw [inC, List.append_nil, decide_eq_true rfl]
    rfl
  · rw [inC, underI, if_neg nb]
    have e1 : (b ++ 47 :: r).take (b.length + 1) = b ++ [47] := by
      rw [show b ++ 47 :: r = (b ++ [47]) ++ r by simp]
      exact List.take_left' (by simp)
    simp only [e1]
    simp

theorem inC_tail {a : List UInt8} {n : Nod} (na : a ≠ [47]) (h : inC a n = true) : n.p.drop a.length = [] ∨ ∃ r, n.p.drop a.length = 47 :: r := by
  unfold inC underI at h
  rw [if_neg na, Bool.or_eq_true, Bool.and_eq_true, decide_eq_true_eq, decide_eq_true_eq, decide_eq_true_eq] at h
  rcases h with e | ⟨h1, h2⟩
  · left
    rw [e, List.drop_length]
  · right
    refine ⟨n.p.drop (a.length + 1), ?_⟩
    have e3 : n.p = a ++ 47 :: n.p.drop (a.length + 1) := by
      have := (List.take_append_drop (a.length + 1) n.p).symm
      rw [h2] at this
      simpa using this
    have e4 := congrArg (List.drop a.length) e3
    rwa [List.drop_left] at e4

theorem CopyOk.newB (h : CopyOk t a b) {m : Nod} (hi : inC a m = true) : inC b ⟨b ++ m.p.drop a.length, m.c⟩ = true := inC_app h.nb (inC_tail h.na hi)

/-- the nodes at the first path stay -/
theorem CopyOk.fA (h : CopyOk t a b) : (allF t (copL t a b)).1.filter (inC a) = t.filter (inC a) := by
  refine srt_mem (srt_sub List.filter_sublist ((treeOk_iff _).1 h.uok).2.1) (srt_sub List.filter_sublist ((treeOk_iff t).1 h.ht).2.1) fun y => ?_
  rw [List.mem_filter, List.mem_filter, h.mem]
  constructor
  · rintro ⟨hy | ⟨m, h1, h2, rfl⟩, hi⟩
    · exact ⟨hy, hi⟩
    · exact (h.apart hi (h.newB h2)).elim
  · rintro ⟨hy, hi⟩
    exact ⟨.inl hy, hi⟩

/-- without what is new the tree is as it was -/
theorem CopyOk.fB (h : CopyOk t a b) : ((allF t (copL t a b)).1.filter fun n => !inC b n) = t := by
  refine srt_mem (srt_sub List.filter_sublist ((treeOk_iff _).1 h.uok).2.1) ((treeOk_iff t).1 h.ht).2.1 fun y => ?_
  rw [List.mem_filter, h.mem]
  constructor
  · rintro ⟨hy | ⟨m, h1, h2, rfl⟩, hi⟩
    · exact hy
    · rw [h.newB h2] at hi
      cases hi
  · intro hy
    exact ⟨.inl hy, by rw [h.noB y hy]; rfl⟩

theorem srt_mapN {f : Nod → Nod} {l : List Nod} (hs : srt l) (hf : ∀ x ∈ l, ∀ y ∈ l, Op.bytesLess x.p y.p = true → Op.bytesLess (f x).p (f y).p = true) : srt (l.map f) := by
  induction l with
  | nil => exact List.Pairwise.nil
  | cons x r ih =>
    rw [List.map_cons]
    refine List.Pairwise.cons (fun y hy => ?_) (ih (List.pairwise_cons.1 hs).2 fun u hu v hv => hf u (List.mem_cons_of_mem _ hu) v (List.mem_cons_of_mem _ hv))
    obtain ⟨z, hz, rfl⟩ := List.mem_map.1 hy
    exact hf x List.mem_cons_self z (List.mem_cons_of_mem _ hz) ((List.pairwise_cons.1 hs).1 z hz)

def turnN (a b : List UInt8) (n : Nod) : Nod := ⟨b ++ n.p.drop a.length, n.c⟩

/-- the new nodes are those at the first path, turned -/
theorem CopyOk.fN (h : CopyOk t a b) : (allF t (copL t a b)).1.filter (inC b) = (t.filter (inC a)).map (turnN a b) := by
  refine srt_mem (srt_sub List.filter_sublist ((treeOk_iff _).1 h.uok).2.1) (srt_mapN (srt_sub List.filter_sublist ((treeOk_iff t).1 h.ht).2.1) fun x hx y hy hl => ?_) fun y => ?_
  · have t1 := inC_take h.na (List.mem_filter.1 hx).2
    have t2 := inC_take h.na (List.mem_filter.1 hy).2
    rw [t1, t2, less_app] at hl
    show Op.bytesLess (b ++ x.p.drop a.length) (b ++ y.p.drop a.length) = true
    rw [less_app]
    exact hl
  · rw [List.mem_filter, List.mem_map, h.mem]
    constructor
    · rintro ⟨hy | ⟨m, h1, h2, rfl⟩, hi⟩
      · rw [h.noB y hy] at hi
        cases hi
      · exact ⟨m, List.mem_filter.2 ⟨h1, h2⟩, rfl⟩
    · rintro ⟨m, hm, rfl⟩
      obtain ⟨h1, h2⟩ := List.mem_filter.1 hm
      exact ⟨.inr ⟨m, h1, h2, rfl⟩, h.newB h2⟩

/-! ### a copy, and what was copied removed -/

theorem CopyOk.remA (h : CopyOk t a b) : remL (allF t (copL t a b)).1 a = remL t a := by rw [remL, h.fA, remL]
theorem CopyOk.len (h : CopyOk t a b) : (remL t a).length = (copL t a b).length := by simp [remL, copL]

/-- the tree behind a move -/
def movT (t : List Nod) (a b : List UInt8) : List Nod := (allF t (copL t a b)).1.filter fun n => !inC a n

theorem CopyOk.rem (h : CopyOk t a b) : allF (allF t (copL t a b)).1 (remL t a) = (movT t a b, (remL t a).length) := by
  have := rem_all h.na _ (allF t (copL t a b)).1 rfl h.uok
  rw [h.remA, h.fA] at this
  rw [this, movT]
  simp [remL]

theorem CopyOk.move (h : CopyOk t a b) : allF t (copL t a b ++ remL t a) = (movT t a b, (copL t a b ++ remL t a).length) := by
  rw [allF_append, if_pos h.al, h.rem, List.length_append]

theorem CopyOk.mok (h : CopyOk t a b) : treeOk (movT t a b) = true := by
  have := allF_ok (remL t a) h.uok
  rwa [h.rem] at this

theorem remC_ok {t : List Nod} (ht : treeOk t = true) {n : Nod} (hn : n ∈ t) : cmdOk (remC n) = true := by
  obtain ⟨h1, h2, h3, _⟩ := ((treeOk_iff t).1 ht).1 n hn
  have e0 : conOk (⟨0, 0⟩ : Con) = true := by rfl
  simp [cmdOk, remC, h1, h2, h3, e0]

theorem remL_mem {t : List Nod} (ht : treeOk t = true) {p : List UInt8} : ∀ c ∈ remL t p, cmdOk c = true := fun c hc => by
  obtain ⟨n, hn, rfl⟩ := List.mem_map.1 hc
  exact remC_ok ht (List.mem_filter.1 (List.mem_reverse.1 hn)).1

theorem remL_le (t : List Nod) (p : List UInt8) : (remL t p).length ≤ t.length := by
  rw [remL, List.length_map, List.length_reverse]
  exact List.length_filter_le _ _

theorem remL_ok {t : List Nod} (ht : treeOk t = true) (p : List UInt8) : logOk (remL t p) = true := by
  have := remL_le t p
  have := ((treeOk_iff t).1 ht).2.2
  rw [logOk, decide_eq_true (by omega), List.all_eq_true.2 (remL_mem ht)]
  rfl

theorem CopyOk.lok (h : CopyOk t a b) : logOk (copL t a b ++ remL t a) = true := by
  have h1 := h.len
  have h2 := remL_le t a
  have h3 := ((treeOk_iff t).1 h.ht).2.2
  rw [logOk, List.all_append, List.all_eq_true.2 (remL_mem h.ht), List.all_eq_true.2 (fun c hc => logOk_mem0 h.lk hc), List.length_append, decide_eq_true (by omega)]
  rfl

theorem CopyOk.mlen (h : CopyOk t a b) : (movT t a b).length = t.length := by
  have h1 := fit_len (copL t a b) t h.ht (fun c hc => ⟨logOk_mem0 h.lk hc, by obtain ⟨n, _, rfl⟩ := List.mem_map.1 hc; rfl⟩) h.al
  have h2 : ((allF t (copL t a b)).1.filter (inC a)).length + (movT t a b).length = (allF t (copL t a b)).1.length := by
    rw [movT]
    generalize (allF t (copL t a b)).1 = u
    induction u with
    | nil => rfl
    | cons x r ih => cases hx : inC a x <;> simp [hx] <;> omega
  have h3 : ((allF t (copL t a b)).1.filter (inC a)).length = (copL t a b).length := by rw [h.fA, copL, List.length_map]
  omega

theorem CopyOk.gone (h : CopyOk t a b) : getT (movT t a b) a = ⟨0, 0⟩ := by
  rw [getT, if_neg h.na]
  refine getF_none fun x hx e => ?_
  have := (List.mem_filter.1 hx).2
  rw [inC, decide_eq_true e] at this
  simp at this

/-! ### and back -/

theorem CopyOk.mB (h : CopyOk t a b) : (movT t a b).filter (inC b) = (allF t (copL t a b)).1.filter (inC b) := by
  rw [movT, List.filter_filter]
  refine List.filter_congr fun y _ => ?_
  cases hb : inC b y with
  | false => simp
  | true =>
    cases ha : inC a y with
    | false => simp
    | true => exact (h.apart (q := y.p) (c := y.c) ha hb).elim

theorem CopyOk.back (h : CopyOk t a b) : copL (movT t a b) b a = (remL (allF t (copL t a b)).1 a).reverse.map undoF := by
  rw [copL, h.mB, h.fN, remL, h.fA, ← List.map_reverse, List.reverse_reverse, List.map_map, List.map_map]
  refine List.map_congr_left fun n hn => ?_
  obtain ⟨h1, h2⟩ := List.mem_filter.1 hn
  have e1 : undoF (remC n) = ⟨n.p, ⟨0, 0⟩, n.c⟩ := undoF_ok (remC_ok h.ht h1)
  have e2 := inC_take h.na h2
  simp only [Function.comp, e1, copC, turnN, List.drop_left, ← e2]

theorem CopyOk.turn (h : CopyOk t a b) : CopyOk (movT t a b) b a ∧ (allF (movT t a b) (copL (movT t a b) b a)).1 = (allF t (copL t a b)).1 := by
  have hrm : ∀ c ∈ remL (allF t (copL t a b)).1 a, cmdOk c = true := remL_mem h.uok
  have hr : allF (allF t (copL t a b)).1 (remL (allF t (copL t a b)).1 a) = (movT t a b, (remL t a).length) := by rw [h.remA]; exact h.rem
  have hb := all_back (remL (allF t (copL t a b)).1 a) (allF t (copL t a b)).1 h.uok hrm (by rw [hr, h.remA])
  rw [hr, ← h.back] at hb
  simp only at hb
  have hl : (copL (movT t a b) b a).length = (remL (allF t (copL t a b)).1 a).length := by rw [h.back]; simp
  refine ⟨⟨h.mok, h.pb, h.nb, h.pa, h.na, ?_, ?_, ?_, ?_⟩, by rw [hb]⟩
  · have hg := h.ga
    rw [getT, if_neg h.na] at hg
    obtain ⟨x, hx, e, e2⟩ := getF_mem hg
    have hi : inC a x = true := by rw [inC, decide_eq_true e]; rfl
    have hm : (⟨b, x.c⟩ : Nod) ∈ movT t a b := by
      refine List.mem_filter.2 ⟨(h.mem _).2 (.inr ⟨x, hx, hi, by rw [e, List.drop_length, List.append_nil]⟩), ?_⟩
      rw [show inC a ⟨b, x.c⟩ = inC a ⟨b, ⟨0, 0⟩⟩ from inC_path rfl, h.nu]
      rfl
    have := getF_of_mem ((treeOk_iff _).1 h.mok).2.1 hm
    simp only at this
    rw [getT, if_neg h.nb, this]
    exact nod_nz h.ht x hx
  · exact h.nuB
  · have := remL_le t a
    have h3 := ((treeOk_iff t).1 h.ht).2.2
    rw [logOk, decide_eq_true (by rw [hl, h.remA]; omega), List.all_eq_true.2 (fun c hc => ?_)]
    · rfl
    · rw [h.back] at hc
      obtain ⟨d, hd, rfl⟩ := List.mem_map.1 hc
      have := hrm d (List.mem_reverse.1 hd)
      rw [undoF_ok this]
      exact cmdOk_turn this
  · rw [hb, hl]

theorem CopyOk.home (h : CopyOk t a b) : movT (movT t a b) b a = t := by
  rw [movT, h.turn.2, h.fB]

end

end Go.Proofs.YtlmlnbmagmembaaDoor
