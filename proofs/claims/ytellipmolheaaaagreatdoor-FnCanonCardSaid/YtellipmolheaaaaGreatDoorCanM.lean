import Derived.Test.YtellipmolheaaaaGreatDoorCan
set_option linter.unusedSimpArgs false
set_option maxRecDepth 10000
namespace Go.Proofs.YtellipmolheaaaaGreatDoor
open Go Go.RowKit

/-! ### how a canonical log is made -/

theorem before_trans' {a b c : Cmd} (h1 : beforeF a b = true) (h2 : beforeF b c = true) : beforeF a c = true := by
  unfold beforeF at *
  cases ha : endsF a <;> cases hb : endsF b <;> cases hc : endsF c <;> simp only [ha, hb, hc, Bool.and_true, Bool.and_false, Bool.true_and, Bool.false_and, Bool.not_true, Bool.not_false, if_true, if_false, Bool.false_eq_true, reduceIte] at h1 h2 ⊢
  · exact less_trans h1 h2
  · exact less_trans h2 h1

theorem before_tri {a b : Cmd} (h : a.p ≠ b.p) (h1 : beforeF a b = false) : beforeF b a = true := by
  unfold beforeF at *
  cases ha : endsF a <;> cases hb : endsF b <;> simp only [ha, hb, Bool.and_true, Bool.and_false, Bool.true_and, Bool.false_and, Bool.not_true, Bool.not_false, if_true, if_false, Bool.false_eq_true, reduceIte] at h1 ⊢
  · exact less_tri h h1
  · cases h1
  · exact less_tri (fun e => h e.symm) h1

def put14F (cs : List Cmd) (c : Cmd) : List Cmd := cs.takeWhile (fun d => !beforeF c d) ++ c :: cs.dropWhile (fun d => !beforeF c d)

theorem put14_perm (cs : List Cmd) (c : Cmd) : (put14F cs c).Perm (c :: cs) := by
  rw [put14F]
  refine List.perm_middle.trans ?_
  rw [List.takeWhile_append_dropWhile]

theorem tw_all {α : Type} {f : α → Bool} : ∀ {l : List α} {x : α}, x ∈ l.takeWhile f → f x = true
  | [], _, h => by cases h
  | y :: l, x, h => by
    rw [List.takeWhile_cons] at h
    split at h
    · rename_i hy
      rcases List.mem_cons.1 h with rfl | h
      · exact hy
      · exact tw_all h
    · cases h

theorem put14_srt {cs : List Cmd} {c : Cmd} (hs : cs.Pairwise fun x y => beforeF x y = true) (hn : ∀ d ∈ cs, d.p ≠ c.p) : (put14F cs c).Pairwise fun x y => beforeF x y = true := by
  have hsp : cs = cs.takeWhile (fun d => !beforeF c d) ++ cs.dropWhile (fun d => !beforeF c d) := (List.takeWhile_append_dropWhile).symm
  have hs2 := hs
  rw [hsp, List.pairwise_append] at hs2
  obtain ⟨s1, s2, s3⟩ := hs2
  have htk : ∀ x ∈ cs.takeWhile (fun d => !beforeF c d), beforeF x c = true := fun x hx => by
    have h1 := tw_all hx
    exact before_tri (fun e => hn x ((List.takeWhile_sublist _).subset hx) e.symm) (by simpa using h1)
  have hdr : ∀ y ∈ cs.dropWhile (fun d => !beforeF c d), beforeF c y = true := by
    cases hd : cs.dropWhile (fun d => !beforeF c d) with
    | nil => intro y hy; cases hy
    | cons z r =>
      have hz : beforeF c z = true := by
        have := List.head?_dropWhile_not (fun d => !beforeF c d) cs
        rw [hd] at this
        simpa using this
      intro y hy
      rcases List.mem_cons.1 hy with rfl | hy
      · exact hz
      · rw [hd] at s2
        exact before_trans' hz ((List.pairwise_cons.1 s2).1 y hy)
  rw [put14F, List.pairwise_append]
  refine ⟨s1, List.pairwise_cons.2 ⟨hdr, s2⟩, fun x hx y hy => ?_⟩
  rcases List.mem_cons.1 hy with rfl | hy
  · exact htk x hx
  · exact s3 x hx y hy

def sort14F (cs : List Cmd) : List Cmd := cs.foldl put14F []

theorem sort14_all : ∀ (cs acc : List Cmd), (acc.Pairwise fun x y => beforeF x y = true) → ((acc ++ cs).map (·.p)).Nodup → (cs.foldl put14F acc).Perm (acc ++ cs) ∧ (cs.foldl put14F acc).Pairwise fun x y => beforeF x y = true
  | [], acc, hs, _ => ⟨by simp, hs⟩
  | c :: r, acc, hs, hn => by
    have hp := put14_perm acc c
    have hp2 : (put14F acc c ++ r).Perm (acc ++ c :: r) := ((hp.append_right r).trans (List.perm_middle (l₁ := acc) (l₂ := r) (a := c)).symm)
    have hn2 : ((put14F acc c ++ r).map (·.p)).Nodup := (hp2.map _).nodup_iff.2 hn
    have hnc : ∀ d ∈ acc, d.p ≠ c.p := fun d hd e => by
      rw [List.map_append, List.nodup_append] at hn
      exact hn.2.2 _ (List.mem_map.2 ⟨d, hd, rfl⟩) _ (List.mem_map.2 ⟨c, List.mem_cons_self, rfl⟩) e
    obtain ⟨h1, h2⟩ := sort14_all r (put14F acc c) (put14_srt hs hnc) hn2
    exact ⟨h1.trans hp2, h2⟩

theorem sort14_ok {cs : List Cmd} (hn : (cs.map (·.p)).Nodup) : (sort14F cs).Perm cs ∧ (sort14F cs).Pairwise fun x y => beforeF x y = true :=
  sort14_all cs [] List.Pairwise.nil hn

/-! ### the program's merging -/

def stepM (out : List Cmd) (c : Cmd) : Option (List Cmd) :=
  if idxF (fun d : Cmd => decide (d.p = c.p)) out < 0 then some (out ++ [c])
  else match out[(idxF (fun d : Cmd => decide (d.p = c.p)) out).toNat]? with
    | some d => if d.t = c.f then some (out.set (idxF (fun d : Cmd => decide (d.p = c.p)) out).toNat ⟨d.p, d.f, c.t⟩) else none
    | none => none

def mergeL (cs : List Cmd) : Option (List Cmd) := cs.foldl (fun o c => o.bind (stepM · c)) (some [])

theorem mergeL_snoc (cs : List Cmd) (c : Cmd) : mergeL (cs ++ [c]) = (mergeL cs).bind (stepM · c) := by
  rw [mergeL, List.foldl_append]
  rfl

structure MerR (pre out : List Cmd) : Prop where
  nod : (out.map (·.p)).Nodup
  mem : ∀ c, c ∈ out ↔ thr pre c.p ≠ [] ∧ chain c.f (thr pre c.p) c.t
  join : joinsP pre

theorem merR_nil : MerR [] [] := ⟨List.nodup_nil, fun c => ⟨fun h => (by cases h), fun h => absurd rfl h.1⟩, fun p => ⟨⟨0, 0⟩, _, rfl⟩⟩

theorem joins_pre {a b : List Cmd} (h : joinsP (a ++ b)) : joinsP a := fun p => by
  obtain ⟨s, e, hse⟩ := h p
  rw [thr_append] at hse
  obtain ⟨m, h1, _⟩ := chain_append.1 hse
  exact ⟨s, m, h1⟩

theorem thr_snoc (pre : List Cmd) (c : Cmd) (q : List UInt8) : thr (pre ++ [c]) q = if c.p = q then thr pre q ++ [(c.f, c.t)] else thr pre q := by
  rw [thr_append, thr_cons]
  by_cases h : c.p = q <;> simp [h, thr]

theorem idx_or {α : Type} (t : List α) (p : α → Bool) : idxF p t = -1 ∨ ∃ (i : Nat) (x : α), idxF p t = (i : Int) ∧ t[i]? = some x ∧ p x = true := by
  unfold idxF
  cases h : t.findIdx? p with
  | none => exact .inl rfl
  | some i =>
    rw [List.findIdx?_eq_some_iff_getElem] at h
    obtain ⟨h1, h2, _⟩ := h
    exact .inr ⟨i, _, rfl, List.getElem?_eq_getElem h1, h2⟩

theorem idx_no {out : List Cmd} {p : List UInt8} (h : idxF (fun d : Cmd => decide (d.p = p)) out < 0) : ∀ d ∈ out, d.p ≠ p := fun d hd e => by
  have := idxF_any (fun d : Cmd => decide (d.p = p)) out
  rw [decide_eq_false (by omega)] at this
  have h2 := List.any_eq_false.1 this.symm d hd
  simp at h2
  exact h2 e

theorem idx_at : ∀ {out : List Cmd} {p : List UInt8}, ¬ idxF (fun d : Cmd => decide (d.p = p)) out < 0 → ∃ (i : Nat) (d : Cmd), idxF (fun d : Cmd => decide (d.p = p)) out = (i : Int) ∧ out[i]? = some d ∧ d.p = p := by
  intro out p h
  rcases idx_or out (fun d : Cmd => decide (d.p = p)) with h1 | ⟨i, d, h1, h2, h3⟩
  · rw [h1] at h
    exact absurd (by decide) h
  · exact ⟨i, d, h1, h2, by simpa using h3⟩

theorem nod_at {cs : List Cmd} (h : (cs.map (·.p)).Nodup) {i j : Nat} {x y : Cmd} (hx : cs[i]? = some x) (hy : cs[j]? = some y) (e : x.p = y.p) : i = j := by
  have key : ∀ {i j : Nat} {x y : Cmd}, i < j → cs[i]? = some x → cs[j]? = some y → x.p ≠ y.p := fun {i j x y} hij hx hy => by
    obtain ⟨h1, e1⟩ := List.getElem?_eq_some_iff.1 hx
    obtain ⟨h2, e2⟩ := List.getElem?_eq_some_iff.1 hy
    have := List.pairwise_iff_getElem.1 h i j (by simpa using h1) (by simpa using h2) hij
    simpa [e1, e2] using this
  rcases Nat.lt_trichotomy i j with h | h | h
  · exact absurd e (key h hx hy)
  · exact h
  · exact absurd e.symm (key h hy hx)

theorem merR_step {pre out : List Cmd} (h : MerR pre out) (c : Cmd) : (∀ out', stepM out c = some out' → MerR (pre ++ [c]) out') ∧ (stepM out c = none → ¬ joinsP (pre ++ [c])) := by
  unfold stepM
  by_cases hi : idxF (fun d : Cmd => decide (d.p = c.p)) out < 0
  · rw [if_pos hi]
    refine ⟨fun out' e => ?_, fun e => by cases e⟩
    obtain rfl : out ++ [c] = out' := by simpa using e
    have hno := idx_no hi
    have hth : thr pre c.p = [] := Classical.byContradiction fun hne => by
      obtain ⟨s, e, hse⟩ := h.join c.p
      exact hno _ ((h.mem ⟨c.p, s, e⟩).2 ⟨hne, hse⟩) rfl
    refine ⟨?_, fun x => ?_, fun q => ?_⟩
    · rw [List.map_append, List.nodup_append]
      refine ⟨h.nod, by simp, fun a ha b hb => ?_⟩
      obtain ⟨d, hd, rfl⟩ := List.mem_map.1 ha
      simp only [List.map_cons, List.map_nil, List.mem_singleton] at hb
      rw [hb]
      exact hno d hd
    · rw [thr_snoc, List.mem_append, List.mem_singleton]
      by_cases hq : c.p = x.p
      · rw [if_pos hq, ← hq, hth]
        constructor
        · rintro (hx | rfl)
          · exact absurd hq.symm (hno x hx)
          · exact ⟨by simp, rfl, rfl⟩
        · rintro ⟨_, e1, e2⟩
          exact .inr (cmd_ext hq.symm e1.symm e2.symm)
      · rw [if_neg hq, h.mem]
        constructor
        · rintro (hx | rfl)
          · exact hx
          · exact absurd rfl hq
        · exact .inl
    · rw [thr_snoc]
      by_cases hq : c.p = q
      · rw [if_pos hq, ← hq, hth]
        exact ⟨c.f, c.t, rfl, rfl⟩
      · rw [if_neg hq]
        exact h.join q
  · rw [if_neg hi]
    obtain ⟨i, d, e1, hd, e2⟩ := idx_at hi
    rw [e1]
    simp only [Int.toNat_natCast, hd]
    have hdm := List.mem_of_getElem? hd
    obtain ⟨k1, k2⟩ := (h.mem d).1 hdm
    have hil := (List.getElem?_eq_some_iff.1 hd).1
    have only : ∀ x ∈ out, x.p = d.p → x = d := fun x hx e => by
      obtain ⟨l1, l2⟩ := (h.mem x).1 hx
      rw [e] at l1 l2
      obtain ⟨a1, a2⟩ := chain_two l1 l2 k2
      exact cmd_ext e a1 a2
    by_cases hj : d.t = c.f
    · rw [if_pos hj]
      refine ⟨fun out' e => ?_, fun e => by cases e⟩
      obtain rfl : out.set i ⟨d.p, d.f, c.t⟩ = out' := by simpa using e
      have hmap : (out.set i ⟨d.p, d.f, c.t⟩).map (·.p) = out.map (·.p) := by
        rw [List.map_set]
        apply List.ext_getElem?
        intro j
        rw [List.getElem?_set]
        split
        · rename_i hji
          subst hji
          rw [List.getElem?_map, hd]
          simp [hil]
        · rfl
      have hch : chain d.f (thr pre d.p ++ [(c.f, c.t)]) c.t := chain_append.2 ⟨d.t, k2, hj.symm, rfl⟩
      refine ⟨by rw [hmap]; exact h.nod, fun x => ?_, fun q => ?_⟩
      · rw [thr_snoc]
        by_cases hq : c.p = x.p
        · rw [if_pos hq, ← hq, ← e2]
          constructor
          · intro hx
            refine ⟨by simp, ?_⟩
            obtain ⟨j, hj1⟩ := List.getElem?_of_mem hx
            rw [List.getElem?_set] at hj1
            split at hj1
            · obtain rfl : (⟨d.p, d.f, c.t⟩ : Cmd) = x := by simpa using hj1
              exact hch
            · rename_i hji
              exact absurd (nod_at h.nod hd hj1 (by rw [e2, hq])) hji
          · rintro ⟨_, h2⟩
            obtain ⟨a1, a2⟩ := chain_two (by simp) hch h2
            have : x = ⟨d.p, d.f, c.t⟩ := cmd_ext (by rw [← hq, e2]) a1.symm a2.symm
            rw [this]
            exact List.mem_set hil _
        · rw [if_neg hq, ← h.mem x]
          constructor
          · intro hx
            rcases List.mem_or_eq_of_mem_set hx with hx | hx
            · exact hx
            · exact absurd (by rw [hx, e2]) hq
          · intro hx
            obtain ⟨j, hj1⟩ := List.getElem?_of_mem hx
            have hji : i ≠ j := fun e => by
              rw [← e, hd] at hj1
              have : d = x := by simpa using hj1
              exact hq (by rw [← this, e2])
            exact List.mem_of_getElem? (i := j) (by rw [List.getElem?_set, if_neg hji]; exact hj1)
      · rw [thr_snoc]
        by_cases hq : c.p = q
        · rw [if_pos hq, ← hq, ← e2]
          exact ⟨_, _, hch⟩
        · rw [if_neg hq]
          exact h.join q
    · rw [if_neg hj]
      refine ⟨fun out' e => by simp at e, fun _ hjn => ?_⟩
      obtain ⟨s, e, hse⟩ := hjn c.p
      rw [thr_snoc, if_pos rfl, ← e2] at hse
      obtain ⟨m, h3, h4⟩ := chain_append.1 hse
      obtain ⟨_, a2⟩ := chain_two k1 h3 k2
      exact hj (by rw [← a2]; exact h4.1.symm)

theorem take_snoc {α : Type} {l : List α} {i : Nat} {x : α} (hx : l[i]? = some x) : l.take (i + 1) = l.take i ++ [x] := by
  rw [List.take_add_one, hx]
  rfl

theorem mergeL_take (cs : List Cmd) : ∀ i, i ≤ cs.length → (∀ m, mergeL (cs.take i) = some m → MerR (cs.take i) m) ∧ (mergeL (cs.take i) = none → ¬ joinsP (cs.take i))
  | 0, _ => ⟨fun m h => by
      obtain rfl : [] = m := by simpa [mergeL] using h
      exact merR_nil, fun h => by simp [mergeL] at h⟩
  | i + 1, hi => by
    obtain ⟨x, hx⟩ := at_some (l := cs) (i := i) (by omega)
    obtain ⟨h1, h2⟩ := mergeL_take cs i (by omega)
    rw [take_snoc hx, mergeL_snoc]
    cases hm : mergeL (cs.take i) with
    | none => exact ⟨fun m h => by simp at h, fun _ hj => h2 hm (joins_pre hj)⟩
    | some out => exact merR_step (h1 out hm) x

theorem mergeL_ok {cs m : List Cmd} (h : mergeL cs = some m) : MerR cs m := by
  have := (mergeL_take cs cs.length (Nat.le_refl _)).1
  rw [List.take_length] at this
  exact this m h

theorem mergeL_none {cs : List Cmd} (h : mergeL cs = none) : ¬ joinsP cs := by
  have := (mergeL_take cs cs.length (Nat.le_refl _)).2
  rw [List.take_length] at this
  exact this h

/-- it does something -/
def neB (c : Cmd) : Bool := !(decide (c.f.k = c.t.k) && decide (c.f.v = c.t.v))

theorem neB_iff {c : Cmd} : neB c = true ↔ c.f ≠ c.t := by
  constructor
  · intro h e
    rw [neB, e] at h
    simp at h
  · intro h
    rw [neB, con_decB h]
    rfl

theorem canR_of {cs m out : List Cmd} (h : MerR cs m) (hp : out.Perm (m.filter neB)) (hs : out.Pairwise fun x y => beforeF x y = true) : CanR cs out := by
  refine ⟨hs, ?_, fun c => ?_⟩
  · exact ((hp.map _).nodup_iff).2 ((List.filter_sublist.map _).nodup h.nod)
  · rw [hp.mem_iff, List.mem_filter, h.mem, neB_iff, and_assoc]

def canonF (cs : List Cmd) : List Cmd × Bool :=
  if logOk cs = true then (match mergeL cs with
    | some m => (sort14F (m.filter neB), true)
    | none => ([], false)) else ([], false)

theorem sort_filter {cs m : List Cmd} (h : MerR cs m) : CanR cs (sort14F (m.filter neB)) := by
  obtain ⟨h1, h2⟩ := sort14_ok (cs := m.filter neB) ((List.filter_sublist.map _).nodup h.nod)
  exact canR_of h h1 h2

theorem canonF_yes {cs : List Cmd} (h : (canonF cs).2 = true) : logOk cs = true ∧ joinsP cs ∧ CanR cs (canonF cs).1 := by
  unfold canonF at h ⊢
  split at h
  · rename_i h1
    rw [if_pos h1]
    cases hm : mergeL cs with
    | none => rw [hm] at h; cases h
    | some m => exact ⟨h1, (mergeL_ok hm).join, sort_filter (mergeL_ok hm)⟩
  · cases h

theorem canonF_no {cs : List Cmd} (h : (canonF cs).2 = false) : (canonF cs).1 = [] ∧ ¬ (logOk cs = true ∧ joinsP cs) := by
  unfold canonF at h ⊢
  split at h
  · rename_i h1
    rw [if_pos h1]
    cases hm : mergeL cs with
    | none => exact ⟨rfl, fun hj => mergeL_none hm hj.2⟩
    | some m => rw [hm] at h; cases h
  · rename_i h1
    rw [if_neg h1]
    exact ⟨rfl, fun hj => h1 hj.1⟩

theorem canonF_not {cs : List Cmd} (h : ¬ (logOk cs = true ∧ joinsP cs)) : canonF cs = ([], false) := by
  cases hb : (canonF cs).2 with
  | false => rw [← (canonF_no hb).1, ← hb]
  | true =>
    obtain ⟨h1, h2, _⟩ := canonF_yes hb
    exact absurd ⟨h1, h2⟩ h

end Go.Proofs.YtellipmolheaaaaGreatDoor
