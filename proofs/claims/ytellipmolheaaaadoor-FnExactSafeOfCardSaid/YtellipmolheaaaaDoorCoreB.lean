import Derived.Test.YtellipmolheaaaaDoorCoreA
set_option linter.unusedSimpArgs false
set_option linter.unusedVariables false
namespace Go.Proofs.YtellipmolheaaaaDoor
open Go Go.RowKit

/-! ## code -/

def Lift (X : Ctx) (Q : Exit → AState → Prop) : Exit → Act → World → Prop := fun e a w => ∃ σ g, Q e σ ∧ Rep X g σ a w

/-- code, on abstract states -/
def AWp (X : Ctx) (c : Code) (Q : Exit → AState → Prop) (σ : AState) : Prop :=
  ∀ (g : Gh) (a : Act) (w : World), Rep X g σ a w → c.wp X.P (Lift X Q) a w

def aThen (next : AState → Prop) (Q : Exit → AState → Prop) : Exit → AState → Prop
  | .normal, σ => next σ
  | e, σ => Q e σ

def aBlock (id : Nat) (Q : Exit → AState → Prop) : Exit → AState → Prop
  | .exit id', σ => if id' = id then Q .normal σ else Q (.exit id') σ
  | e, σ => Q e σ

section
variable {X : Ctx} {Q : Exit → AState → Prop} {σ : AState}

theorem awp_mono {c : Code} {Q' : Exit → AState → Prop} (h : AWp X c Q σ) (hq : ∀ e σ, Q e σ → Q' e σ) : AWp X c Q' σ :=
  fun g a w hr => wp_mono (h g a w hr) fun e _ _ ⟨σ, g, hQ, hr⟩ => ⟨σ, g, hq e σ hQ, hr⟩

theorem awp_seq {x y : Code} (h : AWp X x (aThen (AWp X y Q) Q) σ) : AWp X (.seq x y) Q σ := fun g a w hr => by
  refine wp_seq (wp_mono (h g a w hr) fun e a w ⟨σ, g, hQ, hr⟩ => ?_)
  cases e
  case normal => exact hQ g a w hr
  all_goals exact ⟨σ, g, hQ, hr⟩

theorem awp_block {id : Nat} {c : Code} (h : AWp X c (aBlock id Q) σ) : AWp X (.block id c) Q σ := fun g a w hr => by
  refine wp_block (wp_mono (h g a w hr) fun e a w ⟨σ, g, hQ, hr⟩ => ?_)
  cases e
  case exit id' =>
    simp only [aBlock, Exit.inBlock] at hQ ⊢
    split
    · rename_i hid; rw [if_pos hid] at hQ; exact ⟨σ, g, hQ, hr⟩
    · rename_i hid; rw [if_neg hid] at hQ; exact ⟨σ, g, hQ, hr⟩
  all_goals exact ⟨σ, g, hQ, hr⟩

theorem awp_skip (h : Q .normal σ) : AWp X .skip Q σ := fun g _ _ hr => wp_skip ⟨σ, g, h, hr⟩
theorem awp_exit {id : Nat} (h : Q (.exit id) σ) : AWp X (.exit id) Q σ := fun g _ _ hr => wp_exit ⟨σ, g, h, hr⟩
theorem awp_ret (h : Q .ret σ) : AWp X .ret Q σ := fun g _ _ hr => wp_ret ⟨σ, g, h, hr⟩
theorem awp_label {l : Nat} (h : Q .normal σ) : AWp X (.label l) Q σ := fun g _ _ hr => wp_label ⟨σ, g, h, hr⟩

/-- the test of a branch -/
def boolOf : AV → Option Bool
  | .v (.bool b) => some b
  | _ => none

theorem awp_cond {c : Operand} {x y : Code} {b : Bool} (hb : boolOf (σ.ev c) = some b) (ht : b = true → AWp X x Q σ) (hf : b = false → AWp X y Q σ) : AWp X (.cond c x y) Q σ := fun g a w hr => by
  have hv := hr.ev c
  have he : σ.ev c = .v (.bool b) := by
    unfold boolOf at hb
    split at hb
    · rename_i b' h; simp only [Option.some.injEq] at hb; rw [h, hb]
    · cases hb
  rw [he] at hv
  simp only [RepV] at hv
  refine wp_cond_split hv (fun h => ht h g a w hr) (fun h => hf h g a w hr)

theorem awp_cond' {c : Operand} {x y : Code} (h : ∃ b, boolOf (σ.ev c) = some b ∧ (b = true → AWp X x Q σ) ∧ (b = false → AWp X y Q σ)) : AWp X (.cond c x y) Q σ :=
  let ⟨_, h1, h2, h3⟩ := h; awp_cond h1 h2 h3

/-- one state says no more than another -/
def Le (σ σ' : AState) : Prop := (∀ t, σ'.get t = .any ∨ σ.get t = σ'.get t) ∧ σ.rd ≤ σ'.rd

theorem Rep.le {g : Gh} {σ σ' : AState} {a : Act} {w : World} (h : Rep X g σ a w) (hl : Le σ σ') : Rep X g σ' a w :=
  have hrep : ∀ t, RepV X.P (Fb X g) g.own g.rho w (a.tmps.getD t undef) (σ'.get t) := fun t => by
    rcases hl.1 t with e | e
    · rw [e]; trivial
    · rw [← e]; exact h.rep t
  { h with rd := h.rd.mono hl.2, rep := hrep }

/-- a value as another state says it: own things under other numbers; what has no number there is only read from now on -/
def AV.renL (P : Program) (ps : List (Nat × Nat)) : AV → AV
  | .own d e vs => match ps.lookup d with
    | some j => .own j e vs
    | none => .sl (P.cellsOf e) vs
  | .bx d cells off => match ps.lookup d with
    | some j => .bx j cells off
    | none => .ptr cells off
  | .ep _ _ _ _ _ => .any
  | .cnd _ _ => .any
  | .tupo d e vs rest => match ps.lookup d with
    | some j => .tupo j e vs rest
    | none => .tup (.sl (P.cellsOf e) vs :: rest.map .v)
  | .free => .any
  | .vw d k vs => match ps.lookup d with
    | some j => .vw j k vs
    | none => .sl k vs
  | .mp d t ks => match ps.lookup d with
    | some j => .mp j t ks
    | none => .any
  | x => x

/-- nil is an empty row of one's own, and an empty slice -/
def nilOwn : AV → AV → Prop
  | .v (.slice none 0 0), .own _ _ vs => vs = []
  | .v (.slice none 0 0), .sl _ vs => vs = []
  | _, _ => False

def leR (P : Program) (ps : List (Nat × Nat)) (σ : AState) : List (Nat × AV) → Prop
  | [] => True
  | (t, x) :: r => ((σ.get t).renL P ps = x ∨ nilOwn (σ.get t) x) ∧ leR P ps σ r

def LeS (X : Ctx) (σ σ' : AState) : Prop := ∀ g a w, Rep X g σ a w → ∃ g', Rep X g' σ' a w

theorem LeS.refl : LeS X σ σ := fun g _ _ h => ⟨g, h⟩

theorem lookup_mem {ps : List (Nat × Nat)} {d j : Nat} (h : ps.lookup d = some j) : (d, j) ∈ ps := by
  induction ps with
  | nil => cases h
  | cons p r ih =>
    obtain ⟨a, b⟩ := p
    simp only [List.lookup] at h
    split at h
    · rename_i he
      have : d = a := by simpa using he
      simp only [Option.some.injEq] at h
      subst this; subst h
      exact List.mem_cons_self
    · exact List.mem_cons_of_mem _ (ih h)

theorem find_tgt {ps : List (Nat × Nat)} (ht : (ps.map (·.2)).Nodup) {d j : Nat} (h : (d, j) ∈ ps) : ps.find? (fun p => p.2 == j) = some (d, j) := by
  induction ps with
  | nil => cases h
  | cons p r ih =>
    simp only [List.map_cons, List.nodup_cons] at ht
    rcases List.mem_cons.1 h with rfl | h
    · simp
    · have : p.2 ≠ j := fun e => ht.1 (e ▸ List.mem_map.2 ⟨(d, j), h, rfl⟩)
      rw [List.find?_cons_of_neg (by simpa using this)]
      exact ih ht.2 h

theorem src_inj {ps : List (Nat × Nat)} (hs : (ps.map (·.1)).Nodup) {d j j' : Nat} (h : (d, j) ∈ ps) (h' : (d, j') ∈ ps) : j = j' := by
  induction ps with
  | nil => cases h
  | cons p r ih =>
    simp only [List.map_cons, List.nodup_cons] at hs
    rcases List.mem_cons.1 h with rfl | h
    · rcases List.mem_cons.1 h' with e | h'
      · simp only [Prod.mk.injEq] at e; exact e.2.symm
      · exact absurd (List.mem_map.2 ⟨(d, j'), h', rfl⟩) hs.1
    · rcases List.mem_cons.1 h' with e | h'
      · exact absurd (List.mem_map.2 ⟨(d, j), h, by rw [← e]⟩) hs.1
      · exact ih hs.2 h h'

theorem Rep.ren {g : Gh} {a : Act} {w : World} (h : Rep X g σ a w) (ps : List (Nat × Nat)) (hs : (ps.map (·.1)).Nodup) (ht : (ps.map (·.2)).Nodup) {l : List (Nat × AV)} {m : Nat} (hm : σ.rd ≤ m)
    (hl : leR X.P ps σ l) : ∃ g', Rep X g' ⟨l, m⟩ a w := by
  let own' : Nat → Option Nat := fun j => (ps.find? (fun p => p.2 == j)).bind fun p => g.own p.1
  have hown : ∀ j b, own' j = some b → ∃ d, (d, j) ∈ ps ∧ g.own d = some b := by
    intro j b hj
    simp only [own'] at hj
    cases hf : ps.find? (fun p => p.2 == j) with
    | none => rw [hf] at hj; cases hj
    | some p =>
      rw [hf] at hj
      have h1 := List.mem_of_find?_eq_some hf
      have h2 := List.find?_some hf
      obtain ⟨d, j'⟩ := p
      have : j' = j := by simpa using h2
      subst this
      exact ⟨d, h1, hj⟩
  have hget : ∀ d j, (d, j) ∈ ps → own' j = g.own d := fun d j hdj => by
    simp only [own']
    rw [find_tgt ht hdj]; rfl
  let g' : Gh := { g with own := own' }
  have hF : ∀ b, Fb X g' b → Fb X g b := fun b hb => by
    rcases hb with hb | ⟨j, hj⟩ | hb
    · exact .inl hb
    · obtain ⟨d, _, hd⟩ := hown j b hj; exact .inr (.inl ⟨d, hd⟩)
    · exact .inr (.inr hb)
  have hfree : ∀ d b, g.own d = some b → ps.lookup d = none → ¬ Fb X g' b := fun d b hd hlk hb => by
    obtain ⟨h1, h2, h3⟩ := h.new d b hd
    rcases hb with hb | ⟨j, hj⟩ | hb
    · exact h.nwF h1 hb
    · obtain ⟨d', hm', hd'⟩ := hown j b hj
      have := h.inj d d' b hd hd'
      subst this
      have : ps.lookup d ≠ none := by
        intro hn
        rw [List.lookup_eq_none_iff] at hn
        have := hn (d, j) hm'
        simp at this
      exact this hlk
    · exact h3 hb
  refine ⟨g', { size := h.size, defers := h.defers, frame := h.frame, low := h.low, inj := ?_, new := ?_, rhoF := h.rhoF, rho := h.rho, keep := h.keep, rd := ?_, rep := ?_, hH := h.hH, pin := h.pin }⟩
  · intro j j' b hj hj'
    obtain ⟨d, hm1, hd⟩ := hown j b hj
    obtain ⟨d', hm2, hd'⟩ := hown j' b hj'
    have := h.inj d d' b hd hd'
    subst this
    exact src_inj hs hm1 hm2
  · intro j b hj
    obtain ⟨d, _, hd⟩ := hown j b hj
    exact h.new d b hd
  · intro β hβ
    obtain ⟨⟨p, ty, h1, h2, h3⟩, h4, h5⟩ := h.rd β hβ
    exact ⟨⟨p, ty, h1, h2, by simp only; omega⟩, h4.less hF, h5⟩
  · intro t
    have key : ∀ x : AV, RepV X.P (Fb X g) g.own g.rho w (a.tmps.getD t undef) x → RepV X.P (Fb X g') own' g.rho w (a.tmps.getD t undef) (x.renL X.P ps) := by
      intro x hx
      have step : (∀ d, x.has d = false) → RepV X.P (Fb X g') own' g.rho w (a.tmps.getD t undef) x := fun hno =>
        hx.step (Step.refl (fun _ => False) w) (fun b _ hb => hF b hb) (fun _ _ hb => hb.elim) (fun d hd => by rw [hno d] at hd; cases hd) rfl
      cases x with
      | own d e vs =>
        simp only [AV.renL]
        cases hlk : ps.lookup d with
        | some j =>
          simp only [hlk]
          have hj := hget d j (lookup_mem hlk)
          refine ⟨hx.1, hx.2.imp id fun ⟨b, h1, h2, h3⟩ => ⟨b, hj.trans h1, h2, h3⟩⟩
        | none =>
          simp only [hlk]
          exact OwnR.sl hx fun b hb => hfree d b hb hlk
      | bx d cells off =>
        obtain ⟨b, arr, ty, h1, h2, h3, h4, h5⟩ := hx
        simp only [AV.renL]
        have h5' : ∀ (i : Nat) c, cells[i]? = some c → ∃ y : Value, arr[i]? = some y ∧ RepA (Fb X g') w y c := fun i c hi =>
          let ⟨y, hy, hr⟩ := h5 i c hi; ⟨y, hy, hr.step (Step.refl (fun _ => False) w) (fun b _ hb => hF b hb) (fun _ _ hb => hb.elim)⟩
        cases hlk : ps.lookup d with
        | some j =>
          simp only [hlk]
          exact ⟨b, arr, ty, (hget d j (lookup_mem hlk)).trans h1, h2, h3, h4, h5'⟩
        | none =>
          simp only [hlk]
          refine ⟨b, 0, by simpa using h2, hfree d b h1 hlk, (Array.getElem?_eq_some_iff.1 h3).1, fun i c hi => ?_⟩
          obtain ⟨y, hy, hr⟩ := h5' i c hi
          refine ⟨y, ?_, hr⟩
          simp only [World.cell?, h3, Nat.zero_add]
          simpa using hy
      | ep _ _ _ _ _ => trivial
      | cnd _ _ => trivial
      | any => trivial
      | free => trivial
      | mp d t ks =>
        obtain ⟨b, h1, h2, h3⟩ := hx
        simp only [AV.renL]
        cases hlk : ps.lookup d with
        | some j =>
          simp only [hlk]
          exact ⟨b, (hget d j (lookup_mem hlk)).trans h1, h2, h3⟩
        | none =>
          simp only [hlk]
          trivial
      | vw d k vs =>
        simp only [AV.renL]
        cases hlk : ps.lookup d with
        | some j =>
          simp only [hlk]
          have hj := hget d j (lookup_mem hlk)
          exact Sl.less hx fun b hb => ⟨hF b hb.1, fun e => hb.2 (hj.trans e)⟩
        | none =>
          simp only [hlk]
          exact Sl.less hx fun b hb => ⟨hF b hb, fun e => hfree d b e hlk hb⟩
      | tupo d e vs rest =>
        obtain ⟨y, hy, hx⟩ := hx
        simp only [AV.renL]
        cases hlk : ps.lookup d with
        | some j =>
          simp only [hlk]
          have hj := hget d j (lookup_mem hlk)
          exact ⟨y, hy, hx.1, hx.2.imp id fun ⟨b, h1, h2, h3⟩ => ⟨b, hj.trans h1, h2, h3⟩⟩
        | none =>
          simp only [hlk]
          have hsl := OwnR.sl hx fun b hb => hfree d b hb hlk
          refine ⟨(y :: rest).toArray, hy, by simp, fun i c hi => ?_⟩
          cases i with
          | zero => simp at hi; subst hi; exact ⟨y, rfl, hsl⟩
          | succ i =>
            simp only [List.getElem?_cons_succ, List.getElem?_map, Option.map_eq_some_iff] at hi
            obtain ⟨z, hz, rfl⟩ := hi
            exact ⟨z, by simpa using hz, rfl⟩
      | _ => exact step fun _ => rfl
    suffices hs : ∀ l, leR X.P ps σ l → RepV X.P (Fb X g') own' g.rho w (a.tmps.getD t undef) ((l.lookup t).getD .any) from hs l hl
    intro l hl
    induction l with
    | nil => trivial
    | cons p r ih =>
      obtain ⟨k, x⟩ := p
      simp only [List.lookup]
      by_cases hk : (t == k) = true
      · simp only [hk, Option.getD_some]
        have : t = k := by simpa using hk
        subst this
        rcases hl.1 with hl1 | hl1
        · rw [← hl1]
          exact key _ (h.rep t)
        · have hx := h.rep t
          generalize a.tmps.getD t undef = v at hx ⊢
          generalize σ.get t = av at hx hl1
          unfold nilOwn at hl1
          split at hl1
          · subst hl1
            simp only [RepV] at hx
            exact ⟨fun y hy => (by cases hy), .inl ⟨hx, rfl⟩⟩
          · subst hl1
            simp only [RepV] at hx
            exact ⟨none, 0, hx, Nat.le_refl _, Nat.zero_le _, fun y hy => (by cases hy), .inl rfl⟩
          · exact hl1.elim
      · simp only [Bool.not_eq_true] at hk
        simp only [hk]
        exact ih hl.2

theorem les_of (ps : List (Nat × Nat)) {P : Program} (hP : X.P = P) {l : List (Nat × AV)} {m : Nat} (hs : (ps.map (·.1)).Nodup) (ht : (ps.map (·.2)).Nodup) (hm : σ.rd ≤ m) (hl : leR P ps σ l) : LeS X σ ⟨l, m⟩ := by
  subst hP
  exact fun g a w h => h.ren ps hs ht hm hl

theorem awp_le {c : Code} {σ' : AState} (hl : LeS X σ σ') (h : AWp X c Q σ') : AWp X c Q σ := fun g a w hr => let ⟨g', hr'⟩ := hl g a w hr; h g' a w hr'

/-- A LOOP: `st x` are the states at its head, `I x` what is known of x, `μ x` goes down -/
theorem awp_loop {α : Type} (I : α → Prop) (st : α → AState) (μ : α → Nat) {body : Code} (h0 : ∃ x, I x ∧ LeS X σ (st x))
    (round : ∀ x, I x → AWp X body (aThen (fun σ' => ∃ x', I x' ∧ μ x' < μ x ∧ LeS X σ' (st x')) Q) (st x)) : AWp X (.loop body) Q σ := fun g a w hr => by
  obtain ⟨x0, hI0, hl0⟩ := h0
  intro b k cs
  have key : ∀ n x g a w, μ x = n → I x → Rep X g (st x) a w →
      ∃ e a' w', Lift X Q e a' w' ∧ Arrives X.P (lone (b.at a (.code body :: .inLoop body :: k)) cs w) b k cs e a' w' := by
    intro n
    induction n using Nat.strongRecOn with
    | _ n ih =>
      intro x g a w hx hI hr
      obtain ⟨e, a1, w1, ⟨σ1, g1, hQ, hr1⟩, harr⟩ := round x hI g a w hr b (.inLoop body :: k) cs
      cases e with
      | normal =>
        obtain ⟨x', hI', hlt, hle⟩ := hQ
        obtain ⟨g2, hr2⟩ := hle g1 a1 w1 hr1
        obtain ⟨e2, a2, w2, hq2, harr2⟩ := ih (μ x') (hx ▸ hlt) x' g2 a1 w1 rfl hI' hr2
        exact ⟨e2, a2, w2, hq2, .of_steps (Steps.trans harr (.one step_inLoop)) harr2⟩
      | exit id => exact ⟨_, a1, w1, ⟨σ1, g1, hQ, hr1⟩, .pass (x := .inLoop body) rfl (fun _ _ => .inl (by simp)) harr⟩
      | goto l => exact ⟨_, a1, w1, ⟨σ1, g1, hQ, hr1⟩, .pass (x := .inLoop body) rfl (fun _ _ => .inl (by simp)) harr⟩
      | ret => exact ⟨_, a1, w1, ⟨σ1, g1, hQ, hr1⟩, .pass (x := .inLoop body) rfl (fun _ _ => .inl (by simp)) harr⟩
      | panic ch => exact ⟨_, a1, w1, ⟨σ1, g1, hQ, hr1⟩, .pass (x := .inLoop body) rfl (fun _ _ => .inl (by simp)) harr⟩
      | outgrown => exact ⟨_, a1, w1, ⟨σ1, g1, hQ, hr1⟩, .pass (x := .inLoop body) rfl (fun _ _ => .inl (by simp)) harr⟩
  obtain ⟨g0, hr0⟩ := hl0 g a w hr
  obtain ⟨e, a', w', hq, harr⟩ := key _ x0 g0 a w rfl hI0 hr0
  exact ⟨e, a', w', hq, .of_steps (.one step_loop) harr⟩

/-! ### regions -/

/-- the operations, one after the other -/
def aXs (P : Program) (ops : Array Oper) (K : AState → Prop) : List Oper → AState → Prop
  | [], σ => K σ
  | o :: rest, σ => aX P ops o (aXs P ops K rest) σ

theorem aXs_sound {ops : Array Oper} {K : AState → Prop} {Q' : Exit → Act → World → Prop} (hK : ∀ σ' g' a' w', K σ' → Rep X g' σ' a' w' → Q' .normal a' w') : ∀ (l : List Oper), (∀ o ∈ l, dstOk X.N o.dst = true) →
    ∀ (g : Gh) (σ : AState) (a : Act) (w : World), Rep X g σ a w → aXs X.P ops K l σ → wpList X.P ops Q' l a w
  | [], _, g, σ, a, w, h, hs => hK σ g a w hs h
  | o :: rest, hd, g, σ, a, w, h, hs => by
    have ih := aXs_sound (ops := ops) hK rest fun o ho => hd o (List.mem_cons_of_mem _ ho)
    have := aX_sound (Q := Q') h (hd o List.mem_cons_self) hs (K' := wpList X.P ops Q' rest) fun σ' g' a' w' hk hr => ih g' σ' a' w' hr hk
    unfold wpList
    by_cases hw : Region.wanted o (yielded ops a.tmps) = true
    · rw [if_pos hw] at this ⊢; exact .inl this
    · rw [if_neg hw] at this ⊢; exact this

def dstsOk (N : Nat) : List Oper → Bool
  | [] => true
  | o :: r => dstOk N o.dst && dstsOk N r
theorem dstsOk_spec {N : Nat} : ∀ {l : List Oper}, dstsOk N l = true → ∀ o ∈ l, dstOk N o.dst = true
  | [], _, o, ho => by cases ho
  | x :: r, h, o, ho => by
    simp only [dstsOk, Bool.and_eq_true] at h
    rcases List.mem_cons.1 ho with rfl | ho
    · exact h.1
    · exact dstsOk_spec h.2 o ho

theorem awp_region {P : Program} {N : Nat} {id : Nat} {l : List Oper} (hP : X.P = P) (hN : X.N = N) (hd : dstsOk N l = true) (h : aXs P l.toArray (Q .normal) l σ) : AWp X (.region id l.toArray false) Q σ := fun g a w hr => by
  subst hP; subst hN
  exact wp_region_lit (aXs_sound (fun σ' g' _ _ hk hr => ⟨σ', g', hk, hr⟩) l (dstsOk_spec hd) g σ a w hr h)

theorem awp_region' {P : Program} {N : Nat} {id : Nat} {ops : Array Oper} (hP : X.P = P) (hN : X.N = N) (h : ∃ l : List Oper, ops = l.toArray ∧ dstsOk N l = true ∧ aXs P l.toArray (Q .normal) l σ) : AWp X (.region id ops false) Q σ := by
  obtain ⟨l, rfl, hd, h⟩ := h
  exact awp_region hP hN hd h

/-- a region that draws its order: the first `n` operations in any order, the others behind them -/
theorem awp_draw {P : Program} {N : Nat} {id : Nat} {l : List Oper} (hP : X.P = P) (hN : X.N = N) (n : Nat) (hm : P.follows .mixedOrders = true) (hB : lexC l.toArray n = true) (hd : dstsOk N l = true)
    (h : aList P l.toArray (aXs P l.toArray (Q .normal) (l.drop n)) (l.take n) σ) : AWp X (.region id l.toArray true) Q σ := fun g a w hr => by
  subst hP; subst hN
  refine wp_region_aDraw hm hB (dstsOk_spec hd) hr h fun σ' a' w' hT hr' => ?_
  exact aXs_sound (fun σ' g' _ _ hk hr => ⟨σ', g', hk, hr⟩) (l.drop n) (fun o ho => dstsOk_spec hd o (List.mem_of_mem_drop ho)) g σ' a' w' hr' hT

/-! ### a function -/

/-- one result, where the function ends -/
def res1 (P : Program) (σ : AState) : ResultVar → Option AV
  | .tmp t => some (σ.get t)
  | .cell p t => match sload P t (σ.get p) with
    | some (_, r) => some r
    | none => none

def a0of (P : Program) : AV → Option A0
  | .v x => some (.v x)
  | .sl k vs => some (.sl k vs)
  | .own _ e vs => some (.sl (P.cellsOf e) vs)
  | _ => none

def resMany (P : Program) (σ : AState) : List ResultVar → Option (List A0)
  | [] => some []
  | r :: rs => match res1 P σ r, resMany P σ rs with
    | some x, some xs => match a0of P x with
      | some y => some (y :: xs)
      | none => none
    | _, _ => none

/-- results that are values -/
def resVals (P : Program) (σ : AState) : List ResultVar → Option (List Value)
  | [] => some []
  | r :: rs => match res1 P σ r, resVals P σ rs with
    | some (.v x), some ys => some (x :: ys)
    | _, _ => none

/-- a row of the callee's own, then values -/
def resTup (P : Program) (σ : AState) : List ResultVar → Option (Nat × TypeId × List Value × List Value)
  | r :: r2 :: rs => match res1 P σ r, resVals P σ (r2 :: rs) with
    | some (.own d e vs), some ys => some (d, e, vs, ys)
    | _, _ => none
  | _ => none

def resOf (P : Program) (σ : AState) : List ResultVar → Option AV
  | [r] => match res1 P σ r with
    | some (.v x) => some (.v x)
    | some (.sl k vs) => some (.sl k vs)
    | some (.own d e vs) => some (.own d e vs)
    | some (.tup xs) => some (.tup xs)
    | some (.bx d cells off) => some (.bx d cells off)
    | _ => none
  | rs => match resTup P σ rs with
    | some (d, e, vs, rest) => some (.tupo d e vs rest)
    | none => match resMany P σ rs with
      | some xs => some (.tup xs)
      | none => none

def rsem (tmps : Array Value) : ResultVar → Sem Value
  | .tmp t => pure (tmps.getD t undef)
  | .cell p t => do loadVar t (← asAddr (tmps.getD p undef))

theorem res1_sound {g : Gh} {a : Act} {w : World} (h : Rep X g σ a w) {rv : ResultVar} {r : AV} (hr : res1 X.P σ rv = some r) :
    ∃ v, (rsem a.tmps rv).run X.P w = .ok v w ∧ RepV X.P (Fb X g) g.own g.rho w v r := by
  cases rv with
  | tmp t => simp only [res1, Option.some.injEq] at hr; subst hr; exact ⟨_, rfl, h.rep t⟩
  | cell p t =>
    simp only [res1] at hr
    split at hr
    · rename_i sc r' hs
      simp only [Option.some.injEq] at hr
      subst hr
      obtain ⟨v, h1, h2⟩ := sload_sound (h.rep p) hs
      refine ⟨v, ?_, h2⟩
      unfold Instr.loadAt Instr.sureAddr at h1
      generalize hpv : a.tmps.getD p undef = pv at h1
      cases pv <;> simp at h1
      rename_i ad
      cases ad <;> simp at h1
      simp only [rsem, Sem.run_bind]
      rw [hpv]
      simpa [asAddr] using h1
    · cases hr

theorem a0of_sound {g : Gh} {a : Act} {w : World} (h : Rep X g σ a w) {v : Value} {r : AV} {c : A0} (hv : RepV X.P (Fb X g) g.own g.rho w v r) (hc : a0of X.P r = some c) : RepA X.F0 w v c := by
  cases r <;> simp only [a0of, Option.some.injEq, reduceCtorEq] at hc
  case v x => subst hc; exact hv
  case sl k vs => subst hc; exact Sl.less hv fun b hb => .inl hb
  case own d e vs =>
    subst hc
    exact OwnR.sl hv fun b hb hf => by
      exact h.nwF (h.new d b hb).1 hf

theorem resMany_sound {g : Gh} {a : Act} {w : World} (h : Rep X g σ a w) : ∀ (rs : List ResultVar) (xs : List A0), resMany X.P σ rs = some xs →
    ∃ vs : List Value, (rs.mapM (rsem a.tmps)).run X.P w = .ok vs w ∧ vs.length = xs.length ∧
      vs.length = rs.length ∧ ∀ (j : Nat) c, xs[j]? = some c → ∃ y : Value, vs[j]? = some y ∧ RepA X.F0 w y c
  | [], xs, hr => by simp only [resMany, Option.some.injEq] at hr; subst hr; exact ⟨[], rfl, rfl, rfl, fun j c hj => by simp at hj⟩
  | r :: rs, xs, hr => by
    simp only [resMany] at hr
    split at hr
    · rename_i x ys h1 h2
      split at hr
      · rename_i y hy
        simp only [Option.some.injEq] at hr
        subst hr
        obtain ⟨v, e1, r1⟩ := res1_sound h h1
        obtain ⟨vs, e2, l1, l2, r2⟩ := resMany_sound h rs ys h2
        refine ⟨v :: vs, ?_, by simp [l1], by simp [l2], fun j c hj => ?_⟩
        · rw [List.mapM_cons]
          simp only [Sem.run_bind, Sem.run_pure]
          rw [e1]
          simp only [Result.andThen_ok]
          rw [e2]
          rfl
        · cases j with
          | zero => simp at hj; subst hj; exact ⟨v, rfl, a0of_sound h r1 hy⟩
          | succ j => exact r2 j c (by simpa using hj)
      · cases hr
    · cases hr

theorem resVals_sound {g : Gh} {a : Act} {w : World} (h : Rep X g σ a w) : ∀ (rs : List ResultVar) (xs : List Value), resVals X.P σ rs = some xs →
    (rs.mapM (rsem a.tmps)).run X.P w = .ok xs w ∧ xs.length = rs.length
  | [], xs, hr => by simp only [resVals, Option.some.injEq] at hr; subst hr; exact ⟨rfl, rfl⟩
  | r :: rs, xs, hr => by
    simp only [resVals] at hr
    split at hr
    · rename_i x ys h1 h2
      simp only [Option.some.injEq] at hr
      subst hr
      obtain ⟨v, e1, r1⟩ := res1_sound h h1
      obtain ⟨e2, l2⟩ := resVals_sound h rs ys h2
      simp only [RepV] at r1
      subst r1
      refine ⟨?_, by simp [l2]⟩
      rw [List.mapM_cons]
      simp only [Sem.run_bind, Sem.run_pure]
      rw [e1]
      simp only [Result.andThen_ok]
      rw [e2]
      rfl
    · cases hr

theorem resTup_sound {g : Gh} {a : Act} {w : World} (h : Rep X g σ a w) {rs : List ResultVar} {d e : Nat} {vs ys : List Value} (hr : resTup X.P σ rs = some (d, e, vs, ys)) :
    ∃ y, (rs.mapM (rsem a.tmps)).run X.P w = .ok (y :: ys) w ∧ OwnR X.P g.own w d e y vs ∧ ys ≠ [] := by
  unfold resTup at hr
  split at hr
  · rename_i r r2 rs'
    split at hr
    · rename_i d' e' vs' ys' h1 h2
      simp only [Option.some.injEq, Prod.mk.injEq] at hr
      obtain ⟨rfl, rfl, rfl, rfl⟩ := hr
      obtain ⟨v, e1, r1⟩ := res1_sound h h1
      obtain ⟨e2, l2⟩ := resVals_sound h (r2 :: rs') ys' h2
      refine ⟨v, ?_, r1, fun e => by rw [e] at l2; simp at l2⟩
      rw [List.mapM_cons]
      simp only [Sem.run_bind, Sem.run_pure]
      rw [e1]
      simp only [Result.andThen_ok]
      rw [e2]
      rfl
    · cases hr
  · cases hr

theorem results_run {fn : Func} {tmps : Array Value} {w : World} {P : Program} : (results fn tmps).run P w =
    ((fn.results.toList.mapM (rsem tmps)).run P w).andThen fun vs w' => .ok (match vs with | [v] => v | vs => .tuple vs.toArray) w' := by
  have e : results fn tmps = (do
      let vs ← fn.results.mapM (rsem tmps)
      pure (if h : vs.size = 1 then vs[0] else .tuple vs)) := by
    unfold results
    congr 1
  rw [e, Array.mapM_eq_mapM_toList]
  simp only [Sem.run_bind, Sem.run_map]
  generalize (fn.results.toList.mapM (rsem tmps)).run P w = r
  cases r with
  | halt x w => rfl
  | ok vs w' =>
    simp only [Result.andThen_ok, Sem.run_pure]
    match vs with
    | [] => rfl
    | [v] => rfl
    | _ :: _ :: _ => simp

/-- the state in which a call begins -/
def startSt (args : List AV) (m : Nat) : AState := ⟨args.zipIdx.map fun p => (p.2, p.1), m⟩

theorem startSt_get : ∀ (args : List AV) (k t : Nat), ((args.zipIdx k).map fun p => (p.2, p.1)).lookup t = if k ≤ t then args[t - k]? else none
  | [], k, t => by simp
  | x :: r, k, t => by
    simp only [List.zipIdx_cons, List.map_cons, List.lookup]
    by_cases h : (t == k) = true
    · have : t = k := by simpa using h
      subst this
      simp
    · simp only [Bool.not_eq_true] at h
      simp only [h]
      rw [startSt_get r (k + 1) t]
      have hne : t ≠ k := by simpa using h
      by_cases hk : k ≤ t
      · rw [if_pos (by omega), if_pos hk, show t - k = (t - (k + 1)) + 1 by omega]; simp
      · rw [if_neg (by omega), if_neg hk]

/-- what is to be shown where the function ends -/
def aEnd (P : Program) (fn : Func) (m : Nat) (R : AV → Prop) : Exit → AState → Prop
  | .normal, σ | .ret, σ => σ.rd ≤ m ∧ match resOf P σ fn.results.toList with
    | some r => R r
    | none => False
  | _, _ => False

theorem fin_of {X : Ctx} {g : Gh} {σ : AState} {a' : Act} {w' : World} {fn : Func} {M : Nat} {R : AV → Prop} (hH : ∀ b, ¬ X.H0 b) (hr : Rep X g σ a' w') (h : σ.rd ≤ M ∧ match resOf X.P σ fn.results.toList with | some r => R r | none => False) : a'.defers = [] ∧ ∃ v, (results fn a'.tmps).run X.P w' = .ok v w' ∧
      (∃ rv r, Ending.returned v = .returned rv ∧ R r ∧ ResR X.P X.F0 X.w0 w' rv r ∧ Step (fun b => X.rho0 = some b) X.w0 w' ∧ RdOk X.F0 w' X.rho0 X.rs0 X.rb0 M) := by
  obtain ⟨hrd, hres⟩ := h
  refine ⟨hr.defers, ?_⟩
  have hrdok : RdOk X.F0 w' X.rho0 X.rs0 X.rb0 M := by
    intro β hβ
    obtain ⟨k1, k2⟩ := hr.keep (by rw [hβ]; simp)
    have hg : g.rho = some β := by
      rcases hr.rho with e | ⟨e, _⟩
      · rw [e]; exact hβ
      · rw [hβ] at e; cases e
    obtain ⟨⟨p, ty, h6, h7, h8⟩, h9, h10⟩ := hr.rd β hg
    rw [← k1, ← k2]
    exact ⟨⟨p, ty, h6, h7, by omega⟩, h9.less fun b hb => .inl hb, h10⟩
  have out : ∀ v r, (results fn a'.tmps).run X.P w' = .ok v w' → R r → ResR X.P X.F0 X.w0 w' v r → ∃ v, (results fn a'.tmps).run X.P w' = .ok v w' ∧
      (∃ rv r, Ending.returned v = .returned rv ∧ R r ∧ ResR X.P X.F0 X.w0 w' rv r ∧ Step (fun b => X.rho0 = some b) X.w0 w' ∧ RdOk X.F0 w' X.rho0 X.rs0 X.rb0 M) :=
    fun v r h1 h2 h3 => ⟨v, h1, v, r, rfl, h2, h3, hr.frame.mono fun b _ hb => hb.resolve_right (hH b), hrdok⟩
  have many : ∀ rs, fn.results.toList = rs → (∀ r, rs ≠ [r]) → (match resMany X.P σ rs with | some xs => R (.tup xs) | none => False) → ∃ v, (results fn a'.tmps).run X.P w' = .ok v w' ∧
      (∃ rv r, Ending.returned v = .returned rv ∧ R r ∧ ResR X.P X.F0 X.w0 w' rv r ∧ Step (fun b => X.rho0 = some b) X.w0 w' ∧ RdOk X.F0 w' X.rho0 X.rs0 X.rb0 M) := by
    intro rs hrs hne hm
    split at hm
    · rename_i xs hxs
      obtain ⟨vs, e1, e2, e3, e4⟩ := resMany_sound hr rs xs hxs
      refine out (.tuple vs.toArray) (.tup xs) ?_ hm ⟨vs.toArray, rfl, by simp [e2], fun j c hj => by simpa using e4 j c hj⟩
      rw [results_run, hrs]
      have e1' : (rs.mapM (rsem a'.tmps)).run X.P w' = .ok vs w' := e1
      rw [e1']
      simp only [Result.andThen_ok]
      match vs, e3 with
      | [v], h => exact absurd (List.length_eq_one_iff.1 (by simpa using h.symm)) (fun ⟨r, h⟩ => hne r h)
      | [], _ => rfl
      | _ :: _ :: _, _ => rfl
    · exact hm.elim
  have single : ∀ rv r, fn.results.toList = [rv] → res1 X.P σ rv = some r → ∃ v, (results fn a'.tmps).run X.P w' = .ok v w' ∧ RepV X.P (Fb X g) g.own g.rho w' v r := by
    intro rv r hrs hr1
    obtain ⟨v, e1, r1⟩ := res1_sound hr hr1
    refine ⟨v, ?_, r1⟩
    rw [results_run, hrs]
    have e1' : (rsem a'.tmps rv).run X.P w' = .ok v w' := e1
    simp only [List.mapM_cons, List.mapM_nil, Sem.run_bind, e1', Result.andThen_ok, Sem.run_pure]
  have conv : ∀ o : Option (List A0), (match (match o with | some xs => some (AV.tup xs) | none => none) with | some r => R r | none => False) → (match o with | some xs => R (.tup xs) | none => False) := by
    intro o; cases o <;> exact id
  unfold resOf at hres
  generalize hrs : fn.results.toList = rs at hres
  match rs, hrs, hres with
  | [rv], hrs, hres =>
    simp only at hres
    cases hr1 : res1 X.P σ rv with
    | none => rw [hr1] at hres; exact hres.elim
    | some r =>
      rw [hr1] at hres
      obtain ⟨v, e1, r1⟩ := single rv r hrs hr1
      cases r <;> simp only at hres <;> try exact hres.elim
      case v x => exact out v _ e1 hres r1
      case sl k vs => exact out v _ e1 hres (Sl.less r1 fun b hb => .inl hb)
      case own d e vs =>
        refine out v _ e1 hres ⟨r1.1, r1.2.imp id fun ⟨b, h6, h7, h8⟩ => ⟨b, (hr.new d b h6).1.resolve_right (hH b), h7, h8⟩⟩
      case bx d cells off =>
        obtain ⟨gb, arr, ty, h6, h7, h8, h9, h10⟩ := r1
        refine out v _ e1 hres ⟨gb, arr, ty, (hr.new d gb h6).1.resolve_right (hH gb), h7, h8, h9, fun i c hi => ?_⟩
        obtain ⟨y, hy, hyr⟩ := h10 i c hi
        refine ⟨y, hy, ?_⟩
        cases c with
        | v z => exact hyr
        | sl k vs => exact Sl.less hyr fun b hb => hb.elim .inl fun e => .inr (.inl ⟨d, by rw [e]; exact h6⟩)
      case tup xs =>
        obtain ⟨ys, h6, h7, h8⟩ := r1
        exact out v _ e1 hres ⟨ys, h6, h7, fun j c hj => let ⟨y, hy, hyr⟩ := h8 j c hj; ⟨y, hy, hyr.step (Step.refl (fun _ => False) w') (fun b _ hb => .inl hb) (fun _ _ hc => hc.elim)⟩⟩
  | [], hrs, hres => exact many [] hrs (fun r e => by cases e) (conv (resMany X.P σ []) hres)
  | r1 :: r2 :: rs, hrs, hres =>
    simp only at hres
    cases hT : resTup X.P σ (r1 :: r2 :: rs) with
    | none => rw [hT] at hres; exact many (r1 :: r2 :: rs) hrs (fun r e => by cases e) (conv (resMany X.P σ (r1 :: r2 :: rs)) hres)
    | some q =>
      obtain ⟨d, e, vs, ys⟩ := q
      rw [hT] at hres
      obtain ⟨y, e1, r1, hne⟩ := resTup_sound hr hT
      refine out (.tuple (y :: ys).toArray) _ ?_ hres ⟨y, rfl, r1.1, r1.2.imp id fun ⟨b, h6, h7, h8⟩ => ⟨b, (hr.new d b h6).1.resolve_right (hH b), h7, h8⟩⟩
      rw [results_run, hrs]
      have e1' : ((_ :: _ :: _).mapM (rsem a'.tmps)).run X.P w' = .ok (y :: ys) w' := e1
      rw [e1']
      simp only [Result.andThen_ok]
      match ys, hne with
      | _ :: _, _ => rfl

/-- the rest of a body, from a state in its midst -/
theorem awp_body {X : Ctx} {P : Program} {g : Gh} {σ : AState} {a : Act} {w : World} {fn : Func} {c : Code} {M : Nat} {R : AV → Prop} {Post : Ending → World → Prop} (hP : X.P = P) (hH : ∀ b, ¬ X.H0 b) (hr : Rep X g σ a w) (h : AWp X c (aEnd P fn M R) σ)
    (hpost : ∀ rv r w', R r → ResR P X.F0 X.w0 w' rv r → Step (fun b => X.rho0 = some b) X.w0 w' → RdOk X.F0 w' X.rho0 X.rs0 X.rb0 M → Post (.returned rv) w') : c.wp P (bodyPost P fn Post) a w := by
  subst hP
  refine wp_mono (h g a w hr) fun e a' w' ⟨σ, g, hQ, hr⟩ => ?_
  have fin := fun h => fin_of (fn := fn) (M := M) (R := R) (by first | assumption | exact fun _ hf => hf) hr h
  have fin2 : (σ.rd ≤ M ∧ match resOf X.P σ fn.results.toList with | some r => R r | none => False) → a'.defers = [] ∧ ∃ v, (results fn a'.tmps).run X.P w' = .ok v w' ∧ Post (.returned v) w' := fun h => by
    obtain ⟨h1, v, h2, rv, r, h3, h4, h5, h6, h7⟩ := fin h
    cases h3
    exact ⟨h1, v, h2, hpost v r w' h4 h5 h6 h7⟩
  cases e with
  | normal => exact fin2 hQ
  | ret => exact fin2 hQ
  | _ => exact hQ.elim

theorem acalls_core {P : Program} {f : FuncId} {fn : Func} {c : Code} {args : List AV} {M : Nat} {R : AV → Prop} (hf : P.funcs[f]? = some fn)
    (hb : fn.body = some c) (hl : args.length ≤ fn.ntmps) (hM : fn.ntmps < 1048576)
    {w : World} {F : Nat → Prop} {rho : Option Nat} {s : Value} {bs : List UInt8} {m : Nat} {vals : Array Value} (h1 : ∀ b, F b → b < w.heap.size) (h2 : ∀ b, rho = some b → F b) (h3 : RdOk F w rho s bs m) (h5 : ArgsR P F rho w vals args)
    (st : AState) (hst0 : st.rd = m) (hst1 : ∀ t, st.get t = (args[t]?).getD .any ∨ (rho = none ∧ st.get t = .free)) (h : AWp ⟨P, w, F, rho, fn.ntmps, s, bs, fun _ => False, undef⟩ c (aEnd P fn M R) st) :
    Calls P f vals w fun e w' => ∃ rv r, e = .returned rv ∧ R r ∧ ResR P F w w' rv r ∧ Step (fun b => rho = some b) w w' ∧ RdOk F w' rho s bs M := by
  refine calls_of_wp hf hb ?_
  have hrep : Rep ⟨P, w, F, rho, fn.ntmps, s, bs, fun _ => False, undef⟩ ⟨fun _ => none, rho, s, bs⟩ st { tmps := vals ++ Array.replicate (fn.ntmps - vals.size) undef, defers := [] } w := by
    have hFb : ∀ b, Fb ⟨P, w, F, rho, fn.ntmps, s, bs, fun _ => False, undef⟩ ⟨fun _ => none, rho, s, bs⟩ b → F b := fun b hb => by
      rcases hb with hb | ⟨d, hd⟩ | hb
      · exact hb
      · cases hd
      · exact h2 b hb
    have hFb' : Fb ⟨P, w, F, rho, fn.ntmps, s, bs, fun _ => False, undef⟩ ⟨fun _ => none, rho, s, bs⟩ = F := funext fun b => propext ⟨hFb b, .inl⟩
    have hsize : (vals ++ Array.replicate (fn.ntmps - vals.size) undef).size = fn.ntmps % 1048576 := by simp; rw [h5.1, Nat.mod_eq_of_lt hM]; omega
    have hrd : RdOk (Fb ⟨P, w, F, rho, fn.ntmps, s, bs, fun _ => False, undef⟩ ⟨fun _ => none, rho, s, bs⟩) w rho s bs st.rd := by rw [hFb', hst0]; exact h3
    refine ⟨hsize, rfl, Step.refl _ _, h1, fun d d' b hd => (by cases hd), fun d b hd => (by cases hd), h2, .inl rfl, fun _ => ⟨rfl, rfl⟩, hrd, fun t => ?_, fun _ hf => hf.elim, fun h => absurd h (Nat.not_le.2 hM)⟩
    rw [hFb']
    rcases hst1 t with hget | ⟨hro, hget⟩
    rotate_left
    · rw [hget]; exact hro
    rw [hget]
    cases ht : args[t]? with
    | none => simp only [Option.getD_none]; trivial
    | some av =>
      obtain ⟨y, hy, hr⟩ := h5.2 t av ht
      have hlt : t < vals.size := (Array.getElem?_eq_some_iff.1 hy).1
      have : (vals ++ Array.replicate (fn.ntmps - vals.size) undef).getD t undef = y := by
        rw [Array.getD_eq_getD_getElem?, Array.getElem?_append_left hlt, hy]; rfl
      simp only [Option.getD_some]
      rw [this]
      exact hr
  refine wp_mono (h _ _ _ hrep) fun e a' w' ⟨σ, g, hQ, hr⟩ => ?_
  have fin := fun h => fin_of (fn := fn) (M := M) (R := R) (by first | assumption | exact fun _ hf => hf) hr h
  cases e with
  | normal => exact fin hQ
  | ret => exact fin hQ
  | _ => exact hQ.elim

theorem startSt_args (args : List AV) (m t : Nat) : (startSt args m).get t = (args[t]?).getD .any := by
  unfold startSt AState.get
  simp only
  rw [startSt_get args 0 t]
  simp

theorem ble2 {a N : Nat} (h : (Nat.ble a N && Nat.ble N 1048575) = true) : a ≤ N ∧ N < 1048576 := by
  rw [Bool.and_eq_true] at h
  exact ⟨Nat.le_of_ble_eq_true h.1, Nat.lt_succ_of_le (Nat.le_of_ble_eq_true h.2)⟩

theorem acalls_of {P : Program} {f : FuncId} {fn : Func} {c : Code} {args : List AV} {cost N : Nat} {R : AV → Prop} (hf : P.funcs[f]? = some fn) (hNn : fn.ntmps = N) (hn : (fn.name == "runtime.NumGoroutine") = false)
    (hb : fn.body = some c) (hl0 : (Nat.ble args.length N && Nat.ble N 1048575) = true)
    (h0 : ∀ (X : Ctx), X.P = P → X.N = N → ∀ m, m + cost ≤ LIM → AWp X c (aEnd P fn (m + cost) R) (startSt args m)) : ACalls P f args cost R :=
  ⟨⟨fn, hf, hn, by rw [hb]; rfl⟩, fun w F rho s bs m vals h1 h2 h3 h4 h5 => acalls_core hf hb (by rw [hNn]; exact (ble2 hl0).1) (by rw [hNn]; exact (ble2 hl0).2) h1 h2 h3 h5 (startSt args m) rfl (fun t => .inl (startSt_args args m t)) (h0 _ rfl hNn m h4)⟩

def AV.noRd : AV → Bool
  | .rd | .cnd _ _ | .free => false
  | _ => true

theorem RepV.noRd {P : Program} {F : Nat → Prop} {own : Nat → Option Nat} {rho rho' : Option Nat} {w : World} {x : Value} {av : AV} (h : RepV P F own rho w x av) (hn : av.noRd = true) : RepV P F own rho' w x av := by
  cases av <;> first | exact h | cases hn

/-- the state in which a call without a reader begins -/
def startSt0 (args : List AV) : AState := ⟨(startSt args 0).s ++ [(999, .free)], 0⟩

/-- the contract of a function that is handed no reader: it may make one of its own -/
theorem acalls_of0 {P : Program} {f : FuncId} {fn : Func} {c : Code} {args : List AV} {N : Nat} {R : AV → Prop} (hf : P.funcs[f]? = some fn) (hNn : fn.ntmps = N) (hn : (fn.name == "runtime.NumGoroutine") = false)
    (hb : fn.body = some c) (hl0 : (Nat.ble args.length N && Nat.ble N 1048575) = true) (hno : args.all AV.noRd = true)
    (h0 : ∀ (X : Ctx), X.P = P → X.N = N → X.rho0 = none → AWp X c (aEnd P fn LIM R) (startSt0 args)) : ACalls P f args 0 R :=
  ⟨⟨fn, hf, hn, by rw [hb]; rfl⟩, fun w F rho s bs m vals h1 h2 h3 h4 h5 => (acalls_core (rho := none) (s := s) (bs := bs) (m := 0) hf hb (by rw [hNn]; exact (ble2 hl0).1) (by rw [hNn]; exact (ble2 hl0).2) h1 (fun _ e => by cases e) (fun _ e => by cases e)
      ⟨h5.1, fun j av hj => let ⟨y, hy, hr⟩ := h5.2 j av hj; ⟨y, hy, hr.noRd (List.all_eq_true.1 hno av (List.mem_of_getElem? hj))⟩⟩ (startSt0 args) rfl (fun t => by
        unfold startSt0 AState.get
        simp only
        rw [List.lookup_append]
        have := startSt_args args 0 t
        unfold AState.get at this
        cases hl : (startSt args 0).s.lookup t with
        | some x => rw [hl] at this; exact .inl this
        | none =>
          rw [hl] at this
          simp only [Option.none_or, List.lookup]
          split
          · exact .inr ⟨by trivial, rfl⟩
          · exact .inl this) (h0 _ rfl hNn rfl)).mono
    fun e w' ⟨rv, r, k1, k2, k3, k4, _⟩ => ⟨rv, r, k1, k2, k3, k4.mono fun _ _ e => (by cases e), fun β hβ => by
      obtain ⟨⟨p, ty, q1, q2, q3⟩, q4, q5⟩ := h3 β hβ
      exact ⟨⟨p, ty, (k4.block β (Array.getElem?_eq_some_iff.1 q1).1 (fun e => by cases e)).trans q1, q2, by omega⟩, q4.step k4 (fun _ _ hf => hf) (fun _ _ e => by cases e), q5⟩⟩⟩

/-- what is also true of a result -/
def Co (P : Program) (r r' : AV) : Prop := ∀ (F : Nat → Prop) (w w' : World) (rv : Value), (∀ b, F b → b < w.heap.size) → ResR P F w w' rv r → ResR P F w w' rv r'

theorem Co.refl {P : Program} (r : AV) : Co P r r := fun _ _ _ _ _ h => h

theorem ACalls.co {P : Program} {f : FuncId} {args : List AV} {cost : Nat} {R R' : AV → Prop} (h : ACalls P f args cost R) (hc : ∀ r, R r → ∃ r', Co P r r' ∧ R' r') : ACalls P f args cost R' :=
  ⟨h.1, fun w F rho s bs m vals h1 h2 h3 h4 h5 => (h.2 w F rho s bs m vals h1 h2 h3 h4 h5).mono fun _ _ ⟨rv, r, he, hR, h6, h7⟩ => let ⟨r', hco, hR'⟩ := hc r hR; ⟨rv, r', he, hR', hco F w _ rv h1 h6, h7⟩⟩

theorem co_nil {P : Program} (d e : Nat) : Co P (.v (.slice none 0 0)) (.own d e []) := fun _ _ _ _ _ h => ⟨fun y hy => (by cases hy), .inl ⟨h, rfl⟩⟩

theorem co_tup {P : Program} (d e : Nat) (rest : List Value) : Co P (.tup (.v (.slice none 0 0) :: rest.map .v)) (.tupo d e [] rest) := fun F w w' rv _ h => by
  obtain ⟨ys, rfl, hsz, h⟩ := h
  refine ⟨.slice none 0 0, ?_, fun y hy => (by cases hy), .inl ⟨rfl, rfl⟩⟩
  have : ys = (.slice none 0 0 :: rest).toArray := by
    apply Array.ext
    · simpa using hsz
    · intro i hi hi'
      cases i with
      | zero =>
        obtain ⟨y, hy, hr⟩ := h 0 _ rfl
        have := (Array.getElem?_eq_some_iff.1 hy).2
        simp only [RepA] at hr
        subst hr
        simpa using this
      | succ i =>
        simp only [List.size_toArray, List.length_cons] at hi'
        obtain ⟨y, hy, hr⟩ := h (i + 1) (.v (rest[i]'(by omega))) (by simp)
        have := (Array.getElem?_eq_some_iff.1 hy).2
        simp only [RepA] at hr
        subst hr
        simpa using this
  rw [this]

theorem co_open {P : Program} {d : Nat} {bs : List UInt8} (hl : bs.length ≤ 2000) : Co P (.bx d [.sl 1 (bytesV bs), .v (.int .i64 0)] 0) .rd := fun F w w' rv hF h => by
  obtain ⟨β, arr, ty, h1, h2, h3, h4, h5⟩ := h
  obtain ⟨s, hs1, hs2⟩ := h5 0 _ rfl
  obtain ⟨p, hp1, hp2⟩ := h5 1 _ rfl
  simp only [RepA] at hp2
  subst hp2
  have harr : arr = #[s, .int .i64 0] := by
    apply Array.ext
    · simpa using h4
    · intro i hi hi'
      match i with
      | 0 => exact (Array.getElem?_eq_some_iff.1 hs1).2
      | 1 => exact (Array.getElem?_eq_some_iff.1 hp1).2
      | _ + 2 => simp at hi'; omega
  subst harr
  exact ⟨β, s, bs, h1, h2, fun γ hγ => by
    simp only [Option.some.injEq] at hγ
    subst hγ
    exact ⟨⟨0, ty, h3, by omega, by omega⟩, hs2, hl⟩⟩

theorem co_sl {P : Program} {d e : Nat} {vs : List Value} : Co P (.own d e vs) (.sl (P.cellsOf e) vs) := fun F w w' rv hF h => by
  obtain ⟨hel, hr⟩ := h
  refine OwnR.sl (d := 0) (own := fun _ => rv.ownBlock) ⟨hel, ?_⟩ ?_
  · rcases hr with hr | ⟨gb, _, h2, h3⟩
    · exact .inl hr
    · exact .inr ⟨gb, h2, h2, h3⟩
  · intro b hb hFb
    rcases hr with ⟨rfl, _⟩ | ⟨gb, h1, h2, _⟩
    · simp [Value.ownBlock] at hb
    · rw [h2] at hb
      have : gb = b := by simpa using hb
      subst this
      have := hF _ hFb
      omega

/-- a new box becomes the reader -/
theorem awp_open {X : Ctx} {c : Code} {Q : Exit → AState → Prop} {σ : AState} (h0 : X.rho0 = none) (t d : Nat) {bs : List UInt8} (ht : σ.get t = .bx d [.sl 1 (bytesV bs), .v (.int .i64 0)] 0) (hl : bs.length ≤ 2000)
    (h : AWp X c Q ⟨(σ.map (AV.opn d)).s, 0⟩) : AWp X c Q σ := by
  intro g a w hr
  obtain ⟨g', hr'⟩ := hr.openR (m := 0) h0 ht hl
  exact h g' a w hr'
end

/-! ### evaluating -/

/-- what the evaluation does not look into -/
class Hid (α : Type) where
  val : α

def BWp (X : Ctx) [c : Hid Code] [Q : Hid (Exit → AState → Prop)] (σ : AState) : Prop := AWp X c.val Q.val σ
def bcall (P : Program) (σ : AState) (gr : GR) [c : Hid Call] [K : Hid (AV → Nat → Prop)] : Prop := acall P σ gr c.val K.val

theorem AWp_eq {X : Ctx} {c : Code} {Q : Exit → AState → Prop} {σ : AState} : AWp X c Q σ = @BWp X ⟨c⟩ ⟨Q⟩ σ := rfl
theorem acall_eq {P : Program} {σ : AState} {gr : GR} {c : Call} {K : AV → Nat → Prop} : acall P σ gr c K = @bcall P σ gr ⟨c⟩ ⟨K⟩ := rfl
theorem BWp.of {X : Ctx} {c : Code} {Q : Exit → AState → Prop} {σ : AState} (h : AWp X c Q σ) : @BWp X ⟨c⟩ ⟨Q⟩ σ := h
theorem bcall.of {P : Program} {σ : AState} {gr : GR} {c : Call} {K : AV → Nat → Prop} (h : acall P σ gr c K) : @bcall P σ gr ⟨c⟩ ⟨K⟩ := h

/-- a call of a function that makes one value -/
theorem acall_det {P : Program} {σ : AState} {gr : GR} {c : Call} {K : AV → Nat → Prop} {f : FuncId} {args : List AV} {cost : Nat} {r : AV} (hc : callOf P σ.val c = some (f, args))
    (hA : ACalls P f args cost (fun x => x = r)) (hv : vprop gr (vaAll σ.va c.operands.toList)) (hown : c.args.toList.any (fun x => (σ.val x).isOwn) = true → r.safe = true) (hrd : σ.rd + cost ≤ LIM)
    (hK : K r cost) : acall P σ gr c K := by
  unfold acall
  rw [hc]
  refine ⟨fun x => x = r, cost, ?_, ⟨r, rfl⟩, hrd, fun r' hr' => by subst hr'; exact ⟨hown, hK⟩⟩
  cases gr with
  | bad => exact hv
  | un => exact ⟨hv, hA⟩
  | on b => exact fun hb => ⟨hv hb, hA⟩

/-- the same, where the contract holds under the guard alone -/
theorem acall_if {P : Program} {σ : AState} {b : Bool} {c : Call} {K : AV → Nat → Prop} {f : FuncId} {args : List AV} {cost : Nat} {r : AV} (hc : callOf P σ.val c = some (f, args))
    (hA : b = true → ACalls P f args cost (fun x => x = r)) (hv : b = true → vaAll σ.va c.operands.toList) (hown : c.args.toList.any (fun x => (σ.val x).isOwn) = true → r.safe = true) (hrd : σ.rd + cost ≤ LIM)
    (hK : K r cost) : acall P σ (.on b) c K := by
  unfold acall
  rw [hc]
  exact ⟨fun x => x = r, cost, fun hb => ⟨hv hb, hA hb⟩, ⟨r, rfl⟩, hrd, fun r' hr' => by subst hr'; exact ⟨hown, hK⟩⟩

/-- a call whose result is one of several -/
theorem acall_some {P : Program} {σ : AState} {gr : GR} {c : Call} {K : AV → Nat → Prop} {f : FuncId} {args : List AV} {cost : Nat} {R : AV → Prop} (hc : callOf P σ.val c = some (f, args))
    (hA : ACalls P f args cost R) (hex : ∃ r, R r) (hv : vprop gr (vaAll σ.va c.operands.toList)) (hown : c.args.toList.any (fun x => (σ.val x).isOwn) = true → ∀ r, R r → r.safe = true) (hrd : σ.rd + cost ≤ LIM)
    (hK : ∀ r, R r → K r cost) : acall P σ gr c K := by
  unfold acall
  rw [hc]
  refine ⟨R, cost, ?_, hex, hrd, fun r hr => ⟨fun ho => hown ho r hr, hK r hr⟩⟩
  cases gr with
  | bad => exact hv
  | un => exact ⟨hv, hA⟩
  | on b => exact fun hb => ⟨hv hb, hA⟩

attribute [push_cast] decide_false decide_true sop' sop abin callOf vaAll vprop mkg guardOf AState.put AState.get AState.map AState.addRd AState.ev AState.val AState.va AV.strip AV.valid AV.kill AV.kill2 AV.has
  sload ptrOf gather allV A0.av lenT lenA slen sslice optI partsV capsV firstV bfill bset boxCells spliceA AV.updB AV.updR AV.updM slOf idxOk inR subS catS kindOf eqC eqCs AV.toArg AV.isOwn AV.safe AV.shr AV.opn partsA fillA resOf res1 resMany resVals resTup nilOwn AV.shut a0of
  startSt startSt0 boolOf leR AV.renL Value.oneCell' EltOk spick elt Value.cells

attribute [push_cast] Op.operands Call.operands List.zipIdx_cons List.zipIdx_nil List.map_cons List.map_nil List.lookup true_and and_true and_self Option.getD_some Option.getD_none List.cons_append List.nil_append
  Array.toList_append List.length_cons List.length_nil true_implies implies_true List.any_cons List.any_nil Bool.or_false Bool.false_or Bool.or_true Bool.true_or Bool.and_true Bool.true_and Bool.and_false Bool.false_and
  List.all_cons List.all_nil List.take_zero List.take_succ_cons List.drop_zero List.drop_succ_cons List.drop_nil List.take_nil Option.map_some Option.map_none Option.bind_some Option.bind_none
  Nat.zero_add Nat.add_zero Bool.not_true Bool.not_false Bool.not_not beq_true beq_false cond_true cond_false if_true if_false eq_self true_or or_true false_or or_false false_and and_false List.getElem?_toArray List.getElem?_cons_zero
  List.getElem?_cons_succ List.getElem?_nil List.size_toArray Option.toArray_some Option.toArray_none List.append_nil forall_const not_true_eq_false not_false_eq_true Bool.false_eq_true
  List.append_toArray imp_self false_implies List.mem_cons List.not_mem_nil forall_eq_or_imp forall_eq Bool.cond_true_left Bool.cond_false_left Bool.cond_true_right Bool.cond_false_right
  List.getElem?_map Option.isSome_some Option.isSome_none List.length_map List.length_append Int.toNat_natCast List.map_append Bool.cond_not Bool.cond_self decide_eq_true_eq decide_eq_false_iff_not Bool.not_eq_true' Bool.not_eq_false'

end Go.Proofs.YtellipmolheaaaaDoor
