import Derived.WalkKit
import Derived.WalkSpells
import Derived.WalkLawsBesides
import Derived.StillTail
import Derived.Maps.OwnSet
import Derived.StringKeys
import Derived.Laws.BytesString
set_option linter.unusedSimpArgs false
set_option linter.unusedVariables false
namespace Go.Proofs.YtellipmolheaaaaDoor
open Go Go.RowKit

/-! ## abstract values -/

inductive A0 where
  | v (x : Value)
  | sl (k : Nat) (vs : List Value)

inductive AV where
  | any
  | v (x : Value)
  | sl (k : Nat) (vs : List Value)
  | own (d : Nat) (e : TypeId) (vs : List Value)
  | bx (d : Nat) (cells : List A0) (off : Nat)
  | ptr (cells : List A0) (off : Nat)
  | ep (d : Nat) (e : TypeId) (vs : List Value) (i off : Nat)
  | rd
  | clo (f : FuncId) (first : List A0) (caps : List (List A0))
  | tup (xs : List A0)
  | agg (xs : List A0)
  | tupo (d : Nat) (e : TypeId) (vs : List Value) (rest : List Value)
  | free
  | vw (d : Nat) (k : Nat) (vs : List Value)
  | mp (d : Nat) (t : TypeId) (ks : List (List UInt8))
  | cnd (c : Bool) (x : AV)

def AV.has (d : Nat) : AV → Bool
  | .own d' _ _ => d' == d
  | .bx d' _ _ => d' == d
  | .ep d' _ _ _ _ => d' == d
  | .tupo d' _ _ _ => d' == d
  | .vw d' _ _ => d' == d
  | .mp d' _ _ => d' == d
  | .cnd _ x => x.has d
  | _ => false

def A0.av : A0 → AV
  | .v x => .v x
  | .sl k vs => .sl k vs

/-- an element of a slice: `k` cells, each of one cell -/
def EltOk (k : Nat) (x : Value) : Prop := x.cells.size = k ∧ ∀ c ∈ x.cells.toList, c.oneCell' = true

def flat (vs : List Value) : List Value := vs.flatMap fun x => x.cells.toList

/-- the cells of `vs` lie from `b`, `off` on -/
def CellsAt (w : World) (b off : Nat) (vs : List Value) : Prop :=
  ∀ (j : Nat) c, (flat vs)[j]? = some c → w.cell? ⟨b, off + j, none⟩ = some c

/-- a slice value that shows `vs`, outside of the blocks `F` -/
def Sl (F : Nat → Prop) (w : World) (x : Value) (k : Nat) (vs : List Value) : Prop :=
  ∃ a cap, x = .slice a vs.length cap ∧ vs.length ≤ cap ∧ cap ≤ maxLen ∧ (∀ y ∈ vs, EltOk k y) ∧
    (vs = [] ∨ ∃ b off, a = some ⟨b, off, none⟩ ∧ ¬ F b ∧ b < w.heap.size ∧ CellsAt w b off vs)

def RepA (F : Nat → Prop) (w : World) (x : Value) : A0 → Prop
  | .v y => x = y
  | .sl k vs => Sl F w x k vs

/-- a pointer into cells that stay -/
def PtrR (F : Nat → Prop) (w : World) (x : Value) (cells : List A0) (off : Nat) : Prop :=
  ∃ b o, x = .pointer (some ⟨b, o + off, none⟩) ∧ ¬ F b ∧ b < w.heap.size ∧
    ∀ (i : Nat) c, cells[i]? = some c → ∃ y : Value, w.cell? ⟨b, o + i, none⟩ = some y ∧ RepA F w y c

/-- a row of the call's own -/
def OwnR (P : Program) (own : Nat → Option Nat) (w : World) (d : Nat) (e : TypeId) (x : Value) (vs : List Value) : Prop :=
  (∀ y ∈ vs, EltOk (P.cellsOf e) y) ∧
  ((x = .slice none 0 0 ∧ vs = []) ∨ ∃ g, own d = some g ∧ x.ownBlock = some g ∧ w.ownsRow g e (P.cellsOf e) x vs.length (flat vs))

/-- block `g` is a map[string]bool in which the keys `ks` stand with true -/
def MpR (P : Program) (w : World) (t : TypeId) (g : Nat) (ks : List (List UInt8)) : Prop :=
  ∃ k e, P.underlying t = some (.map k e) ∧ P.underlying k = some .string ∧ P.underlying e = some .bool ∧ (∀ w' : World, (zeroValue e).run P w' = .ok (.bool false) w') ∧
    ∃ D : DataW Unit, w.ownsMap P k (plainElem P e) g ks.length D ∧ ∀ l : List UInt8, D.atKey (.string l) (.lit (.bool false)) = .lit (.bool (decide (l ∈ ks)))

def RepV (P : Program) (F : Nat → Prop) (own : Nat → Option Nat) (rho : Option Nat) (w : World) (x : Value) : AV → Prop
  | .any => True
  | .v y => x = y
  | .sl k vs => Sl F w x k vs
  | .own d e vs => OwnR P own w d e x vs
  | .bx d cells off => ∃ g arr ty, own d = some g ∧ x = .pointer (some ⟨g, off, none⟩) ∧ w.heap[g]? = some (.cells arr ty (0, 0)) ∧
      arr.size = cells.length ∧ ∀ (i : Nat) c, cells[i]? = some c → ∃ y : Value, arr[i]? = some y ∧ RepA F w y c
  | .ptr cells off => PtrR F w x cells off
  | .ep d e vs i off => ∃ g x', own d = some g ∧ x'.ownBlock = some g ∧ OwnR P own w d e x' vs ∧ i < vs.length ∧
      x = .pointer (some ⟨g, i * P.cellsOf e + off, none⟩)
  | .rd => ∃ β, rho = some β ∧ x = .pointer (some ⟨β, 0, none⟩)
  | .clo f first caps => ∃ fs cs : Array Value, x = .func (.func f) fs cs ∧ fs.size = first.length ∧ cs.size = caps.length ∧
      (∀ (j : Nat) c, first[j]? = some c → ∃ y : Value, fs[j]? = some y ∧ RepA F w y c) ∧
      ∀ (j : Nat) c, caps[j]? = some c → ∃ y : Value, cs[j]? = some y ∧ PtrR F w y c 0
  | .tup xs => ∃ ys : Array Value, x = .tuple ys ∧ ys.size = xs.length ∧ ∀ (j : Nat) c, xs[j]? = some c → ∃ y : Value, ys[j]? = some y ∧ RepA F w y c
  | .agg xs => ∃ ys : Array Value, x = .agg ys ∧ ys.size = xs.length ∧ ∀ (j : Nat) c, xs[j]? = some c → ∃ y : Value, ys[j]? = some y ∧ RepA F w y c
  | .tupo d e vs rest => ∃ y : Value, x = .tuple (y :: rest).toArray ∧ OwnR P own w d e y vs
  | .free => rho = none
  | .vw d k vs => Sl (fun b => F b ∧ own d ≠ some b) w x k vs
  | .mp d t ks => ∃ g, own d = some g ∧ x = .map (some g) ∧ MpR P w t g ks
  | .cnd c a => if c = true then RepV P F own rho w x a else x = undef

/-! ## stability -/

/-- from `w` to `w'` nothing has changed but the blocks `C` and new ones -/
structure Step (C : Nat → Prop) (w w' : World) : Prop where
  os : w'.os = w.os
  tape : w'.tape = w.tape
  output : w'.output = w.output
  size : w.heap.size ≤ w'.heap.size
  block : ∀ b, b < w.heap.size → ¬ C b → w'.heap[b]? = w.heap[b]?

theorem Step.refl (C : Nat → Prop) (w : World) : Step C w w := ⟨rfl, rfl, rfl, Nat.le_refl _, fun _ _ _ => rfl⟩
theorem Step.trans {C D E : Nat → Prop} {a b c : World} (h : Step C a b) (k : Step D b c) (hc : ∀ x, x < a.heap.size → ¬ E x → ¬ C x ∧ ¬ D x) : Step E a c :=
  ⟨k.os.trans h.os, k.tape.trans h.tape, k.output.trans h.output, Nat.le_trans h.size k.size, fun x hx hE =>
    (k.block x (Nat.lt_of_lt_of_le hx h.size) (hc x hx hE).2).trans (h.block x hx (hc x hx hE).1)⟩
theorem Step.mono {C D : Nat → Prop} {a b : World} (h : Step C a b) (hc : ∀ x, x < a.heap.size → C x → D x) : Step D a b :=
  ⟨h.os, h.tape, h.output, h.size, fun x hx hD => h.block x hx fun hC => hD (hc x hx hC)⟩

theorem flat_length {k : Nat} : ∀ (vs : List Value), (∀ y ∈ vs, EltOk k y) → (flat vs).length = vs.length * k
  | [], _ => by simp [flat]
  | x :: vs, h => by
    have ih := flat_length vs fun y hy => h y (List.mem_cons_of_mem _ hy)
    have hx := (h x List.mem_cons_self).1
    simp only [flat, List.flatMap_cons, List.length_append, Array.length_toList, List.length_cons, Nat.add_mul] at *
    omega

theorem CellsAt.step {C : Nat → Prop} {w w' : World} {b off : Nat} {vs : List Value} (h : CellsAt w b off vs) (hs : Step C w w') (hb : b < w.heap.size) (hC : ¬ C b) : CellsAt w' b off vs :=
  fun j c hj => (World.cell?_of_block (w := w) (hs.block b hb hC)).trans (h j c hj)

theorem Sl.step {C F F' : Nat → Prop} {w w' : World} {x : Value} {k : Nat} {vs : List Value} (h : Sl F w x k vs) (hs : Step C w w')
    (hF : ∀ b, b < w.heap.size → F' b → F b) (hC : ∀ b, b < w.heap.size → C b → F b) : Sl F' w' x k vs := by
  obtain ⟨a, cap, rfl, h1, h2, h3, h4⟩ := h
  refine ⟨a, cap, rfl, h1, h2, h3, h4.imp id fun ⟨b, off, ha, hb, hlt, hc⟩ => ⟨b, off, ha, fun hf => hb (hF b hlt hf), Nat.lt_of_lt_of_le hlt hs.size, hc.step hs hlt fun hc => hb (hC b hlt hc)⟩⟩

theorem RepA.step {C F F' : Nat → Prop} {w w' : World} {x : Value} {c : A0} (h : RepA F w x c) (hs : Step C w w')
    (hF : ∀ b, b < w.heap.size → F' b → F b) (hC : ∀ b, b < w.heap.size → C b → F b) : RepA F' w' x c := by
  cases c with
  | v y => exact h
  | sl k vs => exact Sl.step h hs hF hC

theorem PtrR.step {C F F' : Nat → Prop} {w w' : World} {x : Value} {cells : List A0} {off : Nat} (h : PtrR F w x cells off) (hs : Step C w w')
    (hF : ∀ b, b < w.heap.size → F' b → F b) (hC : ∀ b, b < w.heap.size → C b → F b) : PtrR F' w' x cells off := by
  obtain ⟨b, o, rfl, hb, hlt, h⟩ := h
  refine ⟨b, o, rfl, fun hf => hb (hF b hlt hf), Nat.lt_of_lt_of_le hlt hs.size, fun i c hi => ?_⟩
  obtain ⟨y, hy, hr⟩ := h i c hi
  exact ⟨y, (World.cell?_of_block (w := w) (a := ⟨b, o + i, none⟩) (hs.block b hlt fun hc => hb (hC b hlt hc))).trans hy, hr.step hs hF hC⟩

theorem ownsRow_step {C : Nat → Prop} {w w' : World} {base e k n : Nat} {x : Value} {xs : List Value} {g : Nat} (h : w.ownsRow base e k x n xs) (hx : x.ownBlock = some g) (hs : Step C w w')
    (hC : ¬ C g) : w'.ownsRow base e k x n xs := by
  refine ⟨h.1, ?_⟩
  rcases h.2 with hn | ⟨g', cap, cur, rfl, hb, hg, rest⟩
  · exact .inl hn
  · simp only [Value.ownBlock, Option.some.injEq] at hx
    subst hx
    have hlt : g' < w.heap.size := (Array.getElem?_eq_some_iff.1 hg).1
    exact .inr ⟨g', cap, cur, rfl, hb, (hs.block g' hlt hC).trans hg, rest⟩

theorem OwnR.step {P : Program} {C : Nat → Prop} {own own' : Nat → Option Nat} {w w' : World} {d e : Nat} {x : Value} {vs : List Value} (h : OwnR P own w d e x vs) (hs : Step C w w')
    (ho : own' d = own d) (hC : ∀ g, own d = some g → ¬ C g) : OwnR P own' w' d e x vs := by
  refine ⟨h.1, ?_⟩
  rcases h.2 with hn | ⟨g, hg, hx, hr⟩
  · exact .inl hn
  · exact .inr ⟨g, ho.trans hg, hx, ownsRow_step hr hx hs (hC g hg)⟩

theorem MpR.lt {P : Program} {w : World} {t g : Nat} {ks : List (List UInt8)} (h : MpR P w t g ks) : g < w.heap.size := by
  obtain ⟨k, e, _, _, _, _, D, h1, _⟩ := h
  exact h1.lt

theorem MpR.step {P : Program} {C : Nat → Prop} {w w' : World} {t g : Nat} {ks : List (List UInt8)} (h : MpR P w t g ks) (hs : Step C w w') (hC : ¬ C g) : MpR P w' t g ks := by
  have hlt := h.lt
  obtain ⟨k, e, h1, h2, h3, h4, D, ⟨es, clock, hb, r⟩, h5⟩ := h
  exact ⟨k, e, h1, h2, h3, h4, D, ⟨es, clock, (hs.block g hlt hC).trans hb, r⟩, h5⟩

theorem RepV.step {P : Program} {C F F' : Nat → Prop} {own own' : Nat → Option Nat} {rho rho' : Option Nat} {w w' : World} {x : Value} {av : AV}
    (h : RepV P F own rho w x av) (hs : Step C w w')
    (hF : ∀ b, b < w.heap.size → F' b → F b) (hC : ∀ b, b < w.heap.size → C b → F b)
    (ho : ∀ d, av.has d = true → own' d = own d ∧ ∀ g, own d = some g → ¬ C g) (hr : rho' = rho) : RepV P F' own' rho' w' x av := by
  subst hr
  induction av with
  | any => trivial
  | v y => exact h
  | sl k vs => exact Sl.step h hs hF hC
  | own d e vs => exact OwnR.step h hs (ho d (by simp [AV.has])).1 (ho d (by simp [AV.has])).2
  | bx d cells off =>
    obtain ⟨g, arr, ty, hg, rfl, hh, hsz, hc⟩ := h
    obtain ⟨h1, h2⟩ := ho d (by simp [AV.has])
    have hlt : g < w.heap.size := (Array.getElem?_eq_some_iff.1 hh).1
    exact ⟨g, arr, ty, h1.trans hg, rfl, (hs.block g hlt (h2 g hg)).trans hh, hsz, fun i c hi => let ⟨y, hy, hr⟩ := hc i c hi; ⟨y, hy, hr.step hs hF hC⟩⟩
  | ptr cells off => exact PtrR.step h hs hF hC
  | ep d e vs i off =>
    obtain ⟨g, x', hg, hx', hr, hi, rfl⟩ := h
    obtain ⟨h1, h2⟩ := ho d (by simp [AV.has])
    exact ⟨g, x', h1.trans hg, hx', hr.step hs h1 h2, hi, rfl⟩
  | rd => exact h
  | clo f first caps =>
    obtain ⟨fs, cs, rfl, hsz1, hsz, h1, h⟩ := h
    exact ⟨fs, cs, rfl, hsz1, hsz, fun j c hj => let ⟨y, hy, hp⟩ := h1 j c hj; ⟨y, hy, hp.step hs hF hC⟩, fun j c hj => let ⟨y, hy, hp⟩ := h j c hj; ⟨y, hy, hp.step hs hF hC⟩⟩
  | tup xs =>
    obtain ⟨ys, rfl, hsz, h⟩ := h
    exact ⟨ys, rfl, hsz, fun j c hj => let ⟨y, hy, hp⟩ := h j c hj; ⟨y, hy, hp.step hs hF hC⟩⟩
  | agg xs =>
    obtain ⟨ys, rfl, hsz, h⟩ := h
    exact ⟨ys, rfl, hsz, fun j c hj => let ⟨y, hy, hp⟩ := h j c hj; ⟨y, hy, hp.step hs hF hC⟩⟩
  | tupo d e vs rest =>
    obtain ⟨y, rfl, h⟩ := h
    exact ⟨y, rfl, OwnR.step h hs (ho d (by simp [AV.has])).1 (ho d (by simp [AV.has])).2⟩
  | free => exact h
  | vw d k vs =>
    obtain ⟨h1, h2⟩ := ho d (by simp [AV.has])
    exact Sl.step h hs (fun b hb hf => ⟨hF b hb hf.1, by rw [← h1]; exact hf.2⟩) (fun b hb hc => ⟨hC b hb hc, fun e => h2 b e hc⟩)
  | mp d t ks =>
    obtain ⟨g, hg, rfl, hm⟩ := h
    obtain ⟨h1, h2⟩ := ho d (by simp [AV.has])
    exact ⟨g, h1.trans hg, rfl, hm.step hs (h2 g hg)⟩
  | cnd c a ih =>
    simp only [RepV] at h ⊢
    split at h
    · rename_i hc; simp only [hc, if_true]; exact ih (fun d hd => ho d (by simpa [AV.has] using hd)) h
    · rename_i hc; simp only [hc]; simpa using h

/-! ## abstract states -/

structure AState where
  s : List (Nat × AV)
  rd : Nat

def AState.get (σ : AState) (t : Nat) : AV := (σ.s.lookup t).getD .any
def AState.put (σ : AState) (d : Option Nat) (x : AV) : AState := match d with
  | some d => ⟨(d, x) :: σ.s, σ.rd⟩
  | none => σ

def LIM : Nat := 1099511627776

/-- what is fixed during a call -/
structure Ctx where
  P : Program
  w0 : World
  F0 : Nat → Prop
  rho0 : Option Nat
  N : Nat
  rs0 : Value
  rb0 : List UInt8
  H0 : Nat → Prop
  pin : Value

structure Gh where
  own : Nat → Option Nat
  rho : Option Nat
  rs : Value
  rb : List UInt8

def Fb (X : Ctx) (g : Gh) (b : Nat) : Prop := X.F0 b ∨ (∃ d, g.own d = some b) ∨ g.rho = some b

def bytesV (bs : List UInt8) : List Value := bs.map fun b => .int .u8 b.toNat

def RdOk (F : Nat → Prop) (w : World) (rho : Option Nat) (s : Value) (bs : List UInt8) (m : Nat) : Prop :=
  ∀ β, rho = some β → (∃ p ty, w.heap[β]? = some (.cells #[s, .int .i64 p] ty (0, 0)) ∧ 0 ≤ p ∧ p ≤ m) ∧ Sl F w s 1 (bytesV bs) ∧ bs.length ≤ 2000

structure Rep (X : Ctx) (g : Gh) (σ : AState) (a : Act) (w : World) : Prop where
  size : a.tmps.size = X.N % 1048576
  defers : a.defers = []
  frame : Step (fun b => X.rho0 = some b ∨ X.H0 b) X.w0 w
  low : ∀ b, X.F0 b → b < X.w0.heap.size
  inj : ∀ d d' b, g.own d = some b → g.own d' = some b → d = d'
  new : ∀ d b, g.own d = some b → (X.w0.heap.size ≤ b ∨ X.H0 b) ∧ b < w.heap.size ∧ g.rho ≠ some b
  rhoF : ∀ b, X.rho0 = some b → X.F0 b
  rho : g.rho = X.rho0 ∨ (X.rho0 = none ∧ ∀ b, g.rho = some b → X.w0.heap.size ≤ b ∨ X.H0 b)
  keep : X.rho0 ≠ none → g.rs = X.rs0 ∧ g.rb = X.rb0
  rd : RdOk (Fb X g) w g.rho g.rs g.rb σ.rd
  rep : ∀ t, RepV X.P (Fb X g) g.own g.rho w (a.tmps.getD t undef) (σ.get t)
  hH : ∀ b, X.H0 b → ¬ X.F0 b ∧ X.rho0 ≠ some b
  pin : 1048576 ≤ X.N → a.tmps.getD 0 undef = X.pin

/-- what is new, or handed over, is nothing that has to stay -/
theorem nw_ne {X : Ctx} {b : Nat} (h : X.w0.heap.size ≤ b ∨ X.H0 b) (hb : b < X.w0.heap.size) (hE : ¬ (X.rho0 = some b ∨ X.H0 b)) : False :=
  h.elim (fun h => by omega) (fun h => hE (.inr h))

theorem Rep.nwF {X : Ctx} {g : Gh} {σ : AState} {a : Act} {w : World} (h : Rep X g σ a w) {b : Nat} (hb : X.w0.heap.size ≤ b ∨ X.H0 b) : ¬ X.F0 b := fun hf =>
  hb.elim (fun hb => by have := h.low b hf; omega) (fun hb => (h.hH b hb).1 hf)

def AV.strip : AV → AV
  | .cnd _ x => x
  | x => x
def AV.valid : AV → Bool
  | .cnd c _ => c
  | _ => true

def AState.ev (σ : AState) : Operand → AV
  | .tmp t => σ.get t
  | .const v => .v v
  | .func f => .clo f [] []
  | .global _ => .any
def AState.val (σ : AState) (x : Operand) : AV := (σ.ev x).strip
def AState.va (σ : AState) (x : Operand) : Bool := (σ.ev x).valid

section
variable {X : Ctx} {g : Gh} {σ : AState} {a : Act} {w : World}

theorem Rep.ev (h : Rep X g σ a w) (x : Operand) : RepV X.P (Fb X g) g.own g.rho w (a.eval x) (σ.ev x) := by
  cases x with
  | tmp t => exact h.rep t
  | const v => rfl
  | func f => exact ⟨#[], #[], rfl, rfl, rfl, fun j c hj => by simp at hj, fun j c hj => by simp at hj⟩
  | global b => trivial

theorem RepV.strip {P : Program} {F : Nat → Prop} {own : Nat → Option Nat} {rho : Option Nat} {x : Value} {av : AV} (h : RepV P F own rho w x av) (hv : av.valid = true) :
    RepV P F own rho w x av.strip := by
  cases av <;> first | exact h | skip
  simp only [AV.valid] at hv
  subst hv
  simpa [RepV, AV.strip] using h

theorem Rep.val (h : Rep X g σ a w) {x : Operand} (hv : σ.va x = true) : RepV X.P (Fb X g) g.own g.rho w (a.eval x) (σ.val x) := (h.ev x).strip hv

theorem getD_set (xs : Array Value) (d t : Nat) (v : Value) (hd : d < xs.size) : (xs.setIfInBounds d v).getD t undef = if t = d then v else xs.getD t undef := by
  by_cases h : t = d
  · subst h; simp [hd]
  · simp only [if_neg h, Array.getD_eq_getD_getElem?]
    rw [Array.getElem?_setIfInBounds_ne (fun e => h e.symm)]

theorem get_put (σ : AState) (d t : Nat) (x : AV) : (σ.put (some d) x).get t = if t = d then x else σ.get t := by
  simp only [AState.put, AState.get, List.lookup]
  by_cases h : t = d
  · subst h; simp
  · have : (t == d) = false := by simpa using h
    simp [this, h]

/-- a slot may be written: it is there, and it is not the first one where that is to stay (`N` beyond 1048576) -/
def slotOk (N d : Nat) : Bool := decide (d < N % 1048576) && (decide (N < 1048576) || !decide (d = 0))
theorem slotOk_lt {N d : Nat} (h : slotOk N d = true) : d < N % 1048576 := by
  simp only [slotOk, Bool.and_eq_true, decide_eq_true_eq] at h
  exact h.1
theorem slotOk_ne {N d : Nat} (h : slotOk N d = true) (hN : 1048576 ≤ N) : d ≠ 0 := by
  simp only [slotOk, Bool.and_eq_true, Bool.or_eq_true, decide_eq_true_eq, Bool.not_eq_true', decide_eq_false_iff_not] at h
  exact h.2.resolve_left (by omega)
def dstOk (N : Nat) (d : Option Nat) : Bool := match d with | some d => slotOk N d | none => true

/-- a value is put into a slot; the world is as it was -/
theorem Rep.put (h : Rep X g σ a w) {d : Option Nat} (hd : dstOk X.N d = true) {v : Value} {x : AV} (hr : RepV X.P (Fb X g) g.own g.rho w v x) : Rep X g (σ.put d x) (a.put d v) w := by
  cases d with
  | none => exact h
  | some d =>
    simp only [dstOk] at hd
    have hlt := slotOk_lt hd
    refine { h with size := by simpa [Act.put] using h.size, rd := h.rd, rep := fun t => ?_, pin := fun hN => ?_ }
    rotate_left
    · have hne := slotOk_ne hd hN
      simp only [Act.put]
      rw [getD_set _ _ _ _ (by rw [h.size]; exact hlt), if_neg (fun e => hne e.symm)]
      exact h.pin hN
    simp only [Act.put]
    rw [getD_set _ _ _ _ (by rw [h.size]; exact hlt), get_put]
    split
    · exact hr
    · exact h.rep t
end

/-! ## looking at types -/

def tk (P : Program) (t : TypeId) : Nat := match P.underlying t with
  | none => 0
  | some (.struct _) | some (.array _ _) => P.cellsOf t + 2
  | some _ => 1
def foff (P : Program) (s : TypeId) (f : Nat) : Option Nat := match P.underlying s with
  | some (.struct fs) => match fs[f]? with
    | some fd => if P.cellsOf fd.type = 0 ∨ P.underlying fd.type = none then none else some fd.offset
    | none => none
  | _ => none
def ffld (P : Program) (s : TypeId) (f : Nat) : Option (Nat × Nat) := match P.underlying s with
  | some (.struct fs) => match fs[f]? with
    | some fd => some (fd.offset, tk P fd.type)
    | none => none
  | _ => none
def selt (P : Program) (t : TypeId) : Option Nat := match P.underlying t with
  | some (.slice e) => if P.underlying e = none then none else some (P.cellsOf e)
  | _ => none
def isStr (P : Program) (t : TypeId) : Bool := match P.underlying t with
  | some .string => true
  | _ => false
def ikind (P : Program) (t : TypeId) : Option IntKind := match P.underlying t with
  | some (.int k) => some k
  | _ => none

theorem run_underlying_some {P : Program} {t : TypeId} {d : TypeDesc} (h : P.underlying t = some d) (w : World) : (underlying t).run P w = .ok d w := by
  simp [underlying, h]

theorem run_sizeOf {P : Program} {t : TypeId} (h : P.underlying t ≠ none) (w : World) : (sizeOf t).run P w = .ok (P.cellsOf t) w := by
  unfold Program.underlying at h
  unfold Program.cellsOf
  cases hi : P.info? t with
  | none => simp [hi] at h
  | some i => simp [sizeOf, typeInfo, hi]

theorem run_isAgg {P : Program} {t : TypeId} {d : TypeDesc} (h : P.underlying t = some d) (w : World) : (isAgg t).run P w = .ok (match d with | .struct _ | .array _ _ => true | _ => false) w := by
  simp only [isAgg, Sem.run_bind, run_underlying_some h, Result.andThen_ok]
  cases d <;> rfl

theorem tk_scalar {P : Program} {t : TypeId} (h : tk P t = 1) (w : World) : (isAgg t).run P w = .ok false w := by
  unfold tk at h
  cases hu : P.underlying t with
  | none => simp [hu] at h
  | some d => rw [run_isAgg hu]; cases d <;> simp_all

theorem tk_agg {P : Program} {t : TypeId} {n : Nat} (h : tk P t = n + 2) (w : World) : (isAgg t).run P w = .ok true w ∧ (sizeOf t).run P w = .ok n w := by
  unfold tk at h
  cases hu : P.underlying t with
  | none => simp [hu] at h
  | some d =>
    refine ⟨by rw [run_isAgg hu]; cases d <;> simp_all, ?_⟩
    rw [run_sizeOf (by simp [hu])]
    cases d <;> simp_all

theorem run_loadVar_scalar {P : Program} {t : TypeId} {w : World} {a : Addr} {v : Value} (h : tk P t = 1) (hc : w.cell? a = some v) : (loadVar t a).run P w = .ok v w := by
  simp [loadVar, tk_scalar h, hc]

theorem run_loadVar_agg {P : Program} {t : TypeId} {w : World} {a : Addr} {cs : List Value} (h : tk P t = cs.length + 2) (hc : ∀ (j : Nat) v, cs[j]? = some v → w.cell? (a.add j) = some v) :
    (loadVar t a).run P w = .ok (.agg cs.toArray) w := by
  simp only [loadVar, Sem.run_bind, tk_agg h, Result.andThen_ok, if_true, run_loadCells_list w a cs hc, Sem.run_pure]

theorem Addr.add_mk (b o j : Nat) : (⟨b, o, none⟩ : Addr).add j = ⟨b, o + j, none⟩ := by
  unfold Addr.add; split <;> simp_all

/-! ## the simple operations: what they make of abstract operands, and what they ask -/

def elt (vs : List Value) (i : Nat) : Value := vs[i]?.getD undef

def ptrOf : AV → Option (List A0 × Nat)
  | .ptr cells off => some (cells, off)
  | .bx _ cells off => some (cells, off)
  | .ep _ _ vs i off => some ((elt vs i).cells.toList.map .v, off)
  | _ => none

def allV : List A0 → Option (List Value)
  | [] => some []
  | .v x :: r => match allV r with | some xs => some (x :: xs) | none => none
  | .sl _ _ :: _ => none

def gather (cells : List A0) (off : Nat) : Nat → Option AV
  | 0 => none
  | 1 => match cells[off]? with | some c => some c.av | none => none
  | n + 2 => match allV ((cells.drop off).take n) with
    | some xs => if xs.length = n then some (.v (.agg xs.toArray)) else none
    | none => none

def sload (P : Program) (t : TypeId) (x : AV) : Option (Prop × AV) := match ptrOf x with
  | some (cells, off) => match gather cells off (tk P t) with
    | some r => some (True, r)
    | none => none
  | none => none

theorem allV_get : ∀ (cs : List A0) (xs : List Value), allV cs = some xs → xs.length = cs.length ∧ ∀ (j : Nat) v, xs[j]? = some v → cs[j]? = some (.v v)
  | [], xs, h => by simp [allV] at h; subst h; simp
  | .v x :: r, xs, h => by
    simp only [allV] at h
    cases hr : allV r with
    | none => simp [hr] at h
    | some ys =>
      simp only [hr, Option.some.injEq] at h
      subst h
      obtain ⟨h1, h2⟩ := allV_get r ys hr
      refine ⟨by simp [h1], fun j v hj => ?_⟩
      cases j with
      | zero => simpa using hj
      | succ j => simpa using h2 j v (by simpa using hj)
  | .sl _ _ :: _, xs, h => by simp [allV] at h

section
variable {X : Ctx} {g : Gh} {σ : AState} {a : Act} {w : World}

/-- what the cells behind a pointer hold -/
def CellsR (F : Nat → Prop) (w : World) (ad : Addr) (cells : List A0) (off : Nat) : Prop :=
  ∀ (i : Nat) c, cells[off + i]? = some c → ∃ y : Value, w.cell? (ad.add i) = some y ∧ RepA F w y c

theorem ownsRow_cell {w : World} {base e k n : Nat} {x : Value} {xs : List Value} {g : Nat} (h : w.ownsRow base e k x n xs) (hx : x.ownBlock = some g) :
    ∀ (j : Nat) c, xs[j]? = some c → w.cell? ⟨g, j, none⟩ = some c := fun j c hj => by
  have := h.cells hx j c hj
  rwa [Addr.add_mk, Nat.zero_add] at this

theorem flat_get {k : Nat} : ∀ (vs : List Value), (∀ y ∈ vs, EltOk k y) → ∀ (i : Nat) x, vs[i]? = some x → ∀ j c, x.cells[j]? = some c → (flat vs)[i * k + j]? = some c
  | [], _, i, x, hi, _, _, _ => by simp at hi
  | y :: vs, h, i, x, hi, j, c, hj => by
    have hy := (h y List.mem_cons_self).1
    simp only [flat, List.flatMap_cons]
    cases i with
    | zero =>
      simp only [List.getElem?_cons_zero, Option.some.injEq] at hi
      subst hi
      rw [List.getElem?_append_left (by simp only [Array.length_toList]; have := (Array.getElem?_eq_some_iff.1 hj).1; omega)]
      simpa using hj
    | succ i =>
      have ih := flat_get vs (fun y hy => h y (List.mem_cons_of_mem _ hy)) i x (by simpa using hi) j c hj
      rw [List.getElem?_append_right (by simp only [Array.length_toList, hy]; rw [Nat.add_mul]; omega)]
      simp only [Array.length_toList, hy]
      rw [show (i + 1) * k + j - k = i * k + j by rw [Nat.add_mul]; omega]
      exact ih

theorem ptrOf_cells {P : Program} {F : Nat → Prop} {own : Nat → Option Nat} {rho : Option Nat} {x : Value} {av : AV} {cells : List A0} {off : Nat}
    (h : RepV P F own rho w x av) (hp : ptrOf av = some (cells, off)) : ∃ ad, x = .pointer (some ad) ∧ CellsR F w ad cells off := by
  cases av <;> simp only [ptrOf, Option.some.injEq, Prod.mk.injEq, reduceCtorEq] at hp
  case ptr c o =>
    obtain ⟨rfl, rfl⟩ := hp
    obtain ⟨b, o', rfl, _, _, hc⟩ := h
    refine ⟨_, rfl, fun i c hi => ?_⟩
    obtain ⟨y, hy, hr⟩ := hc _ c hi
    exact ⟨y, by rw [Addr.add_mk, Nat.add_assoc]; exact hy, hr⟩
  case bx d c o =>
    obtain ⟨rfl, rfl⟩ := hp
    obtain ⟨gb, arr, ty, _, rfl, hh, _, hc⟩ := h
    refine ⟨_, rfl, fun i c hi => ?_⟩
    obtain ⟨y, hy, hr⟩ := hc _ c hi
    exact ⟨y, by rw [Addr.add_mk, cell_of_row w gb _ arr ty (0, 0) hh]; exact hy, hr⟩
  case ep d e vs i o =>
    obtain ⟨rfl, rfl⟩ := hp
    obtain ⟨gb, x', _, hx', hr, hi, rfl⟩ := h
    refine ⟨_, rfl, fun j c hj => ?_⟩
    obtain ⟨hk, hr⟩ := hr
    rcases hr with ⟨rfl, _⟩ | ⟨g', _, hx2, hrow⟩
    · simp [Value.ownBlock] at hx'
    · have hv : vs[i]? = some (elt vs i) := by simp [elt, hi]
      simp only [List.getElem?_map, Option.map_eq_some_iff] at hj
      obtain ⟨y, hy, rfl⟩ := hj
      refine ⟨y, ?_, rfl⟩
      have := ownsRow_cell hrow hx' _ y (flat_get vs hk i _ hv (o + j) y (by simpa using hy))
      rw [Addr.add_mk, Nat.add_assoc]
      exact this

theorem sload_sound {P : Program} {F : Nat → Prop} {own : Nat → Option Nat} {rho : Option Nat} {x : Value} {av r : AV} {t : TypeId} {sc : Prop}
    (h : RepV P F own rho w x av) (hs : sload P t av = some (sc, r)) : ∃ v, (Instr.loadAt t x).run P w = .ok v w ∧ RepV P F own rho w v r := by
  unfold sload at hs
  split at hs
  · rename_i cells off hp
    obtain ⟨ad, rfl, hc⟩ := ptrOf_cells h hp
    split at hs
    · rename_i r' hg
      simp only [Option.some.injEq, Prod.mk.injEq] at hs
      obtain ⟨-, rfl⟩ := hs
      have hl : ∀ v, (loadVar t ad).run P w = .ok v w → (Instr.loadAt t (.pointer (some ad))).run P w = .ok v w := fun v hv => by simpa [Instr.loadAt, Instr.sureAddr] using hv
      cases hk : tk P t with
      | zero => simp [gather, hk] at hg
      | succ n =>
        cases n with
        | zero =>
          simp only [hk, gather, Nat.zero_add] at hg
          split at hg
          · rename_i c hc'
            simp only [Option.some.injEq] at hg
            subst hg
            obtain ⟨y, hy, hr⟩ := hc 0 c (by simpa using hc')
            refine ⟨y, hl _ (run_loadVar_scalar hk (by simpa [Addr.add] using hy)), ?_⟩
            cases c <;> exact hr
          · cases hg
        | succ n =>
          simp only [hk, gather] at hg
          split at hg
          · rename_i xs hxs
            split at hg
            · rename_i hn
              simp only [Option.some.injEq] at hg
              subst hg
              obtain ⟨_, hget⟩ := allV_get _ _ hxs
              refine ⟨_, hl _ (run_loadVar_agg (cs := xs) (by rw [hk, hn]) fun j v hj => ?_), rfl⟩
              have h1 := hget j v hj
              rw [List.getElem?_take] at h1
              split at h1
              · rw [List.getElem?_drop] at h1
                obtain ⟨y, hy, hr⟩ := hc j _ h1
                rw [hy]; exact congrArg some hr
              · cases h1
            · cases hg
          · cases hg
    · cases hs
  · cases hs
end

def lenA : AV → Option Nat
  | .sl _ vs => some vs.length
  | .own _ _ vs => some vs.length
  | .vw _ _ vs => some vs.length
  | .v (.slice none 0 0) => some 0
  | .v (.string s) => some s.data.toList.length
  | _ => none

def inR (k : IntKind) (n : Int) : Prop := match k with
  | .i64 => -9223372036854775808 ≤ n ∧ n ≤ 9223372036854775807
  | .u8 => 0 ≤ n ∧ n ≤ 255
  | _ => False

theorem wrap_inR {k : IntKind} {n : Int} (h : inR k n) : k.wrap n = n := by
  cases k <;> simp only [inR] at h <;> first | exact IntWalk.i64_in n h | exact IntWalk.u8_in n h

def catS (s t : ByteArray) : ByteArray := ⟨⟨s.data.toList ++ t.data.toList⟩⟩

def kindOf : Value → Nat
  | .int .i64 _ => 1
  | .string _ => 2
  | .bool _ => 3
  | _ => 0

def eqC : Value → Value → Bool
  | .int _ a, .int _ b => decide (a = b)
  | .string a, .string b => decide (a.data.toList = b.data.toList)
  | .bool a, .bool b => decide (a = b)
  | _, _ => false

def eqCs : List Value → List Value → Bool
  | [], [] => true
  | x :: xs, y :: ys => eqC x y && eqCs xs ys
  | _, _ => false

/-- '==' and '!=' at a struct type of flat cells -/
def EqT (P : Program) (t : TypeId) (ks : List Nat) : Prop :=
  ∀ (xs ys : Array Value) (x y : Operand) (w : World), xs.toList.map kindOf = ks → ys.toList.map kindOf = ks →
    (do eqGuard .eql t x y (.agg xs) (.agg ys); binOp .eql t (.agg xs) (.agg ys)).run P w = .ok (.bool (eqCs xs.toList ys.toList)) w ∧
    (do eqGuard .neq t x y (.agg xs) (.agg ys); binOp .neq t (.agg xs) (.agg ys)).run P w = .ok (.bool (!eqCs xs.toList ys.toList)) w

/-- exclusive or -/
def xorI (a b : Int) : Int := ((a.toNat ^^^ b.toNat : Nat) : Int)

def abin (P : Program) (t : TypeId) : BinOp → Value → Value → Option (Prop × Value)
  | .add, .int k a, .int k' b => if k = k' then some (inR k (a + b), .int k (a + b)) else none
  | .sub, .int k a, .int k' b => if k = k' then some (inR k (a - b), .int k (a - b)) else none
  | .mul, .int k a, .int k' b => if k = k' then some (inR k (a * b), .int k (a * b)) else none
  | .quo, .int k a, .int k' b => if k = k' then some (0 ≤ a ∧ 0 < b ∧ inR k a, .int k (a / b)) else none
  | .rem, .int k a, .int k' b => if k = k' then some (0 ≤ a ∧ 0 < b, .int k (a % b)) else none
  | .eql, .int k a, .int k' b => if k = k' then some (True, .bool (decide (a = b))) else none
  | .neq, .int k a, .int k' b => if k = k' then some (True, .bool (!decide (a = b))) else none
  | .lss, .int k a, .int k' b => if k = k' then some (True, .bool (decide (a < b))) else none
  | .leq, .int k a, .int k' b => if k = k' then some (True, .bool (decide (a ≤ b))) else none
  | .gtr, .int k a, .int k' b => if k = k' then some (True, .bool (decide (b < a))) else none
  | .geq, .int k a, .int k' b => if k = k' then some (True, .bool (decide (b ≤ a))) else none
  | .add, .string s, .string u => some (s.data.toList.length + u.data.toList.length ≤ 140737488355328, .string (catS s u))
  | .eql, .string s, .string u => some (True, .bool (decide (s.data.toList = u.data.toList)))
  | .neq, .string s, .string u => some (True, .bool (!decide (s.data.toList = u.data.toList)))
  | .lss, .string s, .string u => some (True, .bool (Op.bytesLess s.data.toList u.data.toList))
  | .leq, .string s, .string u => some (True, .bool (Op.bytesLess s.data.toList u.data.toList || decide (s.data.toList = u.data.toList)))
  | .gtr, .string s, .string u => some (True, .bool (!(Op.bytesLess s.data.toList u.data.toList || decide (s.data.toList = u.data.toList))))
  | .geq, .string s, .string u => some (True, .bool (!Op.bytesLess s.data.toList u.data.toList))
  | .eql, .bool a, .bool b => if (match P.underlying t with | some .bool => true | _ => false) then some (True, .bool (decide (a = b))) else none
  | .neq, .bool a, .bool b => if (match P.underlying t with | some .bool => true | _ => false) then some (True, .bool (!decide (a = b))) else none
  | .eql, .agg xs, .agg ys => some (EqT P t (xs.toList.map kindOf) ∧ ys.toList.map kindOf = xs.toList.map kindOf, .bool (eqCs xs.toList ys.toList))
  | .neq, .agg xs, .agg ys => some (EqT P t (xs.toList.map kindOf) ∧ ys.toList.map kindOf = xs.toList.map kindOf, .bool (!eqCs xs.toList ys.toList))
  | .xor, .int .i64 a, .int .i64 b => some (0 ≤ a ∧ a ≤ 9223372036854775807 ∧ 0 ≤ b ∧ b ≤ 9223372036854775807, .int .i64 (xorI a b))
  | _, _, _ => some (False, .bool false)

theorem beq_list_u8 (a b : List UInt8) : (a == b) = decide (a = b) := by
  by_cases h : a = b <;> simp [h]

theorem xorI_lt {a b : Int} (ha : a ≤ 9223372036854775807) (hb : b ≤ 9223372036854775807) : 0 ≤ xorI a b ∧ xorI a b ≤ 9223372036854775807 := by
  have h := Nat.xor_lt_two_pow (x := a.toNat) (y := b.toNat) (n := 63) (by omega) (by omega)
  unfold xorI
  omega
theorem xor_sound (a b : Int) (h1 : 0 ≤ a) (h2 : a ≤ 9223372036854775807) (h3 : 0 ≤ b) (h4 : b ≤ 9223372036854775807) (P : Program) (w : World) : (Op.intBits .xor .i64 a b).run P w = .ok (.int .i64 (xorI a b)) w := by
  have key : ∀ x : Int, 0 ≤ x → x ≤ 9223372036854775807 → (BitVec.ofInt IntKind.i64.bits x).toNat = x.toNat := fun x hx hx' => by
    have : IntKind.i64.bits = 64 := rfl
    rw [BitVec.toNat_ofInt, this]
    omega
  have hw : IntKind.i64.wrap (((BitVec.ofInt IntKind.i64.bits a ^^^ BitVec.ofInt IntKind.i64.bits b).toNat : Nat) : Int) = xorI a b := by
    rw [BitVec.toNat_xor, key a h1 h2, key b h3 h4]
    have := xorI_lt h2 h4
    exact wrap_inR (k := .i64) (by simp only [inR]; unfold xorI at this; omega)
  simp only [Op.intBits, Sem.run_pure, hw]

theorem abin_sound {P : Program} {t : TypeId} {op : BinOp} {x y r : Value} {sc : Prop} (h : abin P t op x y = some (sc, r)) (hsc : sc) (ox oy : Operand) (w : World) :
    (do eqGuard op t ox oy x y; binOp op t x y).run P w = .ok r w := by
  unfold abin at h
  split at h
  case h_1 k a k' b | h_2 k a k' b | h_3 k a k' b =>
    split at h <;> simp only [Option.some.injEq, Prod.mk.injEq, reduceCtorEq] at h
    rename_i hk; subst hk
    obtain ⟨rfl, rfl⟩ := h
    simp [eqGuard, binOp, Op.intArith, wrap_inR hsc]
  case h_4 k a k' b =>
    split at h <;> simp only [Option.some.injEq, Prod.mk.injEq, reduceCtorEq] at h
    rename_i hk; subst hk
    obtain ⟨rfl, rfl⟩ := h
    obtain ⟨h1, h2, h3⟩ := hsc
    have hb : b ≠ 0 := by omega
    have hr : inR k (a / b) := by
      have h4 : a / b ≤ a := Int.ediv_le_self _ h1
      have h5 : 0 ≤ a / b := Int.ediv_nonneg h1 (by omega)
      cases k <;> simp only [inR] at h3 ⊢ <;> omega
    simp [eqGuard, binOp, Op.intDiv, hb, Int.tdiv_eq_ediv_of_nonneg h1, wrap_inR hr]
  case h_5 k a k' b =>
    split at h <;> simp only [Option.some.injEq, Prod.mk.injEq, reduceCtorEq] at h
    rename_i hk; subst hk
    obtain ⟨rfl, rfl⟩ := h
    obtain ⟨h1, h2⟩ := hsc
    have hb : b ≠ 0 := by omega
    simp [eqGuard, binOp, Op.intDiv, hb, Int.tmod_eq_emod_of_nonneg h1]
  case h_6 k a k' b | h_7 k a k' b | h_8 k a k' b | h_9 k a k' b | h_10 k a k' b | h_11 k a k' b =>
    split at h <;> simp only [Option.some.injEq, Prod.mk.injEq, reduceCtorEq] at h
    rename_i hk; subst hk
    obtain ⟨rfl, rfl⟩ := h
    by_cases hab : a = b <;> simp [eqGuard, binOp, Op.intCmp, hab]
  case h_12 s u =>
    simp only [Option.some.injEq, Prod.mk.injEq] at h
    obtain ⟨rfl, rfl⟩ := h
    have hcat : s ++ u = catS s u := by
      unfold catS
      apply ByteArray.ext
      apply Array.ext'
      simp
    have hlen : ¬ (((s.size + u.size : Nat) : Int) > IntKind.i64.max) := by
      have h1 : s.size = s.data.toList.length := by rw [Array.length_toList]; rfl
      have h2 : u.size = u.data.toList.length := by rw [Array.length_toList]; rfl
      have h3 : IntKind.i64.max = 9223372036854775807 := by decide
      rw [h1, h2, h3]
      omega
    simp only [eqGuard, binOp, Op.stringOp, Sem.run_bind]
    simp only [hlen, if_false, hcat]
    rfl
  case h_13 s u | h_14 s u | h_15 s u | h_16 s u | h_17 s u | h_18 s u =>
    simp only [Option.some.injEq, Prod.mk.injEq] at h
    obtain ⟨rfl, rfl⟩ := h
    rw [eqGuard_at_string]
    simp only [binOp, Op.stringOp, ByteArray.toList_eq, beq_list_u8]
    rfl
  case h_19 a b | h_20 a b =>
    split at h
    · rename_i hu
      simp only [Option.some.injEq, Prod.mk.injEq] at h
      obtain ⟨rfl, rfl⟩ := h
      have hu' : P.underlying t = some .bool := by
        cases hd : P.underlying t with
        | none => simp [hd] at hu
        | some d => cases d <;> simp_all
      rw [eqGuard_at_bool]
      simp only [Sem.run_bind, Sem.run_pure, Result.andThen_ok, run_eql_bool w t a b hu', run_neq_bool w t a b hu']
      cases a <;> cases b <;> rfl
    · cases h
  case h_21 xs ys =>
    simp only [Option.some.injEq, Prod.mk.injEq] at h
    obtain ⟨rfl, rfl⟩ := h
    exact (hsc.1 xs ys ox oy w rfl hsc.2).1
  case h_22 xs ys =>
    simp only [Option.some.injEq, Prod.mk.injEq] at h
    obtain ⟨rfl, rfl⟩ := h
    exact (hsc.1 xs ys ox oy w rfl hsc.2).2
  case h_23 a b =>
    simp only [Option.some.injEq, Prod.mk.injEq] at h
    obtain ⟨rfl, rfl⟩ := h
    obtain ⟨h1, h2, h3, h4⟩ := hsc
    have := xor_sound a b h1 h2 h3 h4 P w
    simp [eqGuard, binOp, this]
  case h_24 =>
    simp only [Option.some.injEq, Prod.mk.injEq] at h
    exact (h.1 ▸ hsc : False).elim

/-! ## struct values -/

def bset (cells : List Value) (off : Nat) (xs : List Value) : List Value := cells.take off ++ xs ++ cells.drop (off + xs.length)

def bfill (places : List (Nat × Nat)) : List Value → List (Nat × Value) → Option (List Value)
  | cells, [] => some cells
  | cells, (i, v) :: rest => match places[i]? with
    | some (off, size) => if v.cells.size = size ∧ off + size ≤ cells.length then bfill places (bset cells off v.cells.toList) rest else none
    | none => none

theorem foldl_set (off : Nat) : ∀ (xs : List Value) (k : Nat) (cells : Array Value), off + k + xs.length ≤ cells.size →
    ((xs.zipIdx k).foldl (fun cs (p : Value × Nat) => cs.setIfInBounds (off + p.2) p.1) cells).toList = bset cells.toList (off + k) xs
  | [], k, cells, _ => by simp [bset]
  | x :: xs, k, cells, h => by
    simp only [List.length_cons] at h
    simp only [List.zipIdx_cons, List.foldl_cons]
    rw [foldl_set off xs (k + 1) _ (by simp; omega)]
    apply List.ext_getElem?
    intro j
    simp only [bset, List.append_assoc, List.getElem?_append, List.length_take, Array.toList_setIfInBounds, List.getElem?_take, List.getElem?_drop, List.length_set,
      Array.length_toList, List.getElem?_set, List.length_cons]
    by_cases h1 : j < off + k
    · simp only [show j < min (off + (k + 1)) cells.size by omega, show j < min (off + k) cells.size by omega, if_true, show j < off + (k + 1) by omega, h1, show ¬ off + k = j by omega, if_false]
    · by_cases h2 : j = off + k
      · subst h2
        simp only [show off + k < min (off + (k + 1)) cells.size by omega, if_true, show off + k < off + (k + 1) by omega, show ¬ off + k < min (off + k) cells.size by omega, if_false,
          show off + k < cells.size by omega, show off + k - min (off + k) cells.size = 0 by omega]
        simp
      · simp only [show min (off + (k + 1)) cells.size = off + k + 1 by omega, show min (off + k) cells.size = off + k by omega, show ¬ j < off + k + 1 by omega, h1, if_false]
        by_cases h3 : j - (off + k + 1) < xs.length
        · simp only [h3, if_true, show j - (off + k) < xs.length + 1 by omega]
          rw [show j - (off + k) = (j - (off + k + 1)) + 1 by omega]
          simp
        · simp only [h3, if_false, show ¬ j - (off + k) < xs.length + 1 by omega]
          simp only [show ¬ off + k = off + (k + 1) + xs.length + (j - (off + k + 1) - xs.length) by omega, if_false]
          rw [show off + (k + 1) + xs.length + (j - (off + k + 1) - xs.length) = off + k + (xs.length + 1) + (j - (off + k) - (xs.length + 1)) by omega]

theorem fill_eq (places : List (Nat × Nat)) : ∀ (parts : List (Nat × Value)) (cells : Array Value) (out : List Value), bfill places cells.toList parts = some out →
    Instr.fill (fun i => places[i]?) cells parts = some out.toArray
  | [], cells, out, h => by simp only [bfill, Option.some.injEq] at h; subst h; simp [Instr.fill]
  | (i, v) :: rest, cells, out, h => by
    simp only [bfill] at h
    simp only [Instr.fill]
    cases hp : places[i]? with
    | none => simp [hp] at h
    | some p =>
      obtain ⟨off, size⟩ := p
      simp only [hp] at h ⊢
      split at h
      · rename_i hs
        obtain ⟨h1, h2⟩ := hs
        subst h1
        simp only [Array.length_toList] at h2
        have hb : (decide (v.cells.size ≠ v.cells.size) || decide (off + v.cells.size > cells.size)) = false := by simp; omega
        rw [if_neg (by simpa using hb)]
        refine fill_eq places rest _ out ?_
        have := foldl_set off v.cells.toList 0 cells (by simpa using h2)
        rw [← Array.foldl_toList, Array.toList_zipIdx, this]
        exact h
      · cases h

def bz (P : Program) (t : TypeId) : Option (List Value × List (Nat × Nat)) := match P.underlying t with
  | some (.struct fs) => if fs.all (fun f => (P.underlying f.type).isSome) then
      match (P.info? t).bind (·.zero) with
      | some z => some (z.cells.toList, fs.toList.map fun f => (f.offset, P.cellsOf f.type))
      | none => none
    else none
  | _ => none

theorem run_mapM_sizes {P : Program} (w : World) : ∀ (fs : List Field), (∀ f ∈ fs, (P.underlying f.type).isSome = true) →
    (fs.mapM fun f => do pure (f.offset, ← sizeOf f.type) : Sem (List (Nat × Nat))).run P w = .ok (fs.map fun f => (f.offset, P.cellsOf f.type)) w
  | [], _ => by simp
  | f :: fs, h => by
    have h0 := h f List.mem_cons_self
    have hs := run_sizeOf (P := P) (t := f.type) (by intro e; simp [e] at h0) w
    simp only [List.mapM_cons, Sem.run_bind, hs, Result.andThen_ok, Sem.run_pure, run_mapM_sizes w fs fun f hf => h f (List.mem_cons_of_mem _ hf), List.map_cons]

theorem run_build {P : Program} {t : TypeId} {zs : List Value} {places : List (Nat × Nat)} {parts : Array (Nat × Value)} {out : List Value} (h : bz P t = some (zs, places))
    (hf : bfill places zs parts.toList = some out) (w : World) : (Instr.build t parts).run P w = .ok (.agg out.toArray) w := by
  unfold bz at h
  split at h
  · rename_i fs hu
    split at h
    · rename_i hall
      split at h
      · rename_i z hz
        simp only [Option.some.injEq, Prod.mk.injEq] at h
        obtain ⟨rfl, rfl⟩ := h
        have hzero : (zeroValue t).run P w = .ok z w := by
          cases hi : P.info? t with
          | none => simp [hi] at hz
          | some i => simp [hi] at hz; simp [zeroValue, typeInfo, hi, hz]
        have hm : (fs.mapM fun f => do pure (f.offset, ← sizeOf f.type) : Sem (Array (Nat × Nat))).run P w = .ok (fs.toList.map fun f => (f.offset, P.cellsOf f.type)).toArray w := by
          rw [Array.mapM_eq_mapM_toList]
          simp only [Sem.run_map, run_mapM_sizes w fs.toList (fun f hf => by simpa using (Array.all_eq_true'.1 hall) f (by simpa using hf)), Result.andThen_ok]
        simp only [Instr.build, Sem.run_bind, hzero, Result.andThen_ok, run_underlying_some hu, hm]
        have := fill_eq (fs.toList.map fun f => (f.offset, P.cellsOf f.type)) parts.toList z.cells out hf
        simp only [List.getElem?_toArray, this]
        rfl
      · cases h
    · cases h
  · cases h

/-! ## the simple operations -/

def subS (s : ByteArray) (l h : Nat) : ByteArray := ⟨⟨(s.data.toList.take h).drop l⟩⟩

def optI : Option AV → Option (Option Int)
  | none => some none
  | some (.v (.int _ n)) => some (some n)
  | some _ => none

def sslice (P : Program) (t : TypeId) (x : AV) (lo hi : Option AV) : Option (Prop × AV) :=
  match optI lo, optI hi with
  | some l, some h =>
    match x with
    | .v (.string s) => if isStr P t then
        some (0 ≤ l.getD 0 ∧ l.getD 0 ≤ h.getD s.data.toList.length ∧ h.getD s.data.toList.length ≤ s.data.toList.length,
          .v (.string (subS s (l.getD 0).toNat (h.getD s.data.toList.length).toNat))) else none
    | .sl k vs => if selt P t = some k then
        some (0 ≤ l.getD 0 ∧ l.getD 0 ≤ h.getD vs.length ∧ h.getD vs.length ≤ vs.length,
          .sl k ((vs.take (h.getD vs.length).toNat).drop (l.getD 0).toNat)) else none
    | .own d e vs => if selt P t = some (P.cellsOf e) then
        some (0 ≤ l.getD 0 ∧ l.getD 0 ≤ h.getD vs.length ∧ h.getD vs.length ≤ vs.length, match l with
          | none => .own d e (vs.take (h.getD vs.length).toNat)
          | some l => .vw d (P.cellsOf e) ((vs.take (h.getD vs.length).toNat).drop l.toNat)) else none
    | _ => none
  | _, _ => none

def partsV (ρ : Operand → AV) : List (Nat × Operand) → Option (List (Nat × Value))
  | [] => some []
  | (i, x) :: r => match ρ x, partsV ρ r with
    | .v y, some ys => some ((i, y) :: ys)
    | _, _ => none

def capsV (ρ : Operand → AV) : List Operand → Option (List (List A0))
  | [] => some []
  | x :: r => match ρ x, capsV ρ r with
    | .ptr cells 0, some ys => some (cells :: ys)
    | _, _ => none

def firstV (ρ : Operand → AV) : List Operand → Option (List A0)
  | [] => some []
  | x :: r => match ρ x, firstV ρ r with
    | .v y, some ys => some (.v y :: ys)
    | .sl k vs, some ys => some (.sl k vs :: ys)
    | _, _ => none

def lenT (P : Program) (t : TypeId) : AV → Bool
  | .v (.string _) => isStr P t
  | _ => (selt P t).isSome

def slen (P : Program) (ρ : Operand → AV) : List Operand → List TypeId → Option (Prop × AV)
  | [x], [t] => match lenA (ρ x) with
    | some n => if lenT P t (ρ x) then some (True, .v (.int .i64 n)) else none
    | none => none
  | _, _ => none

/-- what a simple operation asks, and what it makes -/
def sop (P : Program) (ρ : Operand → AV) : Op → Option (Prop × AV)
  | .move x | .assign x => some (True, ρ x)
  | .binOp op t x y _ => match ρ x, ρ y with
    | .v a, .v b => match abin P t op a b with
      | some (sc, r) => some (sc, .v r)
      | none => none
    | _, _ => none
  | .unOp .not _ x => match ρ x with
    | .v (.bool b) => some (True, .v (.bool (!b)))
    | _ => none
  | .unOp .neg _ x => match ρ x with
    | .v (.int k n) => some (inR k (0 - n), .v (.int k (0 - n)))
    | _ => none
  | .convert src dst x => match ρ x, ikind P dst with
    | .v (.int _ n), some k => if (P.underlying src).isSome then some (inR k n, .v (.int k n)) else none
    | _, _ => none
  | .load t x => sload P t (ρ x)
  | .fieldAddr s x f => match foff P s f, ρ x with
    | some o, .ptr cells off => some (True, .ptr cells (off + o))
    | some o, .bx d cells off => some (True, .bx d cells (off + o))
    | some o, .ep d e vs i off => some (True, .ep d e vs i (off + o))
    | _, _ => none
  | .field s x f => match ffld P s f, ρ x with
    | some (o, 1), .v (.agg cs) => match cs[o]? with
      | some y => some (True, .v y)
      | none => none
    | some (o, n + 2), .v (.agg cs) => some (True, .v (.agg (cs.extract o (o + n))))
    | _, _ => none
  | .indexAddr t x i => match ρ x, ρ i with
    | .sl k vs, .v (.int _ i) => if selt P t = some k then some (0 ≤ i ∧ i < vs.length, .ptr ((elt vs i.toNat).cells.toList.map .v) 0) else none
    | .own d e vs, .v (.int _ i) => if selt P t = some (P.cellsOf e) then some (0 ≤ i ∧ i < vs.length, .ep d e vs i.toNat 0) else none
    | _, _ => none
  | .index t x i => match ρ x, ρ i with
    | .v (.string s), .v (.int _ i) => if isStr P t then some (0 ≤ i ∧ i < s.data.toList.length, .v (.int .u8 (s.data.toList[i.toNat]?.getD 0).toNat)) else none
    | _, _ => none
  | .slice t x lo hi none => sslice P t (ρ x) (lo.map ρ) (hi.map ρ)
  | .build t parts => match bz P t, partsV ρ parts.toList with
    | some (zs, places), some ps => match bfill places zs ps with
      | some out => some (True, .v (.agg out.toArray))
      | none => none
    | _, _ => none
  | .extract x i => match ρ x with
    | .tup xs => match xs[i]? with
      | some c => some (True, c.av)
      | none => none
    | .tupo d e vs rest => if i = 0 then some (True, .own d e vs) else match rest[i - 1]? with
      | some c => some (True, .v c)
      | none => none
    | _ => none
  | .makeFunc (.func f) first caps => match firstV ρ first.toList, capsV ρ caps.toList with
    | some fs, some cs => some (True, .clo f fs cs)
    | _, _ => none
  | .call c => match c.callee with
    | .builtin .len => slen P ρ c.args.toList c.argTypes.toList
    | _ => none
  | .nilCheck x => match ρ x with
    | .ptr cells off => some (True, .ptr cells off)
    | .bx d cells off => some (True, .bx d cells off)
    | .ep d e vs i off => some (True, .ep d e vs i off)
    | .rd => some (True, .rd)
    | _ => none
  | .lookup t m x false => match ρ m, ρ x with
    | .mp _ t' ks, .v (.string s) => some (t' = t ∧ s.data.toList.length ≤ 2000000, .v (.bool (decide (s.data.toList ∈ ks))))
    | _, _ => none
  | _ => none

theorem plainBool {P : Program} {e : TypeId} (he : P.underlying e = some .bool) {v : Value} {b : Bool} {ps : List MemPlace} (h : plainElem (H := Unit) P e v = some (.lit (.bool b), ps)) : v = .bool b := by
  unfold plainElem at h
  rw [he] at h
  cases v <;> simp at h
  obtain ⟨h, _⟩ := h
  rw [h]

theorem MpR.look {P : Program} {w : World} {t g : Nat} {ks : List (List UInt8)} (h : MpR P w t g ks) {s : ByteArray} (hs : s.data.toList.length ≤ 2000000) :
    (Instr.lookup t (.map (some g)) (.string s) false).run P w = .ok (.bool (decide (s.data.toList ∈ ks))) w := by
  obtain ⟨k, e, h1, h2, h3, h4, D, h5, h6⟩ := h
  have hsz : s.size ≤ maxLen := by
    show s.data.size ≤ maxLen
    rw [← Array.length_toList]
    exact Nat.le_trans hs (by decide)
  obtain ⟨v, ps, hrun, hv⟩ := h5.lookup (Maps.string_keyed h2) h1 (h4 w) (plainElem_bool h3 false) (WideMaps.keyOf_string_mk h2 hsz)
  rw [h6] at hv
  rw [hrun, plainBool h3 hv]

theorem MpR.put {P : Program} {w : World} {t g : Nat} {ks : List (List UInt8)} (h : MpR P w t g ks) {s : ByteArray} (hs : s.data.toList.length ≤ 2000000) (hk : ks.length < 2000000) :
    ∃ w', (Instr.mapUpdate t (.map (some g)) (.string s) (.bool true)).run P w = .ok () w' ∧ MpR P w' t g (s.data.toList :: ks) ∧ Step (fun b => b = g) w w' := by
  obtain ⟨k, e, h1, h2, h3, h4, D, h5, h6⟩ := h
  have hsz : s.size ≤ maxLen := by
    show s.data.size ≤ maxLen
    rw [← Array.length_toList]
    exact Nat.le_trans hs (by decide)
  have hkey := WideMaps.keyOf_string_mk h2 hsz
  obtain ⟨w', hrun, h7, h8⟩ := h5.update (Maps.string_keyed h2) h1 (Nat.lt_of_lt_of_le hk (by decide)) hkey (plainElem_bool h3 true)
  refine ⟨w', hrun, ⟨k, e, h1, h2, h3, h4, _, h7, fun l => ?_⟩, ⟨h8.os, h8.tape, h8.output, h8.size, fun b hb hne => h8.block b hb fun e => hne (by simpa using e)⟩⟩
  by_cases hl : l = s.data.toList
  · subst hl
    rw [Maps.atKey_put_same h5.isMap ((Maps.string_keyed h2).key hkey)]
    simp
  · rw [Maps.atKey_put_other (fun e => hl (by simpa using e)), h6]
    simp [hl]

theorem run_fieldAt {P : Program} {s f o : Nat} (h : foff P s f = some o) (w : World) (ad : Addr) : (Instr.fieldAt s (.pointer (some ad)) f).run P w = .ok (.pointer (some (ad.add o))) w := by
  unfold foff at h
  split at h
  · rename_i fs hu
    split at h
    · rename_i fd hf
      split at h
      · cases h
      · rename_i hne
        simp only [not_or] at hne
        simp only [Option.some.injEq] at h
        subst h
        simp [Instr.fieldAt, run_underlying_some hu, hf, Instr.sureAddr, fieldPlace, run_sizeOf hne.2, hne.1]
    · cases h
  · cases h

section
variable {P : Program} {F : Nat → Prop} {own : Nat → Option Nat} {rho : Option Nat} {w : World} {a : Act} {ρ : Operand → AV}

theorem partsV_eval : ∀ (ps : List (Nat × Operand)) (out : List (Nat × Value)), partsV ρ ps = some out → (∀ p ∈ ps, RepV P F own rho w (a.eval p.2) (ρ p.2)) →
    ps.map (fun (i, x) => (i, a.eval x)) = out
  | [], out, h, _ => by simp only [partsV, Option.some.injEq] at h; simp [← h]
  | (i, x) :: r, out, h, hv => by
    simp only [partsV] at h
    have h0 := hv (i, x) List.mem_cons_self
    split at h
    · rename_i y ys hx hr
      simp only [Option.some.injEq] at h
      subst h
      simp only [hx] at h0
      simp only [List.map_cons]
      rw [partsV_eval r ys hr fun p hp => hv p (List.mem_cons_of_mem _ hp)]
      simp only [RepV] at h0
      rw [h0]
    · cases h

theorem capsV_eval : ∀ (ps : List Operand) (out : List (List A0)), capsV ρ ps = some out → (∀ p ∈ ps, RepV P F own rho w (a.eval p) (ρ p)) →
    out.length = ps.length ∧ ∀ (j : Nat) c, out[j]? = some c → ∃ y : Value, (ps.map a.eval)[j]? = some y ∧ PtrR F w y c 0
  | [], out, h, _ => by simp only [capsV, Option.some.injEq] at h; simp [← h]
  | x :: r, out, h, hv => by
    simp only [capsV] at h
    have h0 := hv x List.mem_cons_self
    split at h
    · rename_i cells ys hx hr
      simp only [Option.some.injEq] at h
      subst h
      simp only [hx] at h0
      obtain ⟨h1, h2⟩ := capsV_eval r ys hr fun p hp => hv p (List.mem_cons_of_mem _ hp)
      refine ⟨by simp [h1], fun j c hj => ?_⟩
      cases j with
      | zero => simp only [List.getElem?_cons_zero, Option.some.injEq] at hj; subst hj; exact ⟨_, rfl, h0⟩
      | succ j => exact h2 j c (by simpa using hj)
    · cases h

theorem firstV_eval : ∀ (ps : List Operand) (out : List A0), firstV ρ ps = some out → (∀ p ∈ ps, RepV P F own rho w (a.eval p) (ρ p)) →
    out.length = ps.length ∧ ∀ (j : Nat) c, out[j]? = some c → ∃ y : Value, (ps.map a.eval)[j]? = some y ∧ RepA F w y c
  | [], out, h, _ => by simp only [firstV, Option.some.injEq] at h; simp [← h]
  | x :: r, out, h, hv => by
    simp only [firstV] at h
    have h0 := hv x List.mem_cons_self
    split at h
    · rename_i z ys hx hr
      simp only [Option.some.injEq] at h
      subst h
      simp only [hx] at h0
      obtain ⟨h1, h2⟩ := firstV_eval r ys hr fun p hp => hv p (List.mem_cons_of_mem _ hp)
      refine ⟨by simp [h1], fun j c hj => ?_⟩
      cases j with
      | zero => simp only [List.getElem?_cons_zero, Option.some.injEq] at hj; subst hj; exact ⟨_, rfl, h0⟩
      | succ j => exact h2 j c (by simpa using hj)
    · rename_i k vs ys hx hr
      simp only [Option.some.injEq] at h
      subst h
      simp only [hx] at h0
      obtain ⟨h1, h2⟩ := firstV_eval r ys hr fun p hp => hv p (List.mem_cons_of_mem _ hp)
      refine ⟨by simp [h1], fun j c hj => ?_⟩
      cases j with
      | zero => simp only [List.getElem?_cons_zero, Option.some.injEq] at hj; subst hj; exact ⟨_, rfl, h0⟩
      | succ j => exact h2 j c (by simpa using hj)
    · cases h

theorem lenA_sound {x : Value} {av : AV} {n : Nat} {t : TypeId} (h : RepV P F own rho w x av) (hl : lenA av = some n) (ht : lenT P t av = true) :
    (∃ b c, x = .slice b n c ∧ (selt P t).isSome = true) ∨ ∃ s, x = .string s ∧ s.size = n ∧ isStr P t = true := by
  cases av <;> simp only [lenA, Option.some.injEq, reduceCtorEq] at hl
  case sl k vs => obtain ⟨b, cap, rfl, _⟩ := h; subst hl; exact .inl ⟨_, _, rfl, ht⟩
  case vw d k vs => obtain ⟨b, cap, rfl, _⟩ := h; subst hl; exact .inl ⟨_, _, rfl, ht⟩
  case own d e vs =>
    subst hl
    obtain ⟨_, h⟩ := h
    rcases h with ⟨rfl, rfl⟩ | ⟨g, _, _, _, hr⟩
    · exact .inl ⟨none, 0, rfl, ht⟩
    · rcases hr with ⟨rfl, h0⟩ | ⟨g', cap, cur, rfl, _⟩
      · rw [h0]; exact .inl ⟨none, 0, rfl, ht⟩
      · exact .inl ⟨_, _, rfl, ht⟩
  case v y =>
    obtain rfl : x = y := h
    split at hl
    · rename_i heq; cases heq
    · rename_i heq; cases heq
    · rename_i heq; cases heq
    · rename_i heq
      simp only [AV.v.injEq] at heq
      simp only [Option.some.injEq] at hl
      subst hl; subst heq; exact .inl ⟨none, 0, rfl, ht⟩
    · rename_i s heq
      simp only [AV.v.injEq] at heq
      simp only [Option.some.injEq] at hl
      subst heq
      exact .inr ⟨s, rfl, by rw [← hl, Array.length_toList]; rfl, ht⟩
    · cases hl
end

theorem flat_append (a b : List Value) : flat (a ++ b) = flat a ++ flat b := by simp [flat]

theorem OwnR.sl0 {P : Program} {F : Nat → Prop} {own : Nat → Option Nat} {w : World} {d e : Nat} {x : Value} {vs : List Value} (h : OwnR P own w d e x vs) (hF : ∀ b, own d = some b → ¬ F b) :
    Sl F w x (P.cellsOf e) vs := by
  obtain ⟨hel, hr⟩ := h
  rcases hr with ⟨rfl, rfl⟩ | ⟨gb, hg, hob, hrow⟩
  · exact ⟨none, 0, rfl, Nat.le_refl _, Nat.zero_le _, fun y hy => by simp at hy, .inl rfl⟩
  · rcases hrow.2 with ⟨rfl, h0⟩ | ⟨g', cap, cur, rfl, _, hh, h1, h2, h3, h4⟩
    · have : vs = [] := List.length_eq_zero_iff.1 h0
      subst this
      exact ⟨none, 0, rfl, Nat.le_refl _, Nat.zero_le _, fun y hy => by simp at hy, .inl rfl⟩
    · have hgg : g' = gb := by simpa [Value.ownBlock] using hob
      subst hgg
      refine ⟨_, _, rfl, h1, h2, hel, .inr ⟨g', 0, rfl, hF g' hg, (Array.getElem?_eq_some_iff.1 hh).1, fun j c hj => ?_⟩⟩
      have := ownsRow_cell hrow hob j c hj
      rwa [Nat.zero_add]

theorem Sl.slice {F : Nat → Prop} {w : World} {x : Value} {k : Nat} {vs : List Value} (h : Sl F w x k vs) (l u : Nat) (hl : l ≤ u) (hu : u ≤ vs.length) :
    ∃ a cap, x = .slice a vs.length cap ∧ vs.length ≤ cap ∧ cap ≤ maxLen ∧
      Sl F w (.slice (if cap = l then a else a.map (·.add (l * k))) (u - l) (cap - l)) k ((vs.take u).drop l) := by
  obtain ⟨a, cap, rfl, h1, h2, h3, h4⟩ := h
  refine ⟨a, cap, rfl, h1, h2, ?_⟩
  have hlen : ((vs.take u).drop l).length = u - l := by simp; omega
  refine ⟨_, _, by rw [hlen], by omega, by omega, fun y hy => h3 y (List.mem_of_mem_take (List.mem_of_mem_drop hy)), ?_⟩
  by_cases he : (vs.take u).drop l = []
  · exact .inl he
  · rcases h4 with rfl | ⟨b, off, rfl, hb, hlt, hc⟩
    · simp at he
    · have hne : ¬ cap = l := by
        intro e
        apply he
        rw [← List.length_eq_zero_iff, hlen]
        omega
      refine .inr ⟨b, off + l * k, by rw [if_neg hne]; simp [Addr.add_mk], hb, hlt, fun j c hj => ?_⟩
      rw [Nat.add_assoc]
      refine hc _ c ?_
      have hsplit : vs = vs.take l ++ ((vs.take u).drop l ++ vs.drop u) := by
        have h5 : vs.take l ++ (vs.take u).drop l = vs.take u := by
          have := List.take_append_drop l (vs.take u)
          rwa [List.take_take, Nat.min_eq_left hl] at this
        rw [← List.append_assoc, h5, List.take_append_drop]
      have hfl : flat vs = flat (vs.take l) ++ (flat ((vs.take u).drop l) ++ flat (vs.drop u)) := by
        rw [← flat_append, ← flat_append, ← hsplit]
      have hll : (flat (vs.take l)).length = l * k := by
        rw [flat_length _ fun y hy => h3 y (List.mem_of_mem_take hy), List.length_take, Nat.min_eq_left (by omega)]
      rw [hfl, List.getElem?_append_right (by omega), hll, Nat.add_sub_cancel_left, List.getElem?_append_left (List.getElem?_eq_some_iff.1 hj).1]
      exact hj

theorem optI_sound {P : Program} {F : Nat → Prop} {own : Nat → Option Nat} {rho : Option Nat} {w : World} {a : Act} {ρ : Operand → AV} {x : Option Operand} {n : Option Int}
    (h : optI (x.map ρ) = some n) (hv : ∀ y ∈ x, RepV P F own rho w (a.eval y) (ρ y)) : (n = none ∧ x.map a.eval = none) ∨ ∃ k m, n = some m ∧ x.map a.eval = some (.int k m) := by
  cases x with
  | none => simp only [Option.map_none, optI, Option.some.injEq] at h; exact .inl ⟨h.symm, rfl⟩
  | some y =>
    have hy := hv y rfl
    simp only [Option.map_some] at h ⊢
    unfold optI at h
    split at h
    · rename_i heq; cases heq
    · rename_i k m heq
      simp only [Option.some.injEq] at heq h
      rw [heq] at hy
      simp only [RepV] at hy
      exact .inr ⟨k, m, h.symm, by rw [hy]⟩
    · cases h

theorem run_sliceBounds_ok {P : Program} (w : World) (b : Bool) (len cap : Nat) (lo hi : Option Value) (l u : Option Int)
    (hl : (l = none ∧ lo = none) ∨ ∃ k m, l = some m ∧ lo = some (.int k m)) (hu : (u = none ∧ hi = none) ∨ ∃ k m, u = some m ∧ hi = some (.int k m))
    (h0 : 0 ≤ l.getD 0) (h1 : l.getD 0 ≤ u.getD len) (h2 : u.getD len ≤ len) (hc : len ≤ cap) :
    (Instr.sliceBounds b len cap lo hi none).run P w = .ok ((l.getD 0).toNat, (u.getD len).toNat, cap) w := by
  have hb : ∀ (k : IntKind) (i : Int) (y : Nat) (c : BoundsCode), 0 ≤ i → i ≤ y → (Instr.sliceBound (.int k i) y c).run P w = .ok i.toNat w := fun k i y c h0 h1 => run_sliceBound w k i y c h0 h1
  rcases hl with ⟨rfl, rfl⟩ | ⟨kl, ml, rfl, rfl⟩ <;> rcases hu with ⟨rfl, rfl⟩ | ⟨ku, mu, rfl, rfl⟩ <;> simp only [Option.getD_none, Option.getD_some] at h0 h1 h2 ⊢
  · simp [Instr.sliceBounds]
  · simp only [Instr.sliceBounds, Sem.run_bind, Sem.run_pure, Result.andThen_ok, hb ku mu cap _ (by omega) (by omega)]; rfl
  · simp only [Instr.sliceBounds, Sem.run_bind, Sem.run_pure, Result.andThen_ok, hb kl ml len _ (by omega) (by omega), Int.toNat_natCast, Option.isSome_none, Bool.false_eq_true, if_false]
  · simp only [Instr.sliceBounds, Sem.run_bind, Sem.run_pure, Result.andThen_ok, hb ku mu cap _ (by omega) (by omega), Option.isSome_none, Bool.false_eq_true, if_false, hb kl ml mu.toNat _ (by omega) (by omega)]

theorem sslice_sound {P : Program} {F : Nat → Prop} {own : Nat → Option Nat} {rho : Option Nat} {w : World} {a : Act} {ρ : Operand → AV} {t : TypeId} {x : Value} {av r : AV} {lo hi : Option Operand} {sc : Prop}
    (hx : RepV P F own rho w x av) (hlo : ∀ y ∈ lo, RepV P F own rho w (a.eval y) (ρ y)) (hhi : ∀ y ∈ hi, RepV P F own rho w (a.eval y) (ρ y))
    (h : sslice P t av (lo.map ρ) (hi.map ρ) = some (sc, r)) (hsc : sc) :
    ∃ v, (Instr.sliceAt t x (lo.map a.eval) (hi.map a.eval) none).run P w = .ok v w ∧ RepV P F own rho w v r := by
  unfold sslice at h
  split at h
  · rename_i l u hl hu
    have hl' := optI_sound hl hlo
    have hu' := optI_sound hu hhi
    split at h
    · rename_i s
      split at h
      · rename_i hs
        simp only [Option.some.injEq, Prod.mk.injEq] at h
        obtain ⟨rfl, rfl⟩ := h
        simp only [RepV] at hx
        subst hx
        have hu2 : P.underlying t = some .string := by
          unfold isStr at hs
          split at hs
          · assumption
          · cases hs
        have hsz : s.size = s.data.toList.length := by rw [Array.length_toList]; rfl
        have hb := run_sliceBounds_ok (P := P) w false s.size s.size (lo.map a.eval) (hi.map a.eval) l u hl' hu' hsc.1 (by rw [hsz]; exact hsc.2.1) (by rw [hsz]; exact hsc.2.2) (Nat.le_refl _)
        refine ⟨_, ?_, rfl⟩
        simp only [Instr.sliceAt, Sem.run_bind, run_underlying_some hu2, Result.andThen_ok, Instr.slice, Option.isSome_none, Bool.false_eq_true, if_false, Sem.run_pure, hb]
        congr 2
        unfold subS
        apply ByteArray.ext
        apply Array.ext'
        simp only [ByteArray.data_extract, Array.toList_extract, List.extract_eq_take_drop]
        rw [hsz, List.drop_take]
      · cases h
    · rename_i k vs
      split at h
      · rename_i hs
        simp only [Option.some.injEq, Prod.mk.injEq] at h
        obtain ⟨rfl, rfl⟩ := h
        obtain ⟨h1, h2, h3⟩ := hsc
        obtain ⟨b, cap, rfl, hc1, hc2, hr⟩ := Sl.slice hx (l.getD 0).toNat (u.getD vs.length).toNat (by omega) (by omega)
        have hb := run_sliceBounds_ok (P := P) w true vs.length cap (lo.map a.eval) (hi.map a.eval) l u hl' hu' h1 h2 h3 hc1
        unfold selt at hs
        split at hs
        · rename_i e hu2
          split at hs
          · cases hs
          · rename_i hne
            simp only [Option.some.injEq] at hs
            refine ⟨_, ?_, hr⟩
            simp only [Instr.sliceAt, Sem.run_bind, run_underlying_some hu2, Result.andThen_ok, Instr.slice, hb, run_sizeOf hne, Sem.run_pure, hs]
        · cases hs
      · cases h
    · rename_i d e vs
      split at h
      · rename_i hs
        simp only [Option.some.injEq, Prod.mk.injEq] at h
        obtain ⟨rfl, rfl⟩ := h
        obtain ⟨h1, h2, h3⟩ := hsc
        have hxs : Sl (fun b => F b ∧ own d ≠ some b) w x (P.cellsOf e) vs := OwnR.sl0 hx (fun b hb hf => hf.2 hb)
        obtain ⟨b, cap, hxe, hc1, hc2, hr⟩ := Sl.slice hxs (l.getD 0).toNat (u.getD vs.length).toNat (by omega) (by omega)
        have hb := run_sliceBounds_ok (P := P) w true vs.length cap (lo.map a.eval) (hi.map a.eval) l u hl' hu' h1 h2 h3 hc1
        unfold selt at hs
        split at hs
        · rename_i e' hu2
          split at hs
          · cases hs
          · rename_i hne
            simp only [Option.some.injEq] at hs
            have hrun : (Instr.sliceAt t x (lo.map a.eval) (hi.map a.eval) none).run P w = .ok (.slice (if cap = (l.getD 0).toNat then b else b.map (·.add ((l.getD 0).toNat * P.cellsOf e))) ((u.getD vs.length).toNat - (l.getD 0).toNat) (cap - (l.getD 0).toNat)) w := by
              rw [hxe]
              simp only [Instr.sliceAt, Sem.run_bind, run_underlying_some hu2, Result.andThen_ok, Instr.slice, hb, run_sizeOf hne, Sem.run_pure, hs]
            refine ⟨_, hrun, ?_⟩
            cases l with
            | some l => exact hr
            | none =>
              simp only [Option.getD_none, Int.toNat_zero, Nat.zero_mul, Nat.sub_zero] at hr ⊢
              have hsame : (if cap = 0 then b else b.map (·.add 0)) = b := by
                split
                · rfl
                · cases b <;> simp [Addr.add]
              rw [hsame]
              obtain ⟨hel, hrow⟩ := hx
              refine ⟨fun y hy => hel y (List.mem_of_mem_take hy), ?_⟩
              rcases hrow with ⟨rfl, rfl⟩ | ⟨gb, g1, g2, g3⟩
              · left
                simp only [Value.slice.injEq, List.length_nil] at hxe
                obtain ⟨rfl, _, rfl⟩ := hxe
                refine ⟨?_, by simp⟩
                simp only [List.length_nil] at h3
                have : (u.getD ((0 : Nat) : Int)).toNat = 0 := by omega
                rw [show ((([] : List Value).length : Nat) : Int) = ((0 : Nat) : Int) from rfl, this]
              · right
                obtain ⟨q1, q2⟩ := g3
                rcases q2 with ⟨rfl, q3⟩ | ⟨g', cap', cur, rfl, q3, q4, q5, q6, q7, q8⟩
                · simp [Value.ownBlock] at g2
                · simp only [Value.slice.injEq] at hxe
                  obtain ⟨rfl, _, rfl⟩ := hxe
                  have hg : g' = gb := by simpa [Value.ownBlock] using g2
                  subst hg
                  have htl : (vs.take (u.getD vs.length).toNat).length = (u.getD vs.length).toNat := by rw [List.length_take]; omega
                  have hft : (flat (vs.take (u.getD vs.length).toNat)).length = (u.getD vs.length).toNat * P.cellsOf e := by rw [flat_length _ fun y hy => hel y (List.mem_of_mem_take hy), htl]
                  refine ⟨g', g1, rfl, ?_⟩
                  rw [htl]
                  refine ⟨hft, .inr ⟨g', cap', cur, rfl, q3, q4, by omega, q6, q7, ?_⟩⟩
                  have e1 : flat vs = flat (vs.take (u.getD vs.length).toNat) ++ flat (vs.drop (u.getD vs.length).toNat) := by rw [← flat_append, List.take_append_drop]
                  have e2 : (flat vs).take ((u.getD vs.length).toNat * P.cellsOf e) = flat (vs.take (u.getD vs.length).toNat) := by
                    rw [e1, ← hft, List.take_left]
                  rw [← e2, ← q8, List.take_take, Nat.min_eq_left (Nat.mul_le_mul_right _ (by omega))]
        · cases hs
      · cases h
    · cases h
  · cases h

theorem run_v {P : Program} {w : World} {s : Sem Value} {v : Value} (h : s.run P w = .ok v w) : (do pure (Next.value (← s)) : Sem Next).run P w = .ok (.value v) w := by
  simp [h]

theorem elt_of {vs : List Value} {i : Nat} (h : i < vs.length) : vs[i]? = some (elt vs i) := by simp [elt, h]

set_option maxHeartbeats 2000000 in
theorem sop_sound {P : Program} {F : Nat → Prop} {own : Nat → Option Nat} {rho : Option Nat} {w : World} {a : Act} {ρ : Operand → AV} {o : Oper} {sc : Prop} {r : AV}
    (h : ∀ y ∈ o.op.operands.toList, RepV P F own rho w (a.eval y) (ρ y)) (hs : sop P ρ o.op = some (sc, r)) (hsc : sc) :
    ∃ v, (execOp a.eval o).run P w = .ok (.value v) w ∧ RepV P F own rho w v r := by
  obtain ⟨dst, op, type, pos, after, guard⟩ := o
  simp only at h hs
  unfold sop at hs
  split at hs
  · -- move
    rename_i x
    simp only [Option.some.injEq, Prod.mk.injEq] at hs
    obtain ⟨-, rfl⟩ := hs
    exact ⟨a.eval x, rfl, h x (by simp [Op.operands])⟩
  · rename_i x
    simp only [Option.some.injEq, Prod.mk.injEq] at hs
    obtain ⟨-, rfl⟩ := hs
    exact ⟨a.eval x, rfl, h x (by simp [Op.operands])⟩
  · -- binOp
    rename_i op t x y _
    have hx := h x (by simp [Op.operands])
    have hy := h y (by simp [Op.operands])
    split at hs
    · rename_i u z h1 h2
      rw [h1] at hx
      rw [h2] at hy
      simp only [RepV] at hx hy
      split at hs
      · rename_i sc' r' hab
        simp only [Option.some.injEq, Prod.mk.injEq] at hs
        obtain ⟨rfl, rfl⟩ := hs
        refine ⟨r', ?_, rfl⟩
        simp only [execOp, hx, hy]
        exact run_v (abin_sound hab hsc x y w)
      · cases hs
    · cases hs
  · -- not
    rename_i t x
    have hx := h x (by simp [Op.operands])
    split at hs
    · rename_i b h1
      rw [h1] at hx
      simp only [RepV] at hx
      simp only [Option.some.injEq, Prod.mk.injEq] at hs
      obtain ⟨-, rfl⟩ := hs
      refine ⟨_, ?_, rfl⟩
      simp only [execOp, hx]
      exact run_v rfl
    · cases hs
  · -- neg
    rename_i t x
    have hx := h x (by simp [Op.operands])
    split at hs
    · rename_i k n h1
      rw [h1] at hx
      simp only [RepV] at hx
      simp only [Option.some.injEq, Prod.mk.injEq] at hs
      obtain ⟨rfl, rfl⟩ := hs
      refine ⟨_, ?_, rfl⟩
      simp only [execOp, hx]
      exact run_v (by simp only [Op.unary, Op.intArith, wrap_inR hsc]; rfl)
    · cases hs
  · -- convert
    rename_i src dst' x
    have hx := h x (by simp [Op.operands])
    split at hs
    · rename_i k n k' h1 h2
      rw [h1] at hx
      simp only [RepV] at hx
      split at hs
      · rename_i hsome
        simp only [Option.some.injEq, Prod.mk.injEq] at hs
        obtain ⟨rfl, rfl⟩ := hs
        refine ⟨.int k' n, run_v (s := convert src dst' (a.eval x)) ?_, rfl⟩
        rw [hx]
        unfold ikind at h2
        split at h2
        · rename_i kk hu
          simp only [Option.some.injEq] at h2
          subst h2
          obtain ⟨ds, hds⟩ := Option.isSome_iff_exists.1 hsome
          simp only [convert, Sem.run_bind, run_underlying_some hds, run_underlying_some hu, Result.andThen_ok, Conv.intToInt, wrap_inR hsc, Sem.run_pure]
        · cases h2
      · cases hs
    · cases hs
  · -- load
    rename_i t x
    obtain ⟨v, h1, h2⟩ := sload_sound (h x (by simp [Op.operands])) hs
    exact ⟨v, run_v h1, h2⟩
  · -- fieldAddr
    rename_i s x f
    have hx := h x (by simp [Op.operands])
    split at hs
    · rename_i o cells off hf h1
      rw [h1] at hx
      simp only [Option.some.injEq, Prod.mk.injEq] at hs
      obtain ⟨-, rfl⟩ := hs
      obtain ⟨b, p, he, hb, hlt, hc⟩ := hx
      refine ⟨_, run_v (s := Instr.fieldAt s (a.eval x) f) (by rw [he]; exact run_fieldAt hf w _), ?_⟩
      exact ⟨b, p, by rw [Addr.add_mk, Nat.add_assoc], hb, hlt, hc⟩
    · rename_i o d cells off hf h1
      rw [h1] at hx
      simp only [Option.some.injEq, Prod.mk.injEq] at hs
      obtain ⟨-, rfl⟩ := hs
      obtain ⟨g, arr, ty, h2, he, hr⟩ := hx
      refine ⟨_, run_v (s := Instr.fieldAt s (a.eval x) f) (by rw [he]; exact run_fieldAt hf w _), ?_⟩
      exact ⟨g, arr, ty, h2, by rw [Addr.add_mk], hr⟩
    · rename_i o d e vs i off hf h1
      rw [h1] at hx
      simp only [Option.some.injEq, Prod.mk.injEq] at hs
      obtain ⟨-, rfl⟩ := hs
      obtain ⟨g, x', h2, h3, h4, h5, he⟩ := hx
      refine ⟨_, run_v (s := Instr.fieldAt s (a.eval x) f) (by rw [he]; exact run_fieldAt hf w _), ?_⟩
      exact ⟨g, x', h2, h3, h4, h5, by rw [Addr.add_mk, Nat.add_assoc]⟩
    · cases hs
  · -- field
    rename_i s x f
    have hx := h x (by simp [Op.operands])
    have key : ∀ (o k : Nat), ffld P s f = some (o, k) → ∃ fs fd, P.underlying s = some (.struct fs) ∧ fs[f]? = some fd ∧ fd.offset = o ∧ tk P fd.type = k := by
      intro o k hf
      unfold ffld at hf
      split at hf
      · rename_i fs hu
        split at hf
        · rename_i fd hfd
          simp only [Option.some.injEq, Prod.mk.injEq] at hf
          exact ⟨fs, fd, hu, hfd, hf.1, hf.2⟩
        · cases hf
      · cases hf
    split at hs
    · rename_i o cs hf h1
      rw [h1] at hx
      simp only [RepV] at hx
      split at hs
      · rename_i y hy
        simp only [Option.some.injEq, Prod.mk.injEq] at hs
        obtain ⟨-, rfl⟩ := hs
        obtain ⟨fs, fd, hu, hfd, rfl, hk⟩ := key _ _ hf
        refine ⟨y, run_v (s := Instr.field s (a.eval x) f) ?_, rfl⟩
        rw [hx]
        simp only [Instr.field, Sem.run_bind, run_underlying_some hu, Result.andThen_ok, hfd, asAgg, Sem.run_pure, part, tk_scalar hk, Bool.false_eq_true, if_false, hy]
      · cases hs
    · rename_i o n cs hf h1
      rw [h1] at hx
      simp only [RepV] at hx
      simp only [Option.some.injEq, Prod.mk.injEq] at hs
      obtain ⟨-, rfl⟩ := hs
      obtain ⟨fs, fd, hu, hfd, rfl, hk⟩ := key _ _ hf
      refine ⟨_, run_v (s := Instr.field s (a.eval x) f) ?_, rfl⟩
      rw [hx]
      simp only [Instr.field, Sem.run_bind, run_underlying_some hu, Result.andThen_ok, hfd, asAgg, Sem.run_pure, part, tk_agg hk, if_true]
    · cases hs
  · -- indexAddr
    rename_i t x i
    have hx := h x (by simp [Op.operands])
    have hi := h i (by simp [Op.operands])
    have key : ∀ k, selt P t = some k → ∃ e, P.underlying t = some (.slice e) ∧ P.cellsOf e = k ∧ P.underlying e ≠ none := by
      intro k hk
      unfold selt at hk
      split at hk
      · rename_i e hu
        split at hk
        · cases hk
        · rename_i hne
          simp only [Option.some.injEq] at hk
          exact ⟨e, hu, hk, hne⟩
      · cases hk
    split at hs
    · rename_i k vs ik n h1 h2
      rw [h1] at hx
      rw [h2] at hi
      simp only [RepV] at hi
      split at hs
      · rename_i hk
        simp only [Option.some.injEq, Prod.mk.injEq] at hs
        obtain ⟨rfl, rfl⟩ := hs
        obtain ⟨e, hu, rfl, hne⟩ := key _ hk
        obtain ⟨b, cap, he, hc1, hc2, hel, hr⟩ := hx
        rcases hr with rfl | ⟨bb, off, rfl, hb, hlt, hc⟩
        · simp at hsc; omega
        · have hin : n.toNat < vs.length := by omega
          refine ⟨.pointer (some ((⟨bb, off, none⟩ : Addr).add (n.toNat * P.cellsOf e))), run_v (s := Instr.indexAt t (a.eval x) (a.eval i)) ?_, ?_⟩
          · rw [he, hi]
            simp only [Instr.indexAt, asIntOf, Sem.run_bind, Sem.run_pure, Result.andThen_ok, run_underlying_some hu, hsc.1, hsc.2, and_self, if_true, run_sizeOf hne]
          · refine ⟨bb, off + n.toNat * P.cellsOf e, by rw [Addr.add_mk]; rfl, hb, hlt, fun j c hj => ?_⟩
            simp only [List.getElem?_map, Option.map_eq_some_iff] at hj
            obtain ⟨y, hy, rfl⟩ := hj
            refine ⟨y, ?_, rfl⟩
            rw [Nat.add_assoc]
            exact hc _ y (flat_get vs hel _ _ (elt_of hin) j y (by simpa using hy))
      · cases hs
    · rename_i d e vs ik n h1 h2
      rw [h1] at hx
      rw [h2] at hi
      simp only [RepV] at hi
      split at hs
      · rename_i hk
        simp only [Option.some.injEq, Prod.mk.injEq] at hs
        obtain ⟨rfl, rfl⟩ := hs
        obtain ⟨e', hu, he', hne⟩ := key _ hk
        have hin : n.toNat < vs.length := by omega
        have hx0 := hx
        obtain ⟨hel, hr⟩ := hx
        rcases hr with ⟨_, rfl⟩ | ⟨g, hg, hob, hrow⟩
        · simp at hin
        · rcases hrow.2 with ⟨_, h0⟩ | ⟨g', cap, cur, he, _⟩
          · rw [h0] at hin; simp at hin
          · have hgg : g' = g := by rw [he] at hob; simpa [Value.ownBlock] using hob
            subst hgg
            refine ⟨.pointer (some ((⟨g', 0, none⟩ : Addr).add (n.toNat * P.cellsOf e'))), run_v (s := Instr.indexAt t (a.eval x) (a.eval i)) ?_, ?_⟩
            · rw [he, hi]
              simp only [Instr.indexAt, asIntOf, Sem.run_bind, Sem.run_pure, Result.andThen_ok, run_underlying_some hu, hsc.1, hsc.2, and_self, if_true, run_sizeOf hne]
            · exact ⟨g', a.eval x, hg, hob, hx0, hin, by rw [Addr.add_mk, he']; simp⟩
      · cases hs
    · cases hs
  · -- index
    rename_i t x i
    have hx := h x (by simp [Op.operands])
    have hi := h i (by simp [Op.operands])
    split at hs
    · rename_i s k n h1 h2
      rw [h1] at hx
      rw [h2] at hi
      simp only [RepV] at hx hi
      split at hs
      · rename_i hst
        simp only [Option.some.injEq, Prod.mk.injEq] at hs
        obtain ⟨rfl, rfl⟩ := hs
        have hu2 : P.underlying t = some .string := by
          unfold isStr at hst
          split at hst
          · assumption
          · cases hst
        refine ⟨_, run_v (s := Instr.index t (a.eval x) (a.eval i)) ?_, rfl⟩
        rw [hx, hi]
        have hlt : n.toNat < s.size := by have : s.size = s.data.toList.length := by rw [Array.length_toList]; rfl
                                          omega
        have hget : (s[n.toNat]? : Option UInt8) = some (s.data.toList[n.toNat]?.getD 0) := by
          have hl2 : n.toNat < s.data.toList.length := by rw [Array.length_toList]; exact hlt
          rw [List.getElem?_eq_getElem hl2, Option.getD_some]
          rw [getElem?_pos s n.toNat hlt]
          rfl
        simp only [Instr.index, asIntOf, Sem.run_bind, Sem.run_pure, Result.andThen_ok, run_underlying_some hu2, hsc.1, if_true, hget]
      · cases hs
    · cases hs
  · -- slice
    rename_i t x lo hi
    have hmem : ∀ (o : Option Operand) y, y ∈ o → y ∈ o.toArray.toList := fun o y hy => by cases o <;> simp_all
    obtain ⟨v, h1, h2⟩ := sslice_sound (a := a) (h x (by simp [Op.operands])) (fun y hy => h y (by simp [Op.operands] at hy ⊢; simp [hy])) (fun y hy => h y (by simp [Op.operands] at hy ⊢; simp [hy])) hs hsc
    exact ⟨v, run_v h1, h2⟩
  · -- build
    rename_i t parts
    split at hs
    · rename_i zs places ps hb hp
      split at hs
      · rename_i out hf
        simp only [Option.some.injEq, Prod.mk.injEq] at hs
        obtain ⟨-, rfl⟩ := hs
        have := partsV_eval (P := P) (F := F) (own := own) (rho := rho) (w := w) (a := a) parts.toList ps hp fun p hp => h p.2 (by simp [Op.operands]; exact ⟨p.1, by simpa using hp⟩)
        have hb2 := run_build (parts := parts.map fun (i, x) => (i, a.eval x)) hb (by rw [Array.toList_map, this]; exact hf) w
        exact ⟨.agg out.toArray, run_v hb2, rfl⟩
      · cases hs
    · cases hs
  · -- extract
    rename_i x i
    have hx := h x (by simp [Op.operands])
    split at hs
    · rename_i xs h1
      rw [h1] at hx
      split at hs
      · rename_i c hc
        simp only [Option.some.injEq, Prod.mk.injEq] at hs
        obtain ⟨-, rfl⟩ := hs
        obtain ⟨ys, he, hsz, hr⟩ := hx
        obtain ⟨y, hy, hrep⟩ := hr i c hc
        refine ⟨y, run_v (s := Instr.extract (a.eval x) i) ?_, ?_⟩
        · rw [he]; simp [Instr.extract, hy]
        · cases c <;> exact hrep
      · cases hs
    · rename_i d e vs rest h1
      rw [h1] at hx
      obtain ⟨y, he, hr⟩ := hx
      split at hs
      · rename_i h0
        subst h0
        simp only [Option.some.injEq, Prod.mk.injEq] at hs
        obtain ⟨-, rfl⟩ := hs
        refine ⟨y, run_v (s := Instr.extract (a.eval x) 0) ?_, hr⟩
        rw [he]; simp [Instr.extract]
      · rename_i h0
        split at hs
        · rename_i c hc
          simp only [Option.some.injEq, Prod.mk.injEq] at hs
          obtain ⟨-, rfl⟩ := hs
          refine ⟨c, run_v (s := Instr.extract (a.eval x) i) ?_, rfl⟩
          obtain ⟨j, rfl⟩ : ∃ j, i = j + 1 := ⟨i - 1, by omega⟩
          simp only [Nat.add_sub_cancel] at hc
          rw [he]; simp [Instr.extract, hc]
        · cases hs
    · cases hs
  · -- makeFunc
    rename_i f first caps
    split at hs
    · rename_i fs cs h1 h2
      simp only [Option.some.injEq, Prod.mk.injEq] at hs
      obtain ⟨-, rfl⟩ := hs
      obtain ⟨e1, r1⟩ := firstV_eval (P := P) (F := F) (own := own) (rho := rho) (w := w) (a := a) first.toList fs h1 fun p hp => h p (by simp [Op.operands] at hp ⊢; exact .inl hp)
      obtain ⟨e2, r2⟩ := capsV_eval (P := P) (F := F) (own := own) (rho := rho) (w := w) (a := a) caps.toList cs h2 fun p hp => h p (by simp [Op.operands] at hp ⊢; exact .inr hp)
      refine ⟨_, run_v (s := Instr.makeFunc (.func f) (first.map a.eval) (caps.map a.eval)) rfl, first.map a.eval, caps.map a.eval, rfl, by simp [e1], by simp [e2], fun j c hj => ?_, fun j c hj => ?_⟩
      · simpa using r1 j c hj
      · simpa using r2 j c hj
    · cases hs
  · -- len
    rename_i c
    split at hs
    · rename_i hcal
      unfold slen at hs
      split at hs
      · rename_i x t hargs htypes
        have hx := h x (by simp only [Op.operands, Call.operands, hcal]; simp [hargs])
        split at hs
        · rename_i n hn
          split at hs
          · rename_i ht
            simp only [Option.some.injEq, Prod.mk.injEq] at hs
            obtain ⟨-, rfl⟩ := hs
            have ha : c.args.map a.eval = #[a.eval x] := by apply Array.ext'; simp [hargs]
            have hb : c.argTypes[0]? = some t := by rw [← Array.getElem?_toList, htypes]; rfl
            have hexec : ∀ v, (Builtin.len_ c.argTypes type (c.args.map a.eval)).run P w = .ok v w → (execOp a.eval ⟨dst, .call c, type, pos, after, guard⟩).run P w = .ok (.value v) w := by
              intro v hv
              simp only [execOp, resolve, hcal, Sem.run_bind, Sem.run_pure, Result.andThen_ok, invoke, builtin, hv]
            refine ⟨.int .i64 n, hexec _ ?_, rfl⟩
            rw [ha]
            rcases lenA_sound hx hn ht with ⟨b, cp, he, hsl⟩ | ⟨s, he, hsz, hst⟩
            · rw [he]
              unfold selt at hsl
              split at hsl
              · rename_i e hu
                simp only [Builtin.len_, hb, List.getElem?_toArray, List.getElem?_cons_zero, Sem.run_bind, run_underlying_some hu, Result.andThen_ok, Sem.run_pure, goInt]
              · simp at hsl
            · rw [he]
              have hu2 : P.underlying t = some .string := by
                unfold isStr at hst
                split at hst
                · assumption
                · cases hst
              simp only [Builtin.len_, hb, List.getElem?_toArray, List.getElem?_cons_zero, Sem.run_bind, run_underlying_some hu2, Result.andThen_ok, Sem.run_pure, goInt, hsz]
          · cases hs
        · cases hs
      · cases hs
    · cases hs
  · -- nilCheck
    rename_i x
    have hx := h x (by simp [Op.operands])
    have fin : ∀ ad : Addr, a.eval x = .pointer (some ad) → (execOp a.eval ⟨dst, .nilCheck x, type, pos, after, guard⟩).run P w = .ok (.value (a.eval x)) w := fun ad e => by
      simp only [execOp, e]
      rfl
    cases hav : ρ x with
    | ptr cells off =>
      rw [hav] at hs hx
      simp only [Option.some.injEq, Prod.mk.injEq] at hs
      obtain ⟨-, rfl⟩ := hs
      obtain ⟨b, o, e, _⟩ := id hx
      exact ⟨a.eval x, fin _ e, hx⟩
    | bx d cells off =>
      rw [hav] at hs hx
      simp only [Option.some.injEq, Prod.mk.injEq] at hs
      obtain ⟨-, rfl⟩ := hs
      obtain ⟨g, arr, ty, _, e, _⟩ := id hx
      exact ⟨a.eval x, fin _ e, hx⟩
    | ep d e' vs i off =>
      rw [hav] at hs hx
      simp only [Option.some.injEq, Prod.mk.injEq] at hs
      obtain ⟨-, rfl⟩ := hs
      obtain ⟨g, x', _, _, _, _, e⟩ := id hx
      exact ⟨a.eval x, fin _ e, hx⟩
    | rd =>
      rw [hav] at hs hx
      simp only [Option.some.injEq, Prod.mk.injEq] at hs
      obtain ⟨-, rfl⟩ := hs
      obtain ⟨β, _, e⟩ := id hx
      exact ⟨a.eval x, fin _ e, hx⟩
    | _ => rw [hav] at hs; cases hs
  · -- lookup
    rename_i t m x
    have hm := h m (by simp [Op.operands])
    have hx := h x (by simp [Op.operands])
    split at hs
    · rename_i d t' ks st e1 e2
      rw [e1] at hm
      rw [e2] at hx
      simp only [RepV] at hm hx
      obtain ⟨g, hg, hm1, hm2⟩ := hm
      simp only [Option.some.injEq, Prod.mk.injEq] at hs
      obtain ⟨rfl, rfl⟩ := hs
      obtain ⟨rfl, hl⟩ := hsc
      refine ⟨_, ?_, rfl⟩
      simp only [execOp, hm1, hx]
      exact run_v (hm2.look hl)
    · cases hs
  · cases hs

/-! ## calls -/

def ArgsR (P : Program) (F : Nat → Prop) (rho : Option Nat) (w : World) (vals : Array Value) (args : List AV) : Prop :=
  vals.size = args.length ∧ ∀ (j : Nat) av, args[j]? = some av → ∃ y : Value, vals[j]? = some y ∧ RepV P F (fun _ => none) rho w y av

/-- a result: a row of the callee's own is new -/
def ResR (P : Program) (F : Nat → Prop) (w w' : World) (rv : Value) : AV → Prop
  | .own _ e vs => (∀ y ∈ vs, EltOk (P.cellsOf e) y) ∧
      ((rv = .slice none 0 0 ∧ vs = []) ∨ ∃ g, w.heap.size ≤ g ∧ rv.ownBlock = some g ∧ w'.ownsRow g e (P.cellsOf e) rv vs.length (flat vs))
  | .v y => rv = y
  | .sl k vs => Sl F w' rv k vs
  | .tup xs => RepV P F (fun _ => none) none w' rv (.tup xs)
  | .tupo _ e vs rest => ∃ y : Value, rv = .tuple (y :: rest).toArray ∧ (∀ z ∈ vs, EltOk (P.cellsOf e) z) ∧
      ((y = .slice none 0 0 ∧ vs = []) ∨ ∃ g, w.heap.size ≤ g ∧ y.ownBlock = some g ∧ w'.ownsRow g e (P.cellsOf e) y vs.length (flat vs))
  | .rd => ∃ β s bs, w.heap.size ≤ β ∧ rv = .pointer (some ⟨β, 0, none⟩) ∧ RdOk (fun b => F b ∨ b = β) w' (some β) s bs 0
  | .bx _ cells off => ∃ g arr ty, w.heap.size ≤ g ∧ rv = .pointer (some ⟨g, off, none⟩) ∧ w'.heap[g]? = some (.cells arr ty (0, 0)) ∧
      arr.size = cells.length ∧ ∀ (i : Nat) c, cells[i]? = some c → ∃ y : Value, arr[i]? = some y ∧ RepA (fun b => F b ∨ b = g) w' y c
  | _ => False

/-- a function with a Go body -/
def goFn (P : Program) (f : FuncId) : Prop := ∃ fn, P.funcs[f]? = some fn ∧ (fn.name == "runtime.NumGoroutine") = false ∧ fn.body.isNone = false

/-- THE CONTRACT of a function on abstract values: `cost` bounds what it draws from the reader -/
def ACalls (P : Program) (f : FuncId) (args : List AV) (cost : Nat) (R : AV → Prop) : Prop :=
  goFn P f ∧ ∀ (w : World) (F : Nat → Prop) (rho : Option Nat) (s : Value) (bs : List UInt8) (m : Nat) (vals : Array Value), (∀ b, F b → b < w.heap.size) → (∀ b, rho = some b → F b) → RdOk F w rho s bs m →
    m + cost ≤ LIM → ArgsR P F rho w vals args →
    Calls P f vals w fun e w' => ∃ rv r, e = .returned rv ∧ R r ∧ ResR P F w w' rv r ∧ Step (fun b => rho = some b) w w' ∧ RdOk F w' rho s bs (m + cost)

theorem ACalls.mono {P : Program} {f : FuncId} {args : List AV} {cost : Nat} {R R' : AV → Prop} (h : ACalls P f args cost R) (hr : ∀ r, R r → R' r) : ACalls P f args cost R' :=
  ⟨h.1, fun w F rho s bs m vals h1 h2 h3 h4 h5 => (h.2 w F rho s bs m vals h1 h2 h3 h4 h5).mono fun _ _ ⟨rv, r, he, hR, h6⟩ => ⟨rv, r, he, hr r hR, h6⟩⟩

def AV.isOwn : AV → Bool
  | .own _ _ _ | .vw _ _ _ => true
  | _ => false
/-- how a value is handed to a callee -/
def AV.toArg (P : Program) : AV → AV
  | .own _ e vs => .sl (P.cellsOf e) vs
  | .vw _ k vs => .sl k vs
  | .bx _ _ _ | .ep _ _ _ _ _ | .cnd _ _ | .tupo _ _ _ _ | .free | .mp _ _ _ => .any
  | x => x
/-- a result that cannot lead to what was handed in -/
def AV.safe : AV → Bool
  | .own _ _ _ | .v _ | .tupo _ _ _ _ => true
  | .tup xs => xs.all fun | .v _ => true | _ => false
  | _ => false
/-- a result, where its ownership is given up -/
def AV.shr (P : Program) : AV → AV
  | .own _ e vs => .sl (P.cellsOf e) vs
  | .bx _ _ _ | .rd | .free => .any
  | .tupo _ e vs rest => .tup (.sl (P.cellsOf e) vs :: rest.map .v)
  | x => x

def callOf (P : Program) (val : Operand → AV) (c : Call) : Option (FuncId × List AV) := match c.callee with
  | .value f => match val f with
    | .clo f first caps => some (f, first.map A0.av ++ c.args.toList.map (fun x => (val x).toArg P) ++ caps.map (.ptr · 0))
    | _ => none
  | _ => none

def AState.addRd (σ : AState) (c : Nat) : AState := ⟨σ.s, σ.rd + c⟩

inductive GR where
  | bad
  | un
  | on (b : Bool)

def guardOf (ops : Array Oper) (get : Nat → AV) (o : Oper) : GR := match o.guard with
  | none => .un
  | some (j, want) => match (ops[j]?).bind (·.dst) with
    | some t => match get t with
      | .v (.bool b) => .on (b == want)
      | .cnd c (.v (.bool b)) => .on (c && (b == want))
      | _ => .bad
    | none => .bad

def mkg (gr : GR) (r : AV) : AV := match gr with
  | .on g => .cnd g r
  | _ => r

def vprop (gr : GR) (p : Prop) : Prop := match gr with
  | .on g => g = true → p
  | .un => p
  | .bad => False

def vaAll (va : Operand → Bool) : List Operand → Prop
  | [] => True
  | x :: r => va x = true ∧ vaAll va r

def spick (val : Operand → AV) (va : Operand → Bool) (c x y : Operand) : Option (Prop × AV) := match val c, val x, val y with
  | .v (.bool t), .v (.bool p), .v (.bool q) =>
    some (va c = true ∧ (t = true → va x = true) ∧ (t = false → va y = true), .v (.bool (bif t then p else q)))
  | _, _, _ => none

/-- a call -/
def acall (P : Program) (σ : AState) (gr : GR) (c : Call) (K : AV → Nat → Prop) : Prop := match callOf P σ.val c with
  | none => False
  | some (f, args) => ∃ (R : AV → Prop) (cost : Nat), vprop gr (vaAll σ.va c.operands.toList ∧ ACalls P f args cost R) ∧ (∃ r, R r) ∧ σ.rd + cost ≤ LIM ∧
      ∀ r, R r → (c.args.toList.any (fun x => (σ.val x).isOwn) = true → r.safe = true) ∧ K r cost

/-- what a simple operation asks, and what it makes -/
def sop' (P : Program) (val : Operand → AV) (va : Operand → Bool) (op : Op) : Option (Prop × AV) := match op with
  | .pick c x y => spick val va c x y
  | op => match sop P val op with
    | some (sc, r) => some (vaAll va op.operands.toList ∧ sc, r)
    | none => none

def astep (P : Program) (ops : Array Oper) (o : Oper) (K : AState → Prop) (σ : AState) : Prop :=
  match sop' P σ.val σ.va o.op with
  | some (sc, r) => vprop (guardOf ops σ.get o) sc ∧ K (σ.put o.dst (mkg (guardOf ops σ.get o) r))
  | none => match o.op with
    | .call c => acall P σ (guardOf ops σ.get o) c fun r cost => K ((σ.put o.dst (mkg (guardOf ops σ.get o) (r.shr P))).addRd cost)
    | _ => False

theorem RdOk.mono {F : Nat → Prop} {w : World} {rho : Option Nat} {s : Value} {bs : List UInt8} {m m' : Nat} (h : RdOk F w rho s bs m) (hm : m ≤ m') : RdOk F w rho s bs m' := fun β hβ => by
  obtain ⟨⟨p, ty, h1, h2, h3⟩, h4, h5⟩ := h β hβ
  exact ⟨⟨p, ty, h1, h2, by omega⟩, h4, h5⟩

section
variable {X : Ctx} {g : Gh} {σ : AState} {a : Act} {w : World}

theorem Rep.addRd (h : Rep X g σ a w) (c : Nat) : Rep X g (σ.addRd c) a w := { h with rd := h.rd.mono (Nat.le_add_right _ _) }

theorem Rep.Flt (h : Rep X g σ a w) {b : Nat} (hb : Fb X g b) : b < w.heap.size := by
  rcases hb with hb | ⟨d, hd⟩ | hr
  · exact Nat.lt_of_lt_of_le (h.low b hb) h.frame.size
  · exact (h.new d b hd).2.1
  · obtain ⟨⟨p, ty, h1, _⟩, _⟩ := h.rd b hr
    exact (Array.getElem?_eq_some_iff.1 h1).1

/-- the world goes on; what is new is not of this call -/
theorem Rep.step (h : Rep X g σ a w) {w' : World} (hs : Step (fun b => g.rho = some b) w w') {m : Nat} (hrd : RdOk (Fb X g) w' g.rho g.rs g.rb m) : Rep X g ⟨σ.s, m⟩ a w' := by
  refine { h with frame := h.frame.trans hs fun b hb hE => ⟨hE, fun e => ?_⟩, new := fun d b hd => ?_, rd := hrd, rep := fun t => (h.rep t).step hs (fun _ _ hf => hf) (fun b _ hb => .inr (.inr hb)) (fun d _ => ⟨rfl, fun b hd e => (h.new d b hd).2.2 e⟩) rfl }
  · rcases h.rho with hr | ⟨hr, hn⟩
    · exact hE (.inl (hr ▸ e))
    · exact nw_ne (hn b e) hb hE
  · obtain ⟨h1, h2, h3⟩ := h.new d b hd
    exact ⟨h1, Nat.lt_of_lt_of_le h2 hs.size, h3⟩

theorem vaAll_spec : ∀ (xs : List Operand), vaAll σ.va xs → ∀ x ∈ xs, σ.va x = true
  | [], _, x, hx => by cases hx
  | y :: r, h, x, hx => by
    rcases List.mem_cons.1 hx with rfl | hx
    · exact h.1
    · exact vaAll_spec r h.2 x hx

theorem guardOf_wanted {ops : Array Oper} {o : Oper} (h : Rep X g σ a w) : (guardOf ops σ.get o = .un → Region.wanted o (yielded ops a.tmps) = true) ∧
    (∀ b, guardOf ops σ.get o = .on b → Region.wanted o (yielded ops a.tmps) = b) := by
  unfold guardOf Region.wanted
  cases hg : o.guard with
  | none => simp
  | some p =>
    obtain ⟨j, want⟩ := p
    simp only
    unfold yielded
    cases ht : (ops[j]?).bind (·.dst) with
    | none => simp
    | some t =>
      have hr := h.rep t
      simp only [Option.bind_some]
      refine ⟨fun he => ?_, fun b he => ?_⟩
      · split at he <;> cases he
      · have hget : ∀ v, a.tmps.getD t undef = v → v ≠ undef → a.tmps[t]? = some v := by
          intro v hv hne
          rw [Array.getD_eq_getD_getElem?] at hv
          cases hx : a.tmps[t]? with
          | none => simp [hx] at hv; exact absurd hv.symm hne
          | some y => simp [hx] at hv; rw [hv]
        split at he
        · rename_i b' hb
          rw [hb] at hr
          simp only [RepV] at hr
          simp only [GR.on.injEq] at he
          subst he
          rw [hget _ hr (by simp [undef])]
          simp
        · rename_i c b' hb
          rw [hb] at hr
          simp only [RepV] at hr
          simp only [GR.on.injEq] at he
          subst he
          cases c with
          | true =>
            simp only [if_true] at hr
            rw [hget _ hr (by simp [undef])]
            simp
          | false =>
            simp only [Bool.false_eq_true, if_false] at hr
            rw [Array.getD_eq_getD_getElem?] at hr
            cases hx : a.tmps[t]? with
            | none => simp
            | some y =>
              simp only [hx, Option.getD_some] at hr
              rw [hr]
              simp [undef]
        · cases he

theorem sop'_sound {o : Oper} {sc : Prop} {r : AV} (h : Rep X g σ a w) (hs : sop' X.P σ.val σ.va o.op = some (sc, r)) (hsc : sc) :
    ∃ v, (execOp a.eval o).run X.P w = .ok (.value v) w ∧ RepV X.P (Fb X g) g.own g.rho w v r := by
  unfold sop' at hs
  split at hs
  · rename_i c x y hop
    unfold spick at hs
    split at hs
    · rename_i t p q hc hx hy
      simp only [Option.some.injEq, Prod.mk.injEq] at hs
      obtain ⟨rfl, rfl⟩ := hs
      obtain ⟨h1, h2, h3⟩ := hsc
      have rc := h.val h1
      rw [hc] at rc
      simp only [RepV] at rc
      cases t with
      | true =>
        have rx := h.val (h2 rfl)
        rw [hx] at rx
        simp only [RepV] at rx
        refine ⟨.bool p, ?_, rfl⟩
        obtain ⟨dst, op, type, pos, after, guard⟩ := o
        simp only at hop
        subst hop
        simp [execOp, rc, asBool, rx]
      | false =>
        have ry := h.val (h3 rfl)
        rw [hy] at ry
        simp only [RepV] at ry
        refine ⟨.bool q, ?_, rfl⟩
        obtain ⟨dst, op, type, pos, after, guard⟩ := o
        simp only at hop
        subst hop
        simp [execOp, rc, asBool, ry]
    · cases hs
  · split at hs
    · rename_i sc' r' hs'
      simp only [Option.some.injEq, Prod.mk.injEq] at hs
      obtain ⟨rfl, rfl⟩ := hs
      exact sop_sound (fun y hy => h.val (vaAll_spec _ hsc.1 y hy)) hs' hsc.2
    · cases hs

end

section
variable {X : Ctx} {g : Gh} {σ : AState} {a : Act} {w : World}

theorem OwnR.sl {P : Program} {F : Nat → Prop} {own : Nat → Option Nat} {d e : Nat} {x : Value} {vs : List Value} (h : OwnR P own w d e x vs) (hF : ∀ b, own d = some b → ¬ F b) :
    Sl F w x (P.cellsOf e) vs := by
  obtain ⟨hel, hr⟩ := h
  rcases hr with ⟨rfl, rfl⟩ | ⟨gb, hg, hob, hrow⟩
  · exact ⟨none, 0, rfl, Nat.le_refl _, Nat.zero_le _, fun y hy => by simp at hy, .inl rfl⟩
  · rcases hrow.2 with ⟨rfl, h0⟩ | ⟨g', cap, cur, rfl, _, hh, h1, h2, h3, h4⟩
    · have : vs = [] := List.length_eq_zero_iff.1 h0
      subst this
      exact ⟨none, 0, rfl, Nat.le_refl _, Nat.zero_le _, fun y hy => by simp at hy, .inl rfl⟩
    · have hgg : g' = gb := by simpa [Value.ownBlock] using hob
      subst hgg
      refine ⟨_, _, rfl, h1, h2, hel, .inr ⟨g', 0, rfl, hF g' hg, (Array.getElem?_eq_some_iff.1 hh).1, fun j c hj => ?_⟩⟩
      have := ownsRow_cell hrow hob j c hj
      rwa [Nat.zero_add]

theorem Sl.less {F F' : Nat → Prop} {x : Value} {k : Nat} {vs : List Value} (h : Sl F w x k vs) (hF : ∀ b, F' b → F b) : Sl F' w x k vs :=
  Sl.step h (Step.refl (fun _ => False) w) (fun b _ hb => hF b hb) (fun _ _ hb => hb.elim)

/-- arguments: what the call owns is handed over as a view -/
theorem Rep.args (h : Rep X g σ a w) (F : Nat → Prop) (hF : ∀ b, F b → Fb X g b) (c : Call) (f : FuncId) (args : List AV) (hc : callOf X.P σ.val c = some (f, args))
    (hv : vaAll σ.va c.operands.toList) (hown : ∀ x ∈ c.args.toList, (σ.val x).isOwn = true → ∀ d b, g.own d = some b → ¬ F b) :
    ∃ vals, (∀ ty, (do let d ← resolve a.eval c ty; invoke d.target d.args : Sem Next).run X.P w = (callFunc f vals).run X.P w) ∧ ArgsR X.P F g.rho w vals args := by
  unfold callOf at hc
  split at hc
  · rename_i fo hcal
    split at hc
    · rename_i f' first caps hfo
      simp only [Option.some.injEq, Prod.mk.injEq] at hc
      obtain ⟨rfl, rfl⟩ := hc
      have hfv : σ.va fo = true := vaAll_spec _ hv fo (by simp [Call.operands, hcal])
      have hrep := h.val hfv
      rw [hfo] at hrep
      obtain ⟨fs, cs, he, h1, h2, h3, h4⟩ := hrep
      refine ⟨fs ++ c.args.map a.eval ++ cs, fun ty => ?_, ?_, ?_⟩
      · simp only [resolve, hcal, he, Deferred.ofValue, Sem.run_bind, Sem.run_pure, Result.andThen_ok, invoke]
      · simp [h1, h2]
      · have hless : ∀ b, b < w.heap.size → F b → Fb X g b := fun b _ hb => hF b hb
        intro j av hj
        rw [Array.getElem?_append, Array.getElem?_append]
        simp only [List.append_assoc, List.getElem?_append, List.length_map, Array.size_append, Array.size_map, Array.length_toList] at hj ⊢
        by_cases hj1 : j < first.length
        · simp only [hj1, if_true] at hj
          simp only [show j < fs.size + c.args.size by omega, show j < fs.size by omega, if_true]
          simp only [List.getElem?_map, Option.map_eq_some_iff] at hj
          obtain ⟨z, hz, rfl⟩ := hj
          obtain ⟨y, hy, hr⟩ := h3 j z hz
          refine ⟨y, hy, ?_⟩
          cases z with
          | v u => exact hr
          | sl k vs => exact Sl.less hr hF
        · simp only [hj1, if_false] at hj
          by_cases hj2 : j - first.length < c.args.size
          · simp only [hj2, if_true] at hj
            simp only [show j < fs.size + c.args.size by omega, show ¬ j < fs.size by omega, if_true, if_false]
            simp only [List.getElem?_map, Option.map_eq_some_iff] at hj
            obtain ⟨x, hx, rfl⟩ := hj
            have hxm : x ∈ c.args.toList := List.mem_of_getElem? hx
            have hxr := h.val (x := x) (vaAll_spec _ hv x (by simp [Call.operands]; exact .inr (by simpa using hxm)))
            refine ⟨a.eval x, ?_, ?_⟩
            · rw [Array.getElem?_map, show j - fs.size = j - first.length by omega, ← Array.getElem?_toList, hx]; rfl
            · generalize hav : σ.val x = av at hxr
              have hstep := fun (ho : ∀ d, av.has d = true → False) => hxr.step (F' := F) (own' := fun _ => none) (rho' := g.rho) (Step.refl (fun _ => False) w) hless (fun _ _ hb => hb.elim) (fun d hd => (ho d hd).elim) rfl
              cases av
              case own d e vs =>
                exact OwnR.sl hxr (fun b hb => hown x hxm (by rw [hav]; rfl) d b hb)
              case bx d cells off => trivial
              case ep d e vs i off => trivial
              case cnd c' x' => trivial
              case tupo d e vs rest => trivial
              case free => trivial
              case mp d t ks => trivial
              case vw d k vs =>
                exact Sl.less hxr (fun b hb => ⟨hF b hb, fun e => hown x hxm (by rw [hav]; rfl) d b e hb⟩)
              all_goals exact hstep (by simp [AV.has])
          · simp only [hj2, if_false] at hj
            simp only [show ¬ j < fs.size + c.args.size by omega, if_false]
            simp only [List.getElem?_map, Option.map_eq_some_iff] at hj
            obtain ⟨cells, hz, rfl⟩ := hj
            obtain ⟨y, hy, hr⟩ := h4 _ cells hz
            exact ⟨y, by rw [show j - (fs.size + c.args.size) = j - first.length - c.args.size by omega]; exact hy, hr.step (Step.refl (fun _ => False) w) hless (fun _ _ hb => hb.elim)⟩
    · cases hc
  · cases hc

theorem run_callFunc {P : Program} {f : FuncId} {fn : Func} {vals : Array Value} (hf : P.funcs[f]? = some fn) (hn : (fn.name == "runtime.NumGoroutine") = false) (hb : fn.body.isNone = false) :
    (callFunc f vals).run P w = .ok (.enter f vals) w := by
  simp only [callFunc, Sem.run_bind, run_program, Result.andThen_ok, hf, hn, Bool.false_eq_true, if_false, hb, Sem.run_pure]

theorem acall_wp {o : Oper} {c : Call} (ho : o.op = .call c) (h : Rep X g σ a w) {f : FuncId} {args : List AV} (hc : callOf X.P σ.val c = some (f, args)) (hv : vaAll σ.va c.operands.toList)
    {cost : Nat} {R : AV → Prop} (hA : ACalls X.P f args cost R) (hsafe : ∀ r, R r → c.args.toList.any (fun x => (σ.val x).isOwn) = true → r.safe = true) (hrd : σ.rd + cost ≤ LIM)
    {K : Act → World → Prop} {Q : Exit → Act → World → Prop}
    (hK : ∀ v r w', R r → Step (fun b => g.rho = some b) w w' → RdOk (Fb X g) w' g.rho g.rs g.rb (σ.rd + cost) → ResR X.P (Fb X g) w w' v r → K (a.put o.dst v) w') : o.wp X.P a w K Q := by
  obtain ⟨⟨fn, hf, hn, hb⟩, hA⟩ := hA
  have main : ∀ (F : Nat → Prop), (∀ b, F b → Fb X g b) → (∀ b, g.rho = some b → F b) → (∀ x ∈ c.args.toList, (σ.val x).isOwn = true → ∀ d b, g.own d = some b → ¬ F b) →
      (∀ r w' v, R r → w.heap.size ≤ w'.heap.size → ResR X.P F w w' v r → ResR X.P (Fb X g) w w' v r) → o.wp X.P a w K Q := by
    intro F hF hrho hown hup
    obtain ⟨vals, he, har⟩ := h.args F hF c f args hc hv hown
    have hrdF : RdOk F w g.rho g.rs g.rb σ.rd := fun β hβ => let ⟨h1, h2, h3⟩ := h.rd β hβ; ⟨h1, h2.less hF, h3⟩
    have hcall := hA w F g.rho g.rs g.rb σ.rd vals (fun b hb => h.Flt (hF b hb)) hrho hrdF hrd har
    have hexec : (execOp a.eval o).run X.P w = .ok (.enter f vals) w := by
      have h1 := (he o.type).trans (run_callFunc hf hn hb)
      obtain ⟨dst, op, type, pos, after, guard⟩ := o
      simp only at ho
      subst ho
      exact h1
    unfold Oper.wp
    rw [hexec, Oper.upon_enter]
    refine hcall.mono fun e w' ⟨rv, r, hev, hR, hres, hst, hrd'⟩ => ?_
    subst hev
    refine hK rv r w' hR hst (fun β hβ => ?_) (hup r w' rv hR hst.size hres)
    obtain ⟨h1, _, h3⟩ := hrd' β hβ
    obtain ⟨_, h5, _⟩ := h.rd β hβ
    exact ⟨h1, h5.step hst (fun _ _ hb => hb) (fun b _ hb => .inr (.inr hb)), h3⟩
  by_cases hany : c.args.toList.any (fun x => (σ.val x).isOwn) = true
  · refine main (fun b => Fb X g b ∧ ∀ d, g.own d ≠ some b) (fun b hb => hb.1) (fun b hb => ⟨.inr (.inr hb), fun d hd => (h.new d b hd).2.2 hb⟩) (fun x _ _ d b hd hb => hb.2 d hd) fun r w' v hR hsz hres => ?_
    have hs := hsafe r hR hany
    cases r <;> simp only [AV.safe, Bool.false_eq_true] at hs
    case v y => exact hres
    case own d e vs => exact hres
    case tupo d e vs rest => exact hres
    case tup xs =>
      obtain ⟨ys, hx, hsz, hr⟩ := hres
      refine ⟨ys, hx, hsz, fun j c hj => ?_⟩
      obtain ⟨y, hy, hyr⟩ := hr j c hj
      have := List.all_eq_true.1 hs c (List.mem_of_getElem? hj)
      cases c with
      | v z => exact ⟨y, hy, hyr⟩
      | sl k vs => simp at this
  · refine main (Fb X g) (fun b hb => hb) (fun b hb => .inr (.inr hb)) (fun x hx ho => absurd (List.any_eq_true.2 ⟨x, hx, ho⟩) hany) fun r w' v hR hsz hres => hres

/-- a result whose ownership is given up -/
theorem ResR.shr' {w' : World} {v : Value} {r : AV} (hres : ResR X.P (Fb X g) w w' v r) (h : Rep X g σ a w) : RepV X.P (Fb X g) g.own g.rho w' v (r.shr X.P) := by
  cases r <;> simp only [ResR] at hres <;> try exact hres.elim
  case v y => exact hres
  case sl k vs => exact hres
  case tup xs => exact hres
  case bx d cells off => trivial
  case rd => trivial
  case tupo d e vs rest =>
    obtain ⟨y, rfl, hel, hr⟩ := hres
    refine ⟨(y :: rest).toArray, rfl, by simp, fun j c hj => ?_⟩
    cases j with
    | zero =>
      simp only [List.getElem?_cons_zero, Option.some.injEq] at hj
      subst hj
      refine ⟨y, rfl, OwnR.sl (d := 0) (own := fun _ => y.ownBlock) ⟨hel, ?_⟩ ?_⟩
      · rcases hr with hr | ⟨gb, _, h2, h3⟩
        · exact .inl hr
        · exact .inr ⟨gb, h2, h2, h3⟩
      · intro b hb hF
        rcases hr with ⟨rfl, _⟩ | ⟨gb, h1, h2, _⟩
        · simp [Value.ownBlock] at hb
        · rw [h2] at hb
          have : gb = b := by simpa using hb
          subst this
          exact absurd (h.Flt hF) (by omega)
    | succ j =>
      simp only [List.getElem?_cons_succ, List.getElem?_map, Option.map_eq_some_iff] at hj
      obtain ⟨z, hz, rfl⟩ := hj
      exact ⟨z, by simpa using hz, rfl⟩
  case own d e vs =>
    simp only [AV.shr, RepV]
    obtain ⟨hel, hr⟩ := hres
    refine OwnR.sl (d := 0) (own := fun _ => v.ownBlock) ⟨hel, ?_⟩ ?_
    · rcases hr with hr | ⟨gb, _, h2, h3⟩
      · exact .inl hr
      · exact .inr ⟨gb, h2, h2, h3⟩
    · intro b hb hF
      rcases hr with ⟨rfl, _⟩ | ⟨gb, h1, h2, _⟩
      · simp [Value.ownBlock] at hb
      · rw [h2] at hb
        have : gb = b := by simpa using hb
        subst this
        exact absurd (h.Flt hF) (by omega)
end

section
variable {X : Ctx} {g : Gh} {σ : AState} {a : Act} {w : World}

theorem Rep.of_rd (h : Rep X g σ a w) {m : Nat} (hm : σ.rd ≤ m) : Rep X g ⟨σ.s, m⟩ a w := { h with rd := h.rd.mono hm }

theorem put_addRd (σ : AState) (d : Option Nat) (x : AV) (c : Nat) : (σ.put d x).addRd c = (⟨σ.s, σ.rd + c⟩ : AState).put d x := by
  cases d <;> rfl

theorem RepV.skip (r : AV) : RepV X.P (Fb X g) g.own g.rho w undef (.cnd false r) := by simp [RepV]

theorem RepV.on {v : Value} {r : AV} (h : RepV X.P (Fb X g) g.own g.rho w v r) : RepV X.P (Fb X g) g.own g.rho w v (.cnd true r) := by simpa [RepV] using h

theorem astep_sound {ops : Array Oper} {o : Oper} {K : AState → Prop} {K' : Act → World → Prop} {Q : Exit → Act → World → Prop} (h : Rep X g σ a w) (hd : dstOk X.N o.dst = true) (hs : astep X.P ops o K σ)
    (hK : ∀ σ' a' w', K σ' → Rep X g σ' a' w' → K' a' w') :
    if Region.wanted o (yielded ops a.tmps) = true then o.wp X.P a w K' Q else K' (a.put o.dst undef) w := by
  obtain ⟨hun, hon⟩ := guardOf_wanted (ops := ops) (o := o) h
  unfold astep at hs
  split at hs
  · rename_i sc r hsop
    obtain ⟨hsc, hk⟩ := hs
    have run : sc → ∀ r', (∀ v, RepV X.P (Fb X g) g.own g.rho w v r → RepV X.P (Fb X g) g.own g.rho w v r') → K (σ.put o.dst r') → o.wp X.P a w K' Q := by
      intro hsc r' hr hk
      obtain ⟨v, he, hv⟩ := sop'_sound h hsop hsc
      unfold Oper.wp
      rw [he, Oper.upon_value]
      exact hK _ _ _ hk (h.put hd (hr v hv))
    cases hg : guardOf ops σ.get o with
    | bad => rw [hg] at hsc; exact hsc.elim
    | un =>
      rw [hg] at hsc hk
      rw [if_pos (hun hg)]
      exact run hsc _ (fun v hv => hv) hk
    | on b =>
      rw [hg] at hsc hk
      rw [hon b hg]
      cases b with
      | true => rw [if_pos rfl]; exact run (hsc rfl) _ (fun v hv => hv.on) hk
      | false => rw [if_neg (by simp)]; exact hK _ _ _ hk (h.put hd (RepV.skip r))
  · rename_i hsop
    split at hs
    · rename_i c hop
      unfold acall at hs
      split at hs
      · exact hs.elim
      · rename_i f args hc
        obtain ⟨R, cost, hv, ⟨r0, hr0⟩, hrd, hall⟩ := hs
        have run : (vaAll σ.va c.operands.toList ∧ ACalls X.P f args cost R) → ∀ tr : AV → AV, (∀ w' v r, RepV X.P (Fb X g) g.own g.rho w' v r → RepV X.P (Fb X g) g.own g.rho w' v (tr r)) →
            (∀ r, R r → K ((σ.put o.dst (tr (r.shr X.P))).addRd cost)) → o.wp X.P a w K' Q := by
          intro hv tr htr hall'
          refine acall_wp hop h hc hv.1 hv.2 (fun r hr => (hall r hr).1) hrd fun v r w' hr hst hrd' hres => ?_
          refine hK _ _ _ (hall' r hr) ?_
          rw [put_addRd]
          exact (h.step hst hrd').put hd (htr _ _ _ (hres.shr' h))
        cases hg : guardOf ops σ.get o with
        | bad => rw [hg] at hv; exact hv.elim
        | un =>
          rw [hg] at hv
          rw [if_pos (hun hg)]
          exact run hv id (fun _ _ _ h => h) fun r hr => by have := (hall r hr).2; rw [hg] at this; exact this
        | on b =>
          rw [hg] at hv
          rw [hon b hg]
          cases b with
          | true => rw [if_pos rfl]; exact run (hv rfl) (.cnd true) (fun _ _ _ h => by simpa [RepV] using h) fun r hr => by have := (hall r hr).2; rw [hg] at this; exact this
          | false =>
            rw [if_neg (by simp)]
            have := (hall r0 hr0).2
            rw [hg] at this
            refine hK _ _ _ this ?_
            rw [put_addRd]
            exact (h.of_rd (Nat.le_add_right _ _)).put hd (RepV.skip _)
    · exact hs.elim

/-! ## regions without a draw -/

def aList (P : Program) (ops : Array Oper) (K : AState → Prop) : List Oper → AState → Prop
  | [], σ => K σ
  | o :: rest, σ => astep P ops o (aList P ops K rest) σ

theorem aList_sound {ops : Array Oper} {K : AState → Prop} {Q : Exit → Act → World → Prop} (hK : ∀ σ' a' w', K σ' → Rep X g σ' a' w' → Q .normal a' w') : ∀ (l : List Oper), (∀ o ∈ l, dstOk X.N o.dst = true) →
    ∀ (σ : AState) (a : Act) (w : World), Rep X g σ a w → aList X.P ops K l σ → wpList X.P ops Q l a w
  | [], _, σ, a, w, h, hs => hK σ a w hs h
  | o :: rest, hd, σ, a, w, h, hs => by
    have ih := aList_sound (ops := ops) hK rest fun o ho => hd o (List.mem_cons_of_mem _ ho)
    have := astep_sound (Q := Q) h (hd o List.mem_cons_self) hs (K' := wpList X.P ops Q rest) fun σ' a' w' hk hr => ih σ' a' w' hr hk
    unfold wpList
    by_cases hw : Region.wanted o (yielded ops a.tmps) = true
    · rw [if_pos hw] at this ⊢; exact .inl this
    · rw [if_neg hw] at this ⊢; exact this
end

/-! ## regions that draw their order -/

theorem partsV_congr {val val' : Operand → AV} : ∀ (ps : List (Nat × Operand)), (∀ p ∈ ps, val p.2 = val' p.2) → partsV val ps = partsV val' ps
  | [], _ => rfl
  | (i, x) :: r, h => by
    have h0 : val x = val' x := h (i, x) List.mem_cons_self
    simp only [partsV, h0, partsV_congr r fun p hp => h p (List.mem_cons_of_mem _ hp)]
theorem capsV_congr {val val' : Operand → AV} : ∀ (ps : List Operand), (∀ p ∈ ps, val p = val' p) → capsV val ps = capsV val' ps
  | [], _ => rfl
  | x :: r, h => by
    simp only [capsV, h x List.mem_cons_self, capsV_congr r fun p hp => h p (List.mem_cons_of_mem _ hp)]
theorem firstV_congr {val val' : Operand → AV} : ∀ (ps : List Operand), (∀ p ∈ ps, val p = val' p) → firstV val ps = firstV val' ps
  | [], _ => rfl
  | x :: r, h => by
    simp only [firstV, h x List.mem_cons_self, firstV_congr r fun p hp => h p (List.mem_cons_of_mem _ hp)]

theorem slen_congr {P : Program} {val val' : Operand → AV} : ∀ (xs : List Operand) (ts : List TypeId), (∀ p ∈ xs, val p = val' p) → slen P val xs ts = slen P val' xs ts
  | [], ts, _ => by cases ts <;> rfl
  | [x], [t], h => by simp only [slen, h x List.mem_cons_self]
  | [x], [], _ => rfl
  | [x], _ :: _ :: _, _ => rfl
  | _ :: _ :: _, ts, _ => by cases ts <;> rfl

theorem sop_congr {P : Program} {val val' : Operand → AV} {op : Op} (h : ∀ y ∈ op.operands.toList, val y = val' y) : sop P val op = sop P val' op := by
  cases op <;> simp only [Op.operands] at h <;> (try rfl)
  case lookup t m x ok => cases ok <;> first | rfl | simp only [sop, h m (by simp), h x (by simp)]
  case move x => simp only [sop, h x (by simp)]
  case assign x => simp only [sop, h x (by simp)]
  case build t ps => simp only [sop, partsV_congr ps.toList fun p hp => h p.2 (by simp; exact ⟨p.1, by simpa using hp⟩)]
  case load t x => simp only [sop, h x (by simp)]
  case binOp op t x y yt => simp only [sop, h x (by simp), h y (by simp)]
  case unOp op t x => cases op <;> simp only [sop, h x (by simp)]
  case convert s d x => simp only [sop, h x (by simp)]
  case makeFunc fn first caps =>
    cases fn <;> try rfl
    simp only [sop, firstV_congr first.toList fun p hp => h p (by simp at hp ⊢; exact .inl hp), capsV_congr caps.toList fun p hp => h p (by simp at hp ⊢; exact .inr hp)]
  case slice t x lo hi mx =>
    cases mx with
    | some _ => rfl
    | none => cases lo <;> cases hi <;> simp_all [sop]
  case fieldAddr s x f => simp only [sop, h x (by simp)]
  case field s x f => simp only [sop, h x (by simp)]
  case indexAddr t x i => simp only [sop, h x (by simp), h i (by simp)]
  case index t x i => simp only [sop, h x (by simp), h i (by simp)]
  case extract x i => simp only [sop, h x (by simp)]
  case nilCheck x => simp only [sop, h x (by simp)]
  case call c =>
    simp only [sop]
    cases hc : c.callee with
    | builtin b => cases b <;> first | rfl | exact slen_congr c.args.toList c.argTypes.toList fun p hp => h p (by simp only [Call.operands, hc]; simpa using hp)
    | value f => rfl
    | invoke r m => rfl

theorem vaAll_congr {va va' : Operand → Bool} : ∀ (xs : List Operand), (∀ y ∈ xs, va y = va' y) → vaAll va xs = vaAll va' xs
  | [], _ => rfl
  | x :: r, h => by simp only [vaAll, h x List.mem_cons_self, vaAll_congr r fun y hy => h y (List.mem_cons_of_mem _ hy)]

theorem sop'_congr {P : Program} {val val' : Operand → AV} {va va' : Operand → Bool} {op : Op} (h : ∀ y ∈ op.operands.toList, val y = val' y ∧ va y = va' y) : sop' P val va op = sop' P val' va' op := by
  have h1 := sop_congr (P := P) (val := val) (val' := val') (op := op) fun y hy => (h y hy).1
  have h2 := vaAll_congr op.operands.toList fun y hy => (h y hy).2
  cases op
  case pick c x y =>
    simp only [Op.operands, List.mem_cons, List.not_mem_nil, or_false] at h
    simp only [sop', spick, h c (by simp), h x (by simp), h y (by simp)]
  all_goals simp only [sop', h1, h2]

theorem callOf_congr {P : Program} {val val' : Operand → AV} {c : Call} (h : ∀ y ∈ c.operands.toList, val y = val' y) : callOf P val c = callOf P val' c := by
  unfold callOf
  cases hc : c.callee with
  | value f =>
    simp only
    rw [h f (by simp [Call.operands, hc])]
    have : c.args.toList.map (fun x => (val x).toArg P) = c.args.toList.map (fun x => (val' x).toArg P) :=
      List.map_congr_left fun x hx => by rw [h x (by simp [Call.operands]; exact .inr (by simpa using hx))]
    rw [this]
  | invoke r m => rfl
  | builtin b => rfl

/-- two states that say the same -/
def Eqv (σ σ' : AState) : Prop := (∀ t, σ.get t = σ'.get t) ∧ σ.rd = σ'.rd

theorem Eqv.refl (σ : AState) : Eqv σ σ := ⟨fun _ => rfl, rfl⟩
theorem Eqv.symm {σ σ' : AState} (h : Eqv σ σ') : Eqv σ' σ := ⟨fun t => (h.1 t).symm, h.2.symm⟩
theorem Eqv.trans {a b c : AState} (h : Eqv a b) (k : Eqv b c) : Eqv a c := ⟨fun t => (h.1 t).trans (k.1 t), h.2.trans k.2⟩

theorem get_put' (σ : AState) (d : Option Nat) (t : Nat) (x : AV) : (σ.put d x).get t = if d = some t then x else σ.get t := by
  cases d with
  | none => simp [AState.put]
  | some d => rw [get_put]; by_cases h : t = d <;> simp [h, eq_comm]

theorem Eqv.put {σ σ' : AState} (h : Eqv σ σ') (d : Option Nat) (x : AV) : Eqv (σ.put d x) (σ'.put d x) :=
  ⟨fun t => by rw [get_put', get_put', h.1 t], by cases d <;> exact h.2⟩
theorem Eqv.addRd {σ σ' : AState} (h : Eqv σ σ') (c : Nat) : Eqv (σ.addRd c) (σ'.addRd c) := ⟨h.1, by simp [AState.addRd, h.2]⟩

theorem put_rd (σ : AState) (d : Option Nat) (x : AV) : (σ.put d x).rd = σ.rd := by cases d <;> rfl

theorem Eqv.ev {σ σ' : AState} (h : Eqv σ σ') : σ.ev = σ'.ev := funext fun x => by cases x <;> simp [AState.ev, h.1]
theorem Eqv.val {σ σ' : AState} (h : Eqv σ σ') : σ.val = σ'.val := funext fun x => by simp [AState.val, h.ev]
theorem Eqv.va {σ σ' : AState} (h : Eqv σ σ') : σ.va = σ'.va := funext fun x => by simp [AState.va, h.ev]
theorem Eqv.getF {σ σ' : AState} (h : Eqv σ σ') : σ.get = σ'.get := funext h.1

theorem Rep.eqv {X : Ctx} {g : Gh} {σ σ' : AState} {a : Act} {w : World} (h : Rep X g σ a w) (he : Eqv σ σ') : Rep X g σ' a w :=
  { h with rd := he.2 ▸ h.rd, rep := fun t => he.1 t ▸ h.rep t }

def InvK (K : AState → Prop) : Prop := ∀ σ σ', Eqv σ σ' → K σ → K σ'

theorem acall_inv {P : Program} {σ σ' : AState} (he : Eqv σ σ') {gr : GR} {c : Call} {K K' : AV → Nat → Prop} (hK : ∀ r n, K r n → K' r n) (h : acall P σ gr c K) : acall P σ' gr c K' := by
  unfold acall at *
  rw [← he.val, ← he.va, ← he.2]
  split at h
  · exact h.elim
  · rename_i f args hc
    obtain ⟨R, cost, h1, h2, h3, h4⟩ := h
    exact ⟨R, cost, h1, h2, h3, fun r hr => ⟨(h4 r hr).1, hK r cost (h4 r hr).2⟩⟩

theorem astep_inv {P : Program} {ops : Array Oper} {o : Oper} {K : AState → Prop} (hK : InvK K) : InvK (astep P ops o K) := by
  intro σ σ' he h
  unfold astep at *
  rw [← he.val, ← he.va, ← he.getF]
  split at h
  · rename_i sc r hs
    exact ⟨h.1, hK _ _ (he.put _ _) h.2⟩
  · rename_i hs
    split at h
    · exact acall_inv he (fun r n hk => hK _ _ ((he.put _ _).addRd _) hk) h
    · exact h.elim

theorem astep_mono {P : Program} {ops : Array Oper} {o : Oper} {K K' : AState → Prop} (hK : ∀ σ, K σ → K' σ) {σ : AState} (h : astep P ops o K σ) : astep P ops o K' σ := by
  unfold astep at *
  split at h
  · rename_i sc r hs
    exact ⟨h.1, hK _ h.2⟩
  · rename_i hs
    split at h
    · exact acall_inv (Eqv.refl σ) (fun r n hk => hK _ hk) h
    · exact h.elim

/-- an operation that makes ONE value -/
def detB (o : Oper) : Bool := match o.op with
  | .call c => match c.callee with
    | .builtin _ => true
    | _ => false
  | _ => true

theorem val_put {σ : AState} {d : Option Nat} {x : AV} {y : Operand} (h : ∀ t, d = some t → y ≠ .tmp t) : (σ.put d x).ev y = σ.ev y := by
  cases y with
  | tmp t =>
    simp only [AState.ev, get_put']
    rw [if_neg (fun e => h t e rfl)]
  | _ => rfl

theorem looks_ops {ops : Array Oper} {o : Oper} {d : Option Nat} (h : ∀ t, d = some t → t ∉ o.looksAt ops) (y : Operand) (hy : y ∈ o.op.operands.toList) : ∀ t, d = some t → y ≠ .tmp t := by
  intro t ht e
  subst e
  exact h t ht (List.mem_append_left _ (List.mem_filterMap.2 ⟨.tmp t, hy, rfl⟩))

theorem sop'_put {P : Program} {ops : Array Oper} {o : Oper} {σ : AState} {d : Option Nat} {x : AV} (h : ∀ t, d = some t → t ∉ o.looksAt ops) :
    sop' P (σ.put d x).val (σ.put d x).va o.op = sop' P σ.val σ.va o.op :=
  sop'_congr fun y hy => by simp only [AState.val, AState.va, val_put (looks_ops h y hy), and_self]

theorem guardOf_put {ops : Array Oper} {o : Oper} {σ : AState} {d : Option Nat} {x : AV} (h : ∀ t, d = some t → t ∉ o.looksAt ops) : guardOf ops (σ.put d x).get o = guardOf ops σ.get o := by
  unfold guardOf
  cases hg : o.guard with
  | none => rfl
  | some p =>
    obtain ⟨j, want⟩ := p
    simp only
    cases ht : (ops[j]?).bind (·.dst) with
    | none => rfl
    | some t =>
      simp only
      rw [get_put', if_neg fun e => h t e (by simp [Oper.looksAt, hg, ht])]

theorem call_operands {o : Oper} {c : Call} (ho : o.op = .call c) : o.op.operands = c.operands := by rw [ho]; rfl

theorem put_comm {σ : AState} {d e : Option Nat} {x y : AV} (h : ∀ t, d = some t → e ≠ some t) : Eqv ((σ.put d x).put e y) ((σ.put e y).put d x) := by
  refine ⟨fun t => ?_, by simp only [put_rd]⟩
  simp only [get_put']
  by_cases h1 : d = some t
  · simp [h1, h t h1]
  · by_cases h2 : e = some t
    · simp [h1, h2]
    · simp [h1, h2]

theorem put_addRd' (σ : AState) (d : Option Nat) (x : AV) (c : Nat) : (σ.addRd c).put d x = (σ.put d x).addRd c := by cases d <;> rfl

/-- two operations that do not look at each other may be exchanged -/
theorem astep_comm {P : Program} {ops : Array Oper} {x y : Oper} {K : AState → Prop} (hK : InvK K) (hap : x.apart ops y = true) (hdet : detB x = true ∨ detB y = true) {σ : AState}
    (h : astep P ops x (astep P ops y K) σ) : astep P ops y (astep P ops x K) σ := by
  obtain ⟨h1, h2, h3⟩ := Oper.apart_spec hap
  -- `y` behind `x` is `y`
  have hy : ∀ r, sop' P (σ.put x.dst r).val (σ.put x.dst r).va y.op = sop' P σ.val σ.va y.op := fun r => sop'_put h1
  have hx : ∀ r, sop' P (σ.put y.dst r).val (σ.put y.dst r).va x.op = sop' P σ.val σ.va x.op := fun r => sop'_put h3
  have gy : ∀ r, guardOf ops (σ.put x.dst r).get y = guardOf ops σ.get y := fun r => guardOf_put h1
  have gx : ∀ r, guardOf ops (σ.put y.dst r).get x = guardOf ops σ.get x := fun r => guardOf_put h3
  cases hsx : sop' P σ.val σ.va x.op with
  | some p =>
    obtain ⟨sc, r⟩ := p
    have hux : ∀ K' σ', sop' P σ'.val σ'.va x.op = some (sc, r) → astep P ops x K' σ' = (vprop (guardOf ops σ'.get x) sc ∧ K' (σ'.put x.dst (mkg (guardOf ops σ'.get x) r))) := fun K' σ' e => by unfold astep; rw [e]
    rw [hux _ _ hsx] at h
    obtain ⟨hsc, h⟩ := h
    cases hsy : sop' P σ.val σ.va y.op with
    | some q =>
      obtain ⟨sc', r'⟩ := q
      unfold astep at h ⊢
      rw [hy, hsy] at h
      rw [hsy]
      simp only [gy] at h
      refine ⟨h.1, ?_⟩
      simp only [hx, hsx, gx]
      exact ⟨hsc, hK _ _ (put_comm h2) h.2⟩
    | none =>
      unfold astep at h ⊢
      rw [hy, hsy] at h
      rw [hsy]
      simp only at h ⊢
      split at h
      · rename_i c hop
        have hval : callOf P (σ.put x.dst (mkg (guardOf ops σ.get x) r)).val c = callOf P σ.val c := callOf_congr fun z hz => by
          have := looks_ops h1 z (by rw [call_operands hop]; exact hz)
          simp only [AState.val, val_put this]
        have hva : vaAll (σ.put x.dst (mkg (guardOf ops σ.get x) r)).va c.operands.toList = vaAll σ.va c.operands.toList := vaAll_congr _ fun z hz => by
          have := looks_ops h1 z (by rw [call_operands hop]; exact hz)
          simp only [AState.va, val_put this]
        have hown : c.args.toList.any (fun z => ((σ.put x.dst (mkg (guardOf ops σ.get x) r)).val z).isOwn) = c.args.toList.any (fun z => (σ.val z).isOwn) := by
          have hcong : ∀ z ∈ c.args.toList, ((σ.put x.dst (mkg (guardOf ops σ.get x) r)).val z).isOwn = (σ.val z).isOwn := fun z hz => by
            have := looks_ops h1 z (by rw [call_operands hop]; simp [Call.operands]; exact .inr (by simpa using hz))
            simp only [AState.val, val_put this]
          rw [Bool.eq_iff_iff, List.any_eq_true, List.any_eq_true]
          exact ⟨fun ⟨z, hz, e⟩ => ⟨z, hz, by rw [← hcong z hz]; exact e⟩, fun ⟨z, hz, e⟩ => ⟨z, hz, by rw [hcong z hz]; exact e⟩⟩
        unfold acall at h ⊢
        rw [hval] at h
        split at h
        · exact h.elim
        · rename_i f args hc
          obtain ⟨R, cost, h4, h5, h6, h7⟩ := h
          rw [hva, gy] at h4
          rw [put_rd] at h6
          rw [hown] at h7
          refine ⟨R, cost, h4, h5, h6, fun s hs => ⟨(h7 s hs).1, ?_⟩⟩
          have h8 := (h7 s hs).2
          rw [gy] at h8
          have hx' : sop' P ((σ.put y.dst (mkg (guardOf ops σ.get y) (s.shr P))).addRd cost).val ((σ.put y.dst (mkg (guardOf ops σ.get y) (s.shr P))).addRd cost).va x.op = some (sc, r) := (hx _).trans hsx
          have gx' : guardOf ops ((σ.put y.dst (mkg (guardOf ops σ.get y) (s.shr P))).addRd cost).get x = guardOf ops σ.get x := gx _
          dsimp only
          rw [hx', gx']
          refine ⟨hsc, hK _ _ ?_ h8⟩
          rw [put_addRd']
          exact (put_comm h2).addRd _
      · exact h.elim
  | none =>
    have hydet : detB y = true := by
      rcases hdet with hd | hd
      · exfalso
        unfold astep at h
        rw [hsx] at h
        simp only at h
        split at h
        · rename_i c hop
          unfold detB at hd
          rw [hop] at hd
          simp only at hd
          split at hd
          · rename_i b hb
            unfold acall callOf at h
            simp only [hb] at h
          · cases hd
        · exact h.elim
      · exact hd
    unfold astep at h
    rw [hsx] at h
    simp only at h
    split at h
    · rename_i c hop
      unfold acall at h
      split at h
      · exact h.elim
      · rename_i f args hc
        obtain ⟨R, cost, h4, ⟨r0, hr0⟩, h6, h7⟩ := h
        -- `y` makes one value
        have hyr : ∃ sc r, sop' P σ.val σ.va y.op = some (sc, r) := by
          cases hsy : sop' P σ.val σ.va y.op with
          | some q => exact ⟨q.1, q.2, rfl⟩
          | none =>
            exfalso
            have h8 := (h7 r0 hr0).2
            have e1 : sop' P ((σ.put x.dst (mkg (guardOf ops σ.get x) (r0.shr P))).addRd cost).val ((σ.put x.dst (mkg (guardOf ops σ.get x) (r0.shr P))).addRd cost).va y.op = none := (hy _).trans hsy
            dsimp only at h8
            rw [e1] at h8
            simp only at h8
            split at h8
            · rename_i c' hop'
              unfold detB at hydet
              rw [hop'] at hydet
              simp only at hydet
              split at hydet
              · rename_i b hb
                (try unfold acall at h8)
                unfold callOf at h8
                simp only [hb] at h8
              · cases hydet
            · exact h8
        obtain ⟨sc, r, hsy⟩ := hyr
        have hyn : ∀ r0, R r0 → vprop (guardOf ops σ.get y) sc ∧ K (((σ.put x.dst (mkg (guardOf ops σ.get x) (r0.shr P))).addRd cost).put y.dst (mkg (guardOf ops σ.get y) r)) := fun r0 hr0 => by
          have h8 := (h7 r0 hr0).2
          have e1 : sop' P ((σ.put x.dst (mkg (guardOf ops σ.get x) (r0.shr P))).addRd cost).val ((σ.put x.dst (mkg (guardOf ops σ.get x) (r0.shr P))).addRd cost).va y.op = some (sc, r) := (hy _).trans hsy
          have e2 : guardOf ops ((σ.put x.dst (mkg (guardOf ops σ.get x) (r0.shr P))).addRd cost).get y = guardOf ops σ.get y := gy _
          dsimp only at h8
          rw [e1, e2] at h8
          exact h8
        unfold astep
        rw [hsy]
        refine ⟨(hyn r0 hr0).1, ?_⟩
        have e3 := (hx (mkg (guardOf ops σ.get y) r)).trans hsx
        rw [e3]
        dsimp only
        rw [hop]
        dsimp only
        unfold acall
        have hval : callOf P (σ.put y.dst (mkg (guardOf ops σ.get y) r)).val c = callOf P σ.val c := callOf_congr fun z hz => by
          have := looks_ops h3 z (by rw [call_operands hop]; exact hz)
          simp only [AState.val, val_put this]
        have hva : vaAll (σ.put y.dst (mkg (guardOf ops σ.get y) r)).va c.operands.toList = vaAll σ.va c.operands.toList := vaAll_congr _ fun z hz => by
          have := looks_ops h3 z (by rw [call_operands hop]; exact hz)
          simp only [AState.va, val_put this]
        have hown : c.args.toList.any (fun z => ((σ.put y.dst (mkg (guardOf ops σ.get y) r)).val z).isOwn) = c.args.toList.any (fun z => (σ.val z).isOwn) := by
          have hcong : ∀ z ∈ c.args.toList, ((σ.put y.dst (mkg (guardOf ops σ.get y) r)).val z).isOwn = (σ.val z).isOwn := fun z hz => by
            have := looks_ops h3 z (by rw [call_operands hop]; simp [Call.operands]; exact .inr (by simpa using hz))
            simp only [AState.val, val_put this]
          rw [Bool.eq_iff_iff, List.any_eq_true, List.any_eq_true]
          exact ⟨fun ⟨z, hz, e⟩ => ⟨z, hz, by rw [← hcong z hz]; exact e⟩, fun ⟨z, hz, e⟩ => ⟨z, hz, by rw [hcong z hz]; exact e⟩⟩
        rw [hval, hc]
        simp only
        refine ⟨R, cost, ?_, ⟨r0, hr0⟩, ?_, fun s hs => ⟨?_, ?_⟩⟩
        · rw [hva, gx]; exact h4
        · rw [put_rd]; exact h6
        · rw [hown]; exact (h7 s hs).1
        · try dsimp only
          rw [gx]
          refine hK _ _ ?_ (hyn s hs).2
          rw [put_addRd']
          exact (put_comm h2).addRd _
    · exact h.elim

theorem astep_some {P : Program} {ops : Array Oper} {o : Oper} {K : AState → Prop} {σ : AState} (h : astep P ops o K σ) : ∃ σ', K σ' := by
  unfold astep at h
  split at h
  · exact ⟨_, h.2⟩
  · split at h
    · unfold acall at h
      split at h
      · exact h.elim
      · obtain ⟨R, cost, _, ⟨r, hr⟩, _, h⟩ := h
        exact ⟨_, (h r hr).2⟩
    · exact h.elim

def aOp (P : Program) (ops : Array Oper) (i : Nat) (K : AState → Prop) (σ : AState) : Prop :=
  match ops[i]? with
  | none => K σ
  | some o => astep P ops o K σ

theorem aOp_inv {P : Program} {ops : Array Oper} {i : Nat} {K : AState → Prop} (hK : InvK K) : InvK (aOp P ops i K) := by
  intro σ σ' he h
  unfold aOp at *
  split at h
  · exact hK _ _ he h
  · exact astep_inv hK _ _ he h

theorem aOp_mono {P : Program} {ops : Array Oper} {i : Nat} {K K' : AState → Prop} (hK : ∀ σ, K σ → K' σ) {σ : AState} (h : aOp P ops i K σ) : aOp P ops i K' σ := by
  unfold aOp at *
  split at h
  · exact hK _ h
  · exact astep_mono hK h

def aAnyL (P : Program) (md : Region.Mode) (ops : Array Oper) (n : Nat) (L : Array Bool → AState → Prop) : Nat → Array Bool → AState → Prop
  | 0, listed, σ => L listed σ
  | f + 1, listed, σ =>
    Region.ready md ops listed ≠ [] ∧ ∀ i ∈ Region.ready md ops listed, i < n ∧ aOp P ops i (aAnyL P md ops n L f (listed.setIfInBounds i true)) σ

theorem aAnyL_inv {P : Program} {md : Region.Mode} {ops : Array Oper} {n : Nat} {L : Array Bool → AState → Prop} (hL : ∀ l, InvK (L l)) : ∀ (f : Nat) (listed : Array Bool), InvK (aAnyL P md ops n L f listed)
  | 0, _ => hL _
  | f + 1, _ => fun _ _ he h => ⟨h.1, fun i hi => ⟨(h.2 i hi).1, aOp_inv (aAnyL_inv hL f _) _ _ he (h.2 i hi).2⟩⟩

section
variable {X : Ctx} {g : Gh} {ops : Array Oper} {md : Region.Mode}

theorem wpOp_of_aOp {i : Nat} {K : AState → Prop} {K' : Act → World → Prop} {Q : Exit → Act → World → Prop} {σ : AState} {a : Act} {w : World} (hd : ∀ o : Oper, ops[i]? = some o → dstOk X.N o.dst = true)
    (h : Rep X g σ a w) (hs : aOp X.P ops i K σ) (hK : ∀ σ' a' w', K σ' → Rep X g σ' a' w' → K' a' w') : wpOp X.P ops Q i K' a w := by
  unfold aOp at hs
  unfold wpOp
  split at hs
  · rename_i hn; simp only [hn]; exact hK _ _ _ hs h
  · rename_i o ho
    simp only [ho]
    have := astep_sound (Q := Q) h (hd o ho) hs hK
    by_cases hw : Region.wanted o (yielded ops a.tmps) = true
    · rw [if_pos hw] at this ⊢; exact .inl this
    · rw [if_neg hw] at this ⊢; exact this

theorem wpAny_of_aHead {n k : Nat} {L : Array Bool → AState → Prop} {Q : Exit → Act → World → Prop} (hd : ∀ (i : Nat) (o : Oper), ops[i]? = some o → dstOk X.N o.dst = true)
    (hL : ∀ listed σ a w, L listed σ → Rep X g σ a w → wpAny X.P md ops Q k listed a w) :
    ∀ (f : Nat) (listed : Array Bool) (σ : AState) (a : Act) (w : World), Rep X g σ a w → aAnyL X.P md ops n L f listed σ → wpAny X.P md ops Q (f + k) listed a w
  | 0, listed, σ, a, w, h, hs => by rw [Nat.zero_add]; exact hL _ _ _ _ hs h
  | f + 1, listed, σ, a, w, h, hs => by
    rw [show f + 1 + k = (f + k) + 1 by omega]
    exact ⟨fun h0 => absurd h0 hs.1, fun i hi => wpOp_of_aOp (hd i) h (hs.2 i hi).2 fun σ' a' w' hk hr => wpAny_of_aHead hd hL f _ σ' a' w' hr hk⟩

/-- head operations come before the tail -/
def Waits (md : Region.Mode) (ops : Array Oper) (n : Nat) : Prop :=
  ∀ (listed : Array Bool) (i : Nat), HeadInv md ops n listed → i < n → listed.getD i true = false → ∀ t, n ≤ t → t ∉ Region.ready md ops listed

/-- operation j stands behind operation i, by a chain of edges -/
inductive Desc (md : Region.Mode) (ops : Array Oper) (i : Nat) : Nat → Prop
  | one {j : Nat} {oj : Oper} {e : _} (hj : ops[j]? = some oj) (he : e ∈ oj.after) (hb : Region.binds md e = true) (h : e.on = i) : Desc md ops i j
  | step {j : Nat} {oj : Oper} {e : _} (hj : ops[j]? = some oj) (he : e ∈ oj.after) (hb : Region.binds md e = true) (h : Desc md ops i e.on) : Desc md ops i j

theorem Desc.unlisted {n i j : Nat} {listed : Array Bool} (h : Desc md ops i j) (inv : HeadInv md ops n listed) (hun : listed.getD i true = false) : ¬ listed.getD j false = true := by
  have hi := getD_both hun
  induction h with
  | one hj he hb h =>
    intro hl
    have := inv.closed _ _ hj hl _ he hb
    rw [h, hi] at this
    cases this
  | step hj he hb h ih =>
    intro hl
    exact ih (inv.closed _ _ hj hl _ he hb)

theorem Desc.waits {n i j : Nat} {listed : Array Bool} (h : Desc md ops i j) (inv : HeadInv md ops n listed) (hun : listed.getD i true = false) : j ∉ Region.ready md ops listed := by
  intro hr
  obtain ⟨_, oj, hoj, hall⟩ := mem_ready.1 hr
  cases h with
  | one hj he hb h =>
    rw [hj] at hoj
    cases hoj
    have := hall _ he hb
    rw [h, getD_both hun] at this
    cases this
  | step hj he hb h =>
    rw [hj] at hoj
    cases hoj
    exact h.unlisted inv hun (hall _ he hb)

/-- what stands behind operation i -/
def hitB (md : Region.Mode) (ops : Array Oper) (i : Nat) (D : List Nat) (j : Nat) : Bool := match ops[j]? with
  | some oj => oj.after.any (fun e => Region.binds md e && (e.on == i || D.contains e.on))
  | none => false
def descL (md : Region.Mode) (ops : Array Oper) (i : Nat) : List Nat :=
  (List.range ops.size).foldl (fun D j => bif hitB md ops i D j then j :: D else D) []

theorem hitB_spec {i j : Nat} {D : List Nat} (h : hitB md ops i D j = true) (hD : ∀ k ∈ D, Desc md ops i k) : Desc md ops i j := by
  unfold hitB at h
  split at h
  · rename_i oj hoj
    obtain ⟨e, he, hb⟩ := Array.any_eq_true'.1 h
    simp only [Bool.and_eq_true, Bool.or_eq_true, beq_iff_eq, List.contains_iff_mem] at hb
    rcases hb.2 with h | h
    · exact .one hoj he hb.1 h
    · exact .step hoj he hb.1 (hD _ h)
  · cases h

theorem descL_spec (i : Nat) : ∀ j ∈ descL md ops i, Desc md ops i j := by
  unfold descL
  have key : ∀ (l : List Nat) (D : List Nat), (∀ j ∈ D, Desc md ops i j) → ∀ j ∈ l.foldl (fun D j => bif hitB md ops i D j then j :: D else D) D, Desc md ops i j := by
    intro l
    induction l with
    | nil => exact fun D hD => hD
    | cons k r ih =>
      intro D hD
      simp only [List.foldl_cons]
      refine ih _ fun j hj => ?_
      cases hc : hitB md ops i D k with
      | true =>
        rw [hc] at hj
        simp only [cond_true] at hj
        rcases List.mem_cons.1 hj with rfl | hj
        · exact hitB_spec hc hD
        · exact hD j hj
      | false =>
        rw [hc] at hj
        exact hD j hj
  exact key _ [] fun j hj => by cases hj

theorem aAnyL_first {P : Program} {n i : Nat} {oi : Oper} {L : Array Bool → AState → Prop} (hLi : ∀ l, InvK (L l)) (hi : ops[i]? = some oi) (hw : Waits md ops n) (hin : i < n)
    (hdone : ∀ listed σ, L listed σ → ∀ j ∈ Region.ready md ops listed, n ≤ j) :
    ∀ (f : Nat) (listed : Array Bool) (σ : AState), HeadInv md ops n listed →
      (∀ j oj, ops[j]? = some oj → j ≠ i → listed.getD j true = false → ¬ Desc md ops i j → oi.apart ops oj = true ∧ (detB oi = true ∨ detB oj = true)) →
      i ∈ Region.ready md ops listed →
      astep P ops oi (aAnyL P md ops n L f (listed.setIfInBounds i true)) σ → aAnyL P md ops n L (f + 1) listed σ := by
  intro f
  induction f with
  | zero =>
    intro listed σ inv _ hr H
    have hun := (mem_ready.1 hr).1
    refine ⟨fun h => (by rw [h] at hr; cases hr), fun j hj => ?_⟩
    have hjn : j < n := by
      rcases Nat.lt_or_ge j n with h | h
      · exact h
      · exact absurd hj (hw listed i inv hin hun j h)
    refine ⟨hjn, ?_⟩
    by_cases hji : j = i
    · subst hji; unfold aOp; rw [hi]; exact H
    · obtain ⟨σ', hσ⟩ := astep_some H
      have := hdone _ _ hσ j (ready_mono hj hji)
      omega
  | succ f ih =>
    intro listed σ inv hfree hr H
    have hun := (mem_ready.1 hr).1
    refine ⟨fun h => (by rw [h] at hr; cases hr), fun j hj => ?_⟩
    have hjn : j < n := by
      rcases Nat.lt_or_ge j n with h | h
      · exact h
      · exact absurd hj (hw listed i inv hin hun j h)
    refine ⟨hjn, ?_⟩
    by_cases hji : j = i
    · subst hji; unfold aOp; rw [hi]; exact H
    · obtain ⟨hjun, oj, hoj, hall⟩ := mem_ready.1 hj
      have hnot : ¬ Desc md ops i j := fun h => h.waits inv hun hj
      have h1 : astep P ops oi (astep P ops oj (aAnyL P md ops n L f ((listed.setIfInBounds i true).setIfInBounds j true))) σ := astep_mono (fun σ' h' => by
        have := (h'.2 j (ready_mono hj hji)).2
        unfold aOp at this
        rw [hoj] at this
        exact this) H
      obtain ⟨hap, hdet⟩ := hfree j oj hoj hji hjun hnot
      have h2 := astep_comm (aAnyL_inv hLi f _) hap hdet h1
      have hfree' : ∀ k ok, ops[k]? = some ok → k ≠ i → (listed.setIfInBounds j true).getD k true = false →
          ¬ Desc md ops i k → oi.apart ops ok = true ∧ (detB oi = true ∨ detB ok = true) := fun k ok hk hki hun hno => by
        refine hfree k ok hk hki ?_ hno
        by_cases hjk : j = k
        · subst hjk; exact hjun
        · rw [getD_set_ne true hjk] at hun; exact hun
      unfold aOp
      rw [hoj]
      refine astep_mono (fun σ' h3 => ih (listed.setIfInBounds j true) σ' (inv.set hj hjn) hfree' (ready_mono hr (Ne.symm hji)) ?_) h2
      rw [Array.setIfInBounds_comm _ _ hji]
      exact h3

def freeC (md : Region.Mode) (ops : Array Oper) (listed : Array Bool) (i : Nat) : Bool :=
  match ops[i]? with
  | none => false
  | some oi => (List.range ops.size).all fun j => j == i || listed.getD j true || match ops[j]? with
      | some oj => (descL md ops i).contains j || (oi.apart ops oj && (detB oi || detB oj))
      | none => true

theorem freeC_spec {i : Nat} {oi : Oper} {listed : Array Bool} (hi : ops[i]? = some oi) (h : freeC md ops listed i = true) (j : Nat) (oj : Oper)
    (hj : ops[j]? = some oj) (hne : j ≠ i) (hun : listed.getD j true = false) (hno : ¬ Desc md ops i j) :
    oi.apart ops oj = true ∧ (detB oi = true ∨ detB oj = true) := by
  simp only [freeC, hi, List.all_eq_true, List.mem_range] at h
  have h1 := h j (Array.getElem?_eq_some_iff.1 hj).1
  simp only [hj, Bool.or_eq_true, beq_iff_eq, hne, false_or, hun, Bool.false_eq_true, Bool.and_eq_true] at h1
  rcases h1 with h1 | h1
  · exact absurd (descL_spec i j (by simpa using h1)) hno
  · exact h1

def lexHeadC (md : Region.Mode) (ops : Array Oper) (g : Nat) : Nat → Nat → Array Bool → Bool
  | 0, k, listed => Region.seqB md ops g k listed
  | f + 1, k, listed => (Region.ready md ops listed).contains k && freeC md ops listed k && lexHeadC md ops g f (k + 1) (listed.setIfInBounds k true)

/-- the first `n` operations may come in any order, the others come behind them, one after the other -/
def lexC (ops : Array Oper) (n : Nat) : Bool :=
  (decide (n = ops.size) || (decide (n < ops.size) && Region.sinkB .any ops n && Region.chainB .any ops n)) && lexHeadC .any ops (ops.size - n) n 0 (Array.replicate ops.size false)

theorem waits_of {n : Nat} (h : (decide (n = ops.size) || (decide (n < ops.size) && Region.sinkB md ops n && Region.chainB md ops n)) = true) : Waits md ops n := by
  intro listed i inv hin hun t ht hr
  simp only [Bool.or_eq_true, decide_eq_true_eq, Bool.and_eq_true] at h
  rcases h with h | ⟨⟨h1, h2⟩, h3⟩
  · obtain ⟨_, o, ho, _⟩ := mem_ready.1 hr
    have := (Array.getElem?_eq_some_iff.1 ho).1
    omega
  · exact tail_waits h2 h3 h1 inv _ i rfl hin hun t ht hr

theorem aAnyL_lex {P : Program} {n k : Nat} {Lq : AState → Prop} (hLq : InvK Lq) (hw : Waits md ops n) :
    ∀ (l : List Oper) (i : Nat) (listed : Array Bool) (σ : AState), (∀ j, j < l.length → l[j]? = ops[i + j]?) → i + l.length = n → HeadInv md ops n listed →
    lexHeadC md ops k l.length i listed = true → aList P ops Lq l σ →
    aAnyL P md ops n (fun listed' σ' => Region.seqB md ops k n listed' = true ∧ Lq σ') l.length listed σ
  | [], i, listed, σ, _, hk, _, hB, h => by
    have : i = n := by simpa using hk
    subst this
    exact ⟨by simpa [lexHeadC] using hB, h⟩
  | o :: l, i, listed, σ, hl, hk, inv, hB, h => by
    have h0 : ops[i]? = some o := by simpa using (hl 0 (by simp)).symm
    simp only [List.length_cons, lexHeadC, Bool.and_eq_true] at hB
    obtain ⟨⟨hr, hf⟩, hB'⟩ := hB
    have hkn : i < n := by simp only [List.length_cons] at hk; omega
    have hr' : i ∈ Region.ready md ops listed := by simpa using hr
    refine aAnyL_first (fun l => fun σ σ' he h => ⟨h.1, hLq _ _ he h.2⟩) h0 hw hkn (fun listed' σ' hL => seqB_ready hL.1) l.length listed σ inv (freeC_spec h0 hf) hr' ?_
    exact astep_mono (fun σ' h' => aAnyL_lex hLq hw l (i + 1) _ σ' (fun j hj => by have := hl (j + 1) (by simp; omega); simpa [Nat.add_assoc, Nat.add_comm 1 j] using this) (by simp only [List.length_cons] at hk; omega)
      (inv.set hr' hkn) hB' h') h

theorem Rep.drew {σ : AState} {a : Act} {w : World} (h : Rep X g σ a w) : Rep X g σ a { w with drawn := w.drawn + 1 } :=
  h.step (w' := { w with drawn := w.drawn + 1 }) ⟨rfl, rfl, rfl, Nat.le_refl _, fun _ _ _ => rfl⟩ h.rd

/-- A REGION THAT DRAWS ITS ORDER, by one walk in the order of the text -/
theorem wp_region_aDraw {id n : Nat} {l : List Oper} {T : AState → Prop} {Q : Exit → Act → World → Prop} {σ : AState} {a : Act} {w : World} (hm : X.P.follows .mixedOrders = true)
    (hB : lexC l.toArray n = true) (hd : ∀ o ∈ l, dstOk X.N o.dst = true) (h : Rep X g σ a w) (hs : aList X.P l.toArray T (l.take n) σ)
    (hT : ∀ σ' a' w', T σ' → Rep X g σ' a' w' → wpList X.P l.toArray Q (l.drop n) a' w') : (Code.region id l.toArray true).wp X.P Q a w := by
  simp only [lexC, Bool.and_eq_true] at hB
  obtain ⟨h0, hlex⟩ := hB
  have hw := waits_of h0
  have hn : n ≤ l.length := by
    simp only [Bool.or_eq_true, decide_eq_true_eq, Bool.and_eq_true, List.size_toArray] at h0
    omega
  have htl : (l.take n).length = n := by simp; omega
  have hdl : (l.drop n).length = l.toArray.size - n := by simp
  have inv0 : HeadInv .any l.toArray n (Array.replicate l.toArray.size false) :=
    ⟨by simp, fun j oj _ hl => (by rw [getD_replicate_false] at hl; cases hl), fun t _ ht => getD_in (by simpa using ht) (getD_replicate_false _ _)⟩
  let Lq : AState → Prop := fun σ => ∃ σ0, T σ0 ∧ Eqv σ0 σ
  have hLq : InvK Lq := fun σ σ' he ⟨σ0, h1, h2⟩ => ⟨σ0, h1, h2.trans he⟩
  have hs' : aList X.P l.toArray Lq (l.take n) σ := by
    have mono : ∀ (l' : List Oper) (σ : AState), aList X.P l.toArray T l' σ → aList X.P l.toArray Lq l' σ := by
      intro l'
      induction l' with
      | nil => exact fun σ h => ⟨σ, h, Eqv.refl σ⟩
      | cons o r ih => exact fun σ h => astep_mono ih h
    exact mono _ _ hs
  have H := aAnyL_lex (P := X.P) (md := .any) (k := l.toArray.size - n) hLq hw (l.take n) 0 _ σ (fun j hj => by
    have hj' : j < n := by rw [htl] at hj; exact hj
    simp [hj']) (by simpa using htl) inv0 (by rw [htl]; exact hlex) hs'
  refine wp_region_any hm ?_
  have hd' : ∀ (i : Nat) (o : Oper), l.toArray[i]? = some o → dstOk X.N o.dst = true := fun i o ho => hd o (List.mem_of_getElem? (by simpa using ho))
  have := wpAny_of_aHead (X := X) (g := g) (Q := Q) (k := l.toArray.size - n) hd' (fun listed σ' a' w' hL hr => by
    obtain ⟨hL1, σ0, hL2, hL3⟩ := hL
    have := wpAny_of_seq (md := .any) (Q' := Q) (l.drop n) n listed a' w' (fun j => by simp [List.getElem?_drop]) (by rw [hdl]; exact hL1) (hT σ0 a' w' hL2 (hr.eqv hL3.symm))
    rwa [hdl] at this) _ _ _ _ _ h.drew H
  rw [htl, show n + (l.toArray.size - n) = l.toArray.size by simp; omega] at this
  exact this
end

/-! ## operations that make or write memory -/

def AState.map (σ : AState) (f : AV → AV) : AState := ⟨σ.s.map fun p => (p.1, f p.2), σ.rd⟩

theorem get_map (σ : AState) (f : AV → AV) (hf : f .any = .any) (t : Nat) : (σ.map f).get t = f (σ.get t) := by
  unfold AState.map AState.get
  simp only
  generalize σ.s = l
  induction l with
  | nil => simp [hf]
  | cons p r ih =>
    obtain ⟨k, x⟩ := p
    simp only [List.map_cons, List.lookup]
    by_cases h : (t == k) = true
    · simp [h]
    · simp only [Bool.not_eq_true] at h
      simp only [h]
      exact ih

def AV.kill (d : Nat) (x : AV) : AV := if x.has d = true then .any else x

theorem kill_any (d : Nat) : AV.kill d .any = .any := rfl

def updO (own : Nat → Option Nat) (d : Nat) (b : Option Nat) : Nat → Option Nat := fun t => if t = d then b else own t

section
variable {X : Ctx} {g : Gh} {σ : AState} {a : Act} {w : World}

theorem Rep.remap' (h : Rep X g σ a w) {g' : Gh} {w' : World} {f : AV → AV} {C : Nat → Prop} {m : Nat} (hs : Step C w w') (hrho : g'.rho = g.rho) (hrs : g'.rs = g.rs) (hrb : g'.rb = g.rb)
    (hC : ∀ b, C b → (∃ d, g.own d = some b) ∨ g.rho = some b) (hrd : RdOk (Fb X g') w' g'.rho g'.rs g'.rb m)
    (hinj : ∀ d d' b, g'.own d = some b → g'.own d' = some b → d = d')
    (hnew : ∀ d b, g'.own d = some b → (X.w0.heap.size ≤ b ∨ X.H0 b) ∧ b < w'.heap.size ∧ g'.rho ≠ some b)
    (hf : f .any = .any) (hslot : ∀ x av, RepV X.P (Fb X g) g.own g.rho w x av → RepV X.P (Fb X g') g'.own g'.rho w' x (f av)) : Rep X g' ⟨(σ.map f).s, m⟩ a w' := by
  refine { size := h.size, defers := h.defers, frame := h.frame.trans hs fun b hb hE => ⟨hE, fun hc => ?_⟩, low := h.low, inj := hinj, new := hnew, rhoF := h.rhoF, rho := hrho ▸ h.rho, keep := fun hn => by rw [hrs, hrb]; exact h.keep hn, rd := hrd, rep := fun t => ?_, hH := h.hH, pin := h.pin }
  · rcases hC b hc with ⟨d, hd⟩ | hr
    · exact nw_ne (h.new d b hd).1 hb hE
    · rcases h.rho with e | ⟨_, hn⟩
      · exact hE (.inl (e ▸ hr))
      · exact nw_ne (hn b hr) hb hE
  · show RepV _ _ _ _ _ _ ((σ.map f).get t)
    rw [get_map σ f hf]
    exact hslot _ _ (h.rep t)

theorem Rep.remap (h : Rep X g σ a w) {g' : Gh} {w' : World} {f : AV → AV} {C : Nat → Prop} (hs : Step C w w') (hrho : g'.rho = g.rho) (hrs : g'.rs = g.rs) (hrb : g'.rb = g.rb)
    (hC : ∀ b, C b → ∃ d, g.own d = some b) (hF : ∀ b, b < w.heap.size → Fb X g' b → Fb X g b)
    (hinj : ∀ d d' b, g'.own d = some b → g'.own d' = some b → d = d')
    (hnew : ∀ d b, g'.own d = some b → (X.w0.heap.size ≤ b ∨ X.H0 b) ∧ b < w'.heap.size ∧ g'.rho ≠ some b)
    (hf : f .any = .any) (hslot : ∀ x av, RepV X.P (Fb X g) g.own g.rho w x av → RepV X.P (Fb X g') g'.own g'.rho w' x (f av)) : Rep X g' (σ.map f) a w' := by
  have hCF : ∀ b, b < w.heap.size → C b → Fb X g b := fun b _ hb => .inr (.inl (hC b hb))
  refine h.remap' (m := σ.rd) hs hrho hrs hrb (fun b hb => .inl (hC b hb)) (fun β hβ => ?_) hinj hnew hf hslot
  rw [hrho] at hβ
  obtain ⟨⟨p, ty, h1, h2, h3⟩, h4, h5⟩ := h.rd β hβ
  rw [hrs, hrb]
  refine ⟨⟨p, ty, (hs.block β (Array.getElem?_eq_some_iff.1 h1).1 fun hc => ?_).trans h1, h2, h3⟩, h4.step hs hF hCF, h5⟩
  obtain ⟨d, hd⟩ := hC β hc
  exact (h.new d β hd).2.2 hβ

/-- a new block, owned under the id `d` -/
theorem Rep.allocO (h : Rep X g σ a w) (d : Nat) (ob : Obj) :
    Rep X { g with own := updO g.own d (some w.heap.size) } (σ.map (AV.kill d)) a (w.alloc ob) := by
  have hst : Step (fun _ => False) w (w.alloc ob) := ⟨rfl, rfl, rfl, by simp, fun b hb _ => Below.heap_alloc w _ b hb⟩
  have hF : ∀ b, b < w.heap.size → Fb X { g with own := updO g.own d (some w.heap.size) } b → Fb X g b := by
    intro b hb hf
    rcases hf with hf | ⟨d', hd'⟩ | hf
    · exact .inl hf
    · simp only [updO] at hd'
      split at hd'
      · simp only [Option.some.injEq] at hd'; omega
      · exact .inr (.inl ⟨d', hd'⟩)
    · exact .inr (.inr hf)
  refine h.remap hst rfl rfl rfl (fun _ hc => hc.elim) hF (fun d1 d2 b h1 h2 => ?_) (fun d1 b h1 => ?_) rfl (fun x av hx => ?_)
  · simp only [updO] at h1 h2
    split at h1 <;> split at h2
    · omega
    · simp only [Option.some.injEq] at h1; have := (h.new d2 b h2).2.1; omega
    · simp only [Option.some.injEq] at h2; have := (h.new d1 b h1).2.1; omega
    · exact h.inj d1 d2 b h1 h2
  · simp only [updO] at h1
    split at h1
    · simp only [Option.some.injEq] at h1
      subst h1
      refine ⟨.inl h.frame.size, by simp, fun e => ?_⟩
      have := h.Flt (.inr (.inr e))
      omega
    · obtain ⟨h2, h3, h4⟩ := h.new d1 b h1
      exact ⟨h2, by simp; omega, h4⟩
  · unfold AV.kill
    split
    · trivial
    · rename_i hh
      exact hx.step hst hF (fun _ _ hc => hc.elim) (fun d' hd' => ⟨by simp only [updO]; exact if_neg (fun e => by subst e; exact hh hd'), fun _ _ hc => hc⟩) rfl

theorem Rep.alloc (h : Rep X g σ a w) (d : Nat) (arr : Array Value) (ty : TypeId) :
    Rep X { g with own := updO g.own d (some w.heap.size) } (σ.map (AV.kill d)) a (w.alloc (.cells arr ty)) := h.allocO d _

def mapT (P : Program) (t : TypeId) : Bool := match P.underlying t with
  | some (.map k e) => (match P.underlying k with | some .string => true | _ => false) && (match P.underlying e with | some .bool => true | _ => false) &&
      (match (P.info? e).bind (·.zero) with | some (.bool false) => true | _ => false)
  | _ => false

theorem mapT_spec {P : Program} {t : TypeId} (h : mapT P t = true) (w : World) : MpR P (w.alloc (.map #[] 0)) t w.heap.size [] := by
  unfold mapT at h
  split at h
  · rename_i k e ht
    simp only [Bool.and_eq_true] at h
    obtain ⟨⟨h1, h2⟩, h3⟩ := h
    have k1 : P.underlying k = some .string := by revert h1; split <;> simp_all
    have k2 : P.underlying e = some .bool := by revert h2; split <;> simp_all
    refine ⟨k, e, ht, k1, k2, fun w' => ?_, .map [], World.ownsMap_made w P k _, fun l => rfl⟩
    split at h3
    · rename_i hz
      cases hi : P.info? e with
      | none => simp [hi] at hz
      | some i => simp [hi] at hz; simp [zeroValue, typeInfo, hi, hz]
    · cases h3
  · cases h

/-- the cells of a value that is put into a new variable -/
def boxCells : AV → Option (List A0)
  | .v (.agg cs) => if cs.toList.all (·.oneCell') then some (cs.toList.map .v) else none
  | .v (.tuple _) => none
  | .v x => some [.v x]
  | .sl k vs => some [.sl k vs]
  | .agg xs => if xs.all (fun | .v y => y.oneCell' | .sl _ _ => true) then some xs else none
  | _ => none

theorem boxCells_sound {P : Program} {F : Nat → Prop} {own : Nat → Option Nat} {rho : Option Nat} {x : Value} {av : AV} {cells : List A0} (h : RepV P F own rho w x av) (hc : boxCells av = some cells) :
    x.cells.size = cells.length ∧ (∀ c ∈ x.cells.toList, c.oneCell' = true) ∧ ∀ (i : Nat) c, cells[i]? = some c → ∃ y : Value, x.cells[i]? = some y ∧ RepA F w y c := by
  unfold boxCells at hc
  split at hc
  · rename_i cs
    split at hc
    · rename_i hall
      simp only [Option.some.injEq] at hc
      subst hc
      simp only [RepV] at h
      subst h
      refine ⟨by simp [Value.cells], fun c hc => List.all_eq_true.1 hall c (by simpa [Value.cells] using hc), fun i c hi => ?_⟩
      simp only [List.getElem?_map, Option.map_eq_some_iff] at hi
      obtain ⟨y, hy, rfl⟩ := hi
      exact ⟨y, by simpa [Value.cells] using hy, rfl⟩
    · cases hc
  · cases hc
  · rename_i y h1 h2
    simp only [Option.some.injEq] at hc
    subst hc
    simp only [RepV] at h
    subst h
    have hy : x.cells = #[x] := by
      cases x <;> first | rfl | exact absurd rfl (h1 _)
    have hone : x.oneCell' = true := by
      cases x <;> first | rfl | exact absurd rfl (h1 _) | exact absurd rfl (h2 _)
    refine ⟨by rw [hy]; rfl, fun c hc => by rw [hy] at hc; simp at hc; rw [hc]; exact hone, fun i c hi => ?_⟩
    cases i with
    | zero => simp at hi; subst hi; exact ⟨x, by rw [hy]; rfl, rfl⟩
    | succ i => simp at hi
  · rename_i k vs
    simp only [Option.some.injEq] at hc
    subst hc
    obtain ⟨b, cap, rfl, hr⟩ := h
    refine ⟨rfl, fun c hc => by simp [Value.cells] at hc; subst hc; rfl, fun i c hi => ?_⟩
    cases i with
    | zero => simp at hi; subst hi; exact ⟨_, rfl, b, cap, rfl, hr⟩
    | succ i => simp at hi
  · rename_i xs
    split at hc
    · rename_i hall
      simp only [Option.some.injEq] at hc
      subst hc
      obtain ⟨ys, rfl, hsz, hr⟩ := h
      refine ⟨hsz, fun c hc => ?_, hr⟩
      obtain ⟨i, hi0, rfl⟩ := List.getElem_of_mem hc
      have hi : i < ys.size := by simpa only [Value.cells, Array.length_toList] using hi0
      have hx : xs[i]? = some (xs[i]'(by omega)) := List.getElem?_eq_getElem _
      obtain ⟨y, hy, hyr⟩ := hr i _ hx
      have he : (Value.agg ys).cells.toList[i]'hi0 = y := by
        simp only [Value.cells, Array.getElem_toList]
        exact (Array.getElem?_eq_some_iff.1 hy).2
      rw [he]
      have ha := List.all_eq_true.1 hall _ (List.getElem_mem (l := xs) (n := i) (by omega))
      generalize xs[i]'(by omega) = c at ha hyr
      cases c with
      | v z => simp only [RepA] at hyr; subst hyr; exact ha
      | sl k vs => obtain ⟨b, cap, rfl, _⟩ := hyr; rfl
    · cases hc
  · cases hc

/-- parts of a structure, cell by cell -/
def partsA (ρ : Operand → AV) : List (Nat × Operand) → Option (List (Nat × List A0))
  | [] => some []
  | (i, x) :: r => match boxCells (ρ x), partsA ρ r with
    | some y, some ys => some ((i, y) :: ys)
    | _, _ => none

def fillA (places : List (Nat × Nat)) : List A0 → List (Nat × List A0) → Option (List A0)
  | cells, [] => some cells
  | cells, (i, xs) :: rest => match places[i]? with
    | some (off, size) => if xs.length = size ∧ off + size ≤ cells.length then fillA places (cells.take off ++ xs ++ cells.drop (off + xs.length)) rest else none
    | none => none

theorem fillA_sound {P : Program} {F : Nat → Prop} {own : Nat → Option Nat} {rho : Option Nat} {ev : Operand → Value} {ρ : Operand → AV} (places : List (Nat × Nat)) : ∀ (parts : List (Nat × Operand)) (ps : List (Nat × List A0)) (cells : List Value) (ac out : List A0),
    (∀ p ∈ parts, RepV P F own rho w (ev p.2) (ρ p.2)) → partsA ρ parts = some ps → fillA places ac ps = some out →
    cells.length = ac.length → (∀ (i : Nat) c, ac[i]? = some c → ∃ y : Value, cells[i]? = some y ∧ RepA F w y c) →
    ∃ o, bfill places cells (parts.map fun p => (p.1, ev p.2)) = some o ∧ o.length = out.length ∧ ∀ (i : Nat) c, out[i]? = some c → ∃ y : Value, o[i]? = some y ∧ RepA F w y c
  | [], ps, cells, ac, out, _, hp, hf, hl, hc => by
    simp only [partsA, Option.some.injEq] at hp
    subst hp
    simp only [fillA, Option.some.injEq] at hf
    subst hf
    exact ⟨cells, rfl, hl, hc⟩
  | (i, x) :: r, ps, cells, ac, out, hv, hp, hf, hl, hc => by
    simp only [partsA] at hp
    split at hp
    · rename_i y ys h1 h2
      simp only [Option.some.injEq] at hp
      subst hp
      simp only [fillA] at hf
      split at hf
      · rename_i off size hpl
        split at hf
        · rename_i hfit
          obtain ⟨b1, b2, b3⟩ := boxCells_sound (hv (i, x) List.mem_cons_self) h1
          have hlen : (ev x).cells.toList.length = y.length := by simpa using b1
          refine fillA_sound places r ys (bset cells off (ev x).cells.toList) _ out (fun p hp => hv p (List.mem_cons_of_mem _ hp)) h2 hf ?_ ?_ |>.imp fun o ho => ⟨?_, ho.2⟩
          · simp only [bset, List.length_append, List.length_take, List.length_drop, hlen]; omega
          · intro j c hj
            have g1 := fun h => (hl ▸ h : off + y.length ≤ cells.length)
            have hfy : off + y.length ≤ ac.length := by omega
            have hg : ∀ {α : Type} (cur xs : List α), off + xs.length ≤ cur.length → ∀ i : Nat, (cur.take off ++ xs ++ cur.drop (off + xs.length))[i]? = if i < off then cur[i]? else if i < off + xs.length then xs[i - off]? else cur[i]? := by
              intro α cur xs h i
              simp only [List.append_assoc, List.getElem?_append, List.length_take, Nat.min_eq_left (show off ≤ cur.length by omega), List.getElem?_take, List.getElem?_drop]
              split
              · rfl
              · split
                · rw [if_pos (by omega)]
                · rw [if_neg (by omega)]; congr 1; omega
            rw [hg _ _ hfy] at hj
            unfold bset
            rw [hg _ _ (by omega), hlen]
            split at hj
            · rename_i hlt; rw [if_pos hlt]; exact hc j c hj
            · rename_i hlt
              rw [if_neg hlt]
              split at hj
              · rename_i hlt2
                rw [if_pos hlt2]
                obtain ⟨z, hz, hr⟩ := b3 _ c hj
                exact ⟨z, by simpa using hz, hr⟩
              · rename_i hlt2; rw [if_neg hlt2]; exact hc j c hj
          · simp only [List.map_cons, bfill, hpl]
            have hsz : (ev x).cells.size = size ∧ off + size ≤ cells.length := by
              have : (ev x).cells.toList.length = (ev x).cells.size := Array.length_toList
              omega
            rw [if_pos hsz]
            exact ho.1
        · cases hf
      · cases hf
    · cases hp

theorem RepA.kept {F F' : Nat → Prop} {w' : World} {C : Nat → Prop} {y : Value} {c : A0} (h : RepA F w y c) (hs : Step C w w') (hF : ∀ b, b < w.heap.size → F' b → F b) (hC : ∀ b, b < w.heap.size → C b → F b) : RepA F' w' y c :=
  h.step hs hF hC

theorem Rep.box (h : Rep X g σ a w) {d : Nat} (hd : slotOk X.N d = true) {arr : Array Value} {ty : TypeId} {cells : List A0} (hsz : arr.size = cells.length)
    (hc : ∀ (i : Nat) c, cells[i]? = some c → ∃ y : Value, arr[i]? = some y ∧ RepA (Fb X g) w y c) :
    Rep X { g with own := updO g.own d (some w.heap.size) } ((σ.map (AV.kill d)).put (some d) (.bx d cells 0)) (a.put (some d) (.pointer (some ⟨w.heap.size, 0, none⟩))) (w.alloc (.cells arr ty)) := by
  have h' := h.alloc d arr ty
  refine h'.put (by simpa [dstOk] using hd) ⟨w.heap.size, arr, ty, by simp [updO], rfl, Go.heap_alloc_new w _, hsz, fun i c hi => ?_⟩
  obtain ⟨y, hy, hr⟩ := hc i c hi
  refine ⟨y, hy, hr.step (C := fun _ => False) ⟨rfl, rfl, rfl, by simp, fun b hb _ => Below.heap_alloc w _ b hb⟩ (fun b hb hf => ?_) (fun _ _ hc => hc.elim)⟩
  rcases hf with hf | ⟨d', hd'⟩ | hf
  · exact .inl hf
  · simp only [updO] at hd'
    split at hd'
    · simp only [Option.some.injEq] at hd'; omega
    · exact .inr (.inl ⟨d', hd'⟩)
  · exact .inr (.inr hf)

/-! ### stores -/

def spliceA (cells : List A0) (off : Nat) (xs : List A0) : List A0 := cells.take off ++ xs ++ cells.drop (off + xs.length)

/-- the box `d` holds `cells` now -/
def AV.updB (d : Nat) (cells : List A0) : AV → AV
  | .bx d' cs off => if d' = d then .bx d cells off else .bx d' cs off
  | x => x.kill d

theorem updB_any (d : Nat) (cells : List A0) : AV.updB d cells .any = .any := rfl

/-- the row `d`, of `n` elements, holds `vs` now -/
def AV.updM (d : Nat) (t : TypeId) (ks : List (List UInt8)) : AV → AV
  | .mp d' t' ks' => if d' = d then (if t' = t then .mp d t ks else .any) else .mp d' t' ks'
  | x => x.kill d

def AV.updR (d n : Nat) (vs : List Value) : AV → AV
  | .own d' e vs' => if d' = d then (if vs'.length = n then .own d e vs else .any) else .own d' e vs'
  | x => x.kill d

theorem storeVar_run {P : Program} {t : TypeId} {w : World} {b off : Nat} {v : Value} {cur : Array Value} {ty : TypeId} (hsz : P.underlying t ≠ none) (hn : v.cells.size = P.cellsOf t)
    (hg : w.heap[b]? = some (.cells cur ty (0, 0))) (hfit : off + v.cells.size ≤ cur.size) (h1 : ∀ c ∈ v.cells.toList, c.oneCell' = true) :
    (Instr.storeAt t (.pointer (some ⟨b, off, none⟩)) v).run P w = .ok () (w.setRow b (cur.toList.take off ++ v.cells.toList ++ cur.toList.drop (off + v.cells.size)).toArray) := by
  have := run_storeCells_at P b off ty v.cells.toList 0 cur w hg (by simpa using hfit) h1
  simp only [Nat.add_zero, Array.length_toList] at this
  simp only [Instr.storeAt, Instr.sureAddr, storeVar, Sem.run_bind, Sem.run_pure, Result.andThen_ok, run_sizeOf hsz, hn, ne_eq, not_true_eq_false, if_false]
  rw [this, hn]

theorem Rep.mapUp {X : Ctx} {g : Gh} {σ : AState} {a : Act} {w : World} (h : Rep X g σ a w) {d : Nat} {t : TypeId} {ks : List (List UInt8)} {x : Value} (hx : RepV X.P (Fb X g) g.own g.rho w x (.mp d t ks))
    {s : ByteArray} (hs : s.data.toList.length ≤ 2000000) (hk : ks.length < 2000000) :
    ∃ w', (Instr.mapUpdate t x (.string s) (.bool true)).run X.P w = .ok () w' ∧ Rep X g (σ.map (AV.updM d t (s.data.toList :: ks))) a w' := by
  obtain ⟨b, hg, rfl, hm⟩ := hx
  obtain ⟨W, hrun, hm2, hst⟩ := hm.put hs hk
  refine ⟨W, hrun, ?_⟩
  have hCF : ∀ b', b' < w.heap.size → b' = b → Fb X g b' := fun b' _ e => .inr (.inl ⟨d, e ▸ hg⟩)
  refine h.remap hst rfl rfl rfl (fun b' e => ⟨d, e ▸ hg⟩) (fun _ _ hf => hf) h.inj (fun d' b' hd' => ?_) rfl (fun y av hy => ?_)
  · obtain ⟨h2, h3, h4⟩ := h.new d' b' hd'
    exact ⟨h2, Nat.lt_of_lt_of_le h3 hst.size, h4⟩
  · have other : av.has d = false → RepV X.P (Fb X g) g.own g.rho W y av := fun hh =>
      hy.step hst (fun _ _ hf => hf) hCF (fun d' hd' => ⟨rfl, fun b' hb' e => by
        subst e
        have := h.inj d' d b' hb' hg
        subst this
        rw [hh] at hd'
        cases hd'⟩) rfl
    cases av
    case mp d' t' ks' =>
      simp only [AV.updM]
      split
      · rename_i e
        subst e
        split
        · rename_i e2
          subst e2
          obtain ⟨b', hg', rfl, _⟩ := hy
          rw [hg] at hg'
          have : b = b' := by simpa using hg'
          subst this
          exact ⟨b, hg, rfl, hm2⟩
        · trivial
      · rename_i hne
        exact other (by simpa [AV.has] using hne)
    all_goals
      simp only [AV.updM, AV.kill]
      split
      · trivial
      · rename_i hh; exact other (by simpa using hh)

theorem get_splice {α : Type} (cur : List α) (off : Nat) (xs : List α) (h : off + xs.length ≤ cur.length) (i : Nat) :
    (cur.take off ++ xs ++ cur.drop (off + xs.length))[i]? = if i < off then cur[i]? else if i < off + xs.length then xs[i - off]? else cur[i]? := by
  simp only [List.append_assoc, List.getElem?_append, List.length_take, Nat.min_eq_left (show off ≤ cur.length by omega), List.getElem?_take, List.getElem?_drop]
  split
  · rfl
  · split
    · rw [if_pos (by omega)]
    · rw [if_neg (by omega)]; congr 1; omega

theorem Rep.storeB (h : Rep X g σ a w) {d : Nat} {cells xs : List A0} {off : Nat} {x v : Value} {t : TypeId} (hx : RepV X.P (Fb X g) g.own g.rho w x (.bx d cells off))
    (ht : X.P.underlying t ≠ none) (hn : xs.length = X.P.cellsOf t) (hfit : off + xs.length ≤ cells.length)
    (hv : v.cells.size = xs.length) (h1 : ∀ c ∈ v.cells.toList, c.oneCell' = true) (hvc : ∀ (i : Nat) c, xs[i]? = some c → ∃ y : Value, v.cells[i]? = some y ∧ RepA (Fb X g) w y c) :
    ∃ w', (Instr.storeAt t x v).run X.P w = .ok () w' ∧ Rep X g (σ.map (AV.updB d (spliceA cells off xs))) a w' := by
  obtain ⟨b, arr, ty, hg, rfl, hh, hsz, hc⟩ := hx
  have hrun := storeVar_run (P := X.P) (t := t) (off := off) (v := v) ht (by omega) hh (by omega) h1
  have hWb := setRow_heap w b arr (arr.toList.take off ++ v.cells.toList ++ arr.toList.drop (off + v.cells.size)).toArray ty (0, 0) hh
  have hst : Step (fun b' => b' = b) w (w.setRow b (arr.toList.take off ++ v.cells.toList ++ arr.toList.drop (off + v.cells.size)).toArray) :=
    ⟨rfl, rfl, rfl, by simp [World.setRow], fun b' hb' hne => setRow_other w b b' _ hne⟩
  have hget : ∀ i : Nat, (arr.toList.take off ++ v.cells.toList ++ arr.toList.drop (off + v.cells.size)).toArray[i]? = if i < off then arr[i]? else if i < off + xs.length then v.cells[i - off]? else arr[i]? := by
    intro i
    have := get_splice arr.toList off v.cells.toList (by simp; omega) i
    simp only [Array.length_toList, hv, Array.getElem?_toList] at this
    rw [List.getElem?_toArray, hv, this]
  have hsize : (arr.toList.take off ++ v.cells.toList ++ arr.toList.drop (off + v.cells.size)).toArray.size = arr.size := by simp; omega
  generalize w.setRow b (arr.toList.take off ++ v.cells.toList ++ arr.toList.drop (off + v.cells.size)).toArray = W at hrun hWb hst
  generalize (arr.toList.take off ++ v.cells.toList ++ arr.toList.drop (off + v.cells.size)).toArray = arr2 at hWb hget hsize
  refine ⟨W, hrun, ?_⟩
  have hCF : ∀ b', b' < w.heap.size → b' = b → Fb X g b' := fun b' _ e => .inr (.inl ⟨d, e ▸ hg⟩)
  have hnewc : ∀ (i : Nat) c, (spliceA cells off xs)[i]? = some c → ∃ y : Value, arr2[i]? = some y ∧ RepA (Fb X g) W y c := by
    intro i c hi
    rw [hget]
    unfold spliceA at hi
    rw [get_splice _ _ _ hfit] at hi
    have hstepA : ∀ {y c}, RepA (Fb X g) w y c → RepA (Fb X g) W y c := fun hr => hr.step hst (fun _ _ hf => hf) hCF
    split at hi
    · rename_i h2
      obtain ⟨y, hy, hr⟩ := hc i c hi
      exact ⟨y, by rw [if_pos h2]; exact hy, hstepA hr⟩
    · rename_i h2
      split at hi
      · rename_i h3
        obtain ⟨y, hy, hr⟩ := hvc _ c hi
        exact ⟨y, by rw [if_neg h2, if_pos h3]; exact hy, hstepA hr⟩
      · rename_i h3
        obtain ⟨y, hy, hr⟩ := hc i c hi
        exact ⟨y, by rw [if_neg h2, if_neg h3]; exact hy, hstepA hr⟩
  refine h.remap hst rfl rfl rfl (fun b' e => ⟨d, e ▸ hg⟩) (fun _ _ hf => hf) h.inj (fun d' b' hd' => ?_) rfl (fun y av hy => ?_)
  · obtain ⟨h2, h3, h4⟩ := h.new d' b' hd'
    exact ⟨h2, Nat.lt_of_lt_of_le h3 hst.size, h4⟩
  · have other : av.has d = false → RepV X.P (Fb X g) g.own g.rho W y av := fun hh =>
      hy.step hst (fun _ _ hf => hf) hCF (fun d' hd' => ⟨rfl, fun b' hb' e => by
        subst e
        have := h.inj d' d b' hb' hg
        subst this
        rw [hh] at hd'
        cases hd'⟩) rfl
    cases av
    case bx d' cs o =>
      simp only [AV.updB]
      split
      · rename_i e
        subst e
        obtain ⟨b', arr', ty', hg', rfl, hh', hsz', hc'⟩ := hy
        rw [hg] at hg'
        have : b = b' := by simpa using hg'
        subst this
        rw [hh] at hh'
        simp only [Option.some.injEq, Obj.cells.injEq] at hh'
        obtain ⟨rfl, rfl, _⟩ := hh'
        refine ⟨b, arr2, ty, hg, rfl, hWb, ?_, hnewc⟩
        rw [hsize]
        simp [spliceA]
        omega
      · rename_i hne
        exact other (by simpa [AV.has] using hne)
    all_goals
      simp only [AV.updB, AV.kill]
      split
      · trivial
      · rename_i hh; exact other (by simpa using hh)
end

section
variable {X : Ctx} {g : Gh} {σ : AState} {a : Act} {w : World}

/-- the element `x` with the cells `xs` from `off` on -/
def repl (x : Value) (off : Nat) (xs : List Value) : Value := match x with
  | .agg cs => .agg (cs.toList.take off ++ xs ++ cs.toList.drop (off + xs.length)).toArray
  | y => match xs with
    | [z] => z
    | _ => y

theorem repl_cells {k : Nat} {x : Value} {off : Nat} {xs : List Value} (hx : EltOk k x) (hfit : off + xs.length ≤ k) (hpos : 0 < xs.length) (h1 : ∀ c ∈ xs, c.oneCell' = true) :
    (repl x off xs).cells.toList = x.cells.toList.take off ++ xs ++ x.cells.toList.drop (off + xs.length) := by
  obtain ⟨hk, hone⟩ := hx
  have scalar : ∀ y : Value, y.cells = #[y] → x = y → (∀ z, xs = [z] → (repl y off xs) = z) → (repl y off xs).cells.toList = y.cells.toList.take off ++ xs ++ y.cells.toList.drop (off + xs.length) := by
    intro y hy hxy hr
    rw [hxy, hy] at hk
    have hk1 : k = 1 := by simpa using hk.symm
    have hlen : xs.length = 1 := by omega
    obtain ⟨z, rfl⟩ : ∃ z, xs = [z] := List.length_eq_one_iff.1 hlen
    have hoff : off = 0 := by simp at hfit; omega
    subst hoff
    rw [hr z rfl, hy]
    have hz : z.oneCell' = true := h1 z (by simp)
    have : z.cells = #[z] := by cases z <;> first | rfl | (simp [Value.oneCell'] at hz)
    rw [this]; rfl
  cases x
  case agg cs => simp [repl, Value.cells]
  all_goals exact scalar _ rfl rfl (fun z hz => by subst hz; rfl)

theorem flat_set {k : Nat} : ∀ (vs : List Value) (i : Nat) (x y : Value), (∀ z ∈ vs, EltOk k z) → vs[i]? = some x → y.cells.size = k →
    flat (vs.set i y) = (flat vs).take (i * k) ++ y.cells.toList ++ (flat vs).drop (i * k + k)
  | [], i, x, y, _, hi, _ => by simp at hi
  | z :: vs, i, x, y, h, hi, hy => by
    have hz : z.cells.toList.length = k := by rw [Array.length_toList]; exact (h z List.mem_cons_self).1
    cases i with
    | zero =>
      simp only [List.set_cons_zero, flat, List.flatMap_cons, Nat.zero_mul, List.take_zero, List.nil_append, Nat.zero_add]
      rw [List.drop_append_of_le_length (by omega), List.drop_of_length_le (by omega), List.nil_append]
    | succ i =>
      have ih := flat_set vs i x y (fun z hz => h z (List.mem_cons_of_mem _ hz)) (by simpa using hi) hy
      simp only [List.set_cons_succ, flat, List.flatMap_cons] at ih ⊢
      generalize hR : List.flatMap (fun x : Value => x.cells.toList) vs = R at ih ⊢
      generalize hZ : z.cells.toList = Z at hz ⊢
      subst hz
      rw [ih, show (i + 1) * Z.length = Z.length + i * Z.length by rw [Nat.add_mul]; omega, List.take_length_add_append, Nat.add_assoc, List.drop_length_add_append]
      simp only [List.append_assoc]

theorem Rep.storeR (h : Rep X g σ a w) {d e i off : Nat} {vs xs : List Value} {x v : Value} {t : TypeId} (hx : RepV X.P (Fb X g) g.own g.rho w x (.ep d e vs i off))
    (ht : X.P.underlying t ≠ none) (hn : xs.length = X.P.cellsOf t) (hpos : 0 < xs.length) (hfit : off + xs.length ≤ X.P.cellsOf e) (hv : v.cells.toList = xs) (h1 : ∀ c ∈ xs, c.oneCell' = true) :
    ∃ w', (Instr.storeAt t x v).run X.P w = .ok () w' ∧ Rep X g (σ.map (AV.updR d vs.length (vs.set i (repl (elt vs i) off xs)))) a w' := by
  obtain ⟨b, x', hg, hob, ⟨hel, hrow⟩, hi, rfl⟩ := hx
  rcases hrow with ⟨rfl, _⟩ | ⟨b', hg', hob', hrow⟩
  · simp [Value.ownBlock] at hob
  rw [hg] at hg'
  have hbb : b = b' := by simpa using hg'
  subst hbb
  rcases hrow.2 with ⟨_, h0⟩ | ⟨b', cap, cur, rfl, _, hh, hc1, hc2, hc3, hc4⟩
  · omega
  have hbb : b' = b := by simpa [Value.ownBlock] using hob
  subst hbb
  have hxel := hel _ (List.mem_of_getElem? (elt_of hi))
  have hvsz : v.cells.size = xs.length := by rw [← hv, Array.length_toList]
  have hik : i * X.P.cellsOf e + X.P.cellsOf e ≤ vs.length * X.P.cellsOf e := by
    rw [← Nat.succ_mul]; exact Nat.mul_le_mul_right _ hi
  have hcap : vs.length * X.P.cellsOf e ≤ cap * X.P.cellsOf e := Nat.mul_le_mul_right _ hc1
  have hrun := storeVar_run (P := X.P) (t := t) (off := i * X.P.cellsOf e + off) (v := v) ht (by omega) hh (by omega) (fun c hc => h1 c (by rw [← hv]; exact hc))
  have hWb := setRow_heap w b' cur (cur.toList.take (i * X.P.cellsOf e + off) ++ v.cells.toList ++ cur.toList.drop (i * X.P.cellsOf e + off + v.cells.size)).toArray e (0, 0) hh
  have hst : Step (fun z => z = b') w (w.setRow b' (cur.toList.take (i * X.P.cellsOf e + off) ++ v.cells.toList ++ cur.toList.drop (i * X.P.cellsOf e + off + v.cells.size)).toArray) :=
    ⟨rfl, rfl, rfl, by simp [World.setRow], fun z hz hne => setRow_other w b' z _ hne⟩
  have hnew : ∀ z ∈ vs.set i (repl (elt vs i) off xs), EltOk (X.P.cellsOf e) z := by
    intro z hz
    rcases List.mem_or_eq_of_mem_set hz with hz | rfl
    · exact hel z hz
    · have hrc := repl_cells hxel hfit hpos h1
      refine ⟨?_, fun c hc => ?_⟩
      · rw [← Array.length_toList, hrc]
        have := hxel.1
        simp; omega
      · rw [hrc] at hc
        simp only [List.mem_append] at hc
        rcases hc with (hc | hc) | hc
        · exact hxel.2 c (List.mem_of_mem_take hc)
        · exact h1 c hc
        · exact hxel.2 c (List.mem_of_mem_drop hc)
  have hlenflat : (flat vs).length = vs.length * X.P.cellsOf e := flat_length vs hel
  have hrowcells : (cur.toList.take (i * X.P.cellsOf e + off) ++ v.cells.toList ++ cur.toList.drop (i * X.P.cellsOf e + off + v.cells.size)).toArray.toList.take (vs.length * X.P.cellsOf e) =
      flat (vs.set i (repl (elt vs i) off xs)) := by
    have hset := flat_set vs i _ (repl (elt vs i) off xs) hel (elt_of hi) (hnew _ (by
      rw [List.mem_iff_getElem?]; exact ⟨i, by simp [hi]⟩)).1
    rw [hset, repl_cells hxel hfit hpos h1]
    simp only [hvsz, hv]
    -- the cells, one by one
    apply List.ext_getElem?
    intro j
    have hL : (i * X.P.cellsOf e + off + xs.length) ≤ cur.toList.length := by simp; omega
    rw [List.getElem?_take, get_splice _ _ _ hL]
    have hflat : ∀ m : Nat, (flat vs)[m]? = if m < vs.length * X.P.cellsOf e then cur.toList[m]? else none := by
      intro m
      rw [← hc4, List.getElem?_take]
    have hcell : ∀ m : Nat, m < X.P.cellsOf e → (elt vs i).cells.toList[m]? = cur.toList[i * X.P.cellsOf e + m]? := by
      intro m hm
      have hsz := hxel.1
      have hm' : m < (elt vs i).cells.size := by omega
      have := flat_get vs hel i _ (elt_of hi) m _ (Array.getElem?_eq_getElem hm')
      rw [hflat, if_pos (by omega)] at this
      rw [this, Array.getElem?_toList]
      simp [hm']
    have hxl : (elt vs i).cells.toList.length = X.P.cellsOf e := by rw [Array.length_toList]; exact hxel.1
    have hsp : ∀ m : Nat, ((elt vs i).cells.toList.take off ++ xs ++ (elt vs i).cells.toList.drop (off + xs.length))[m]? = if m < off then (elt vs i).cells.toList[m]? else if m < off + xs.length then xs[m - off]? else (elt vs i).cells.toList[m]? := fun m => get_splice _ _ _ (by omega) m
    have hspl : ((elt vs i).cells.toList.take off ++ xs ++ (elt vs i).cells.toList.drop (off + xs.length)).length = X.P.cellsOf e := by have := hxel.1; simp; omega
    generalize ((elt vs i).cells.toList.take off ++ xs ++ (elt vs i).cells.toList.drop (off + xs.length)) = mid at hsp hspl
    rw [List.append_assoc, List.getElem?_append, List.getElem?_append, List.length_take, hlenflat, hspl]
    simp only [Nat.min_eq_left (show i * X.P.cellsOf e ≤ vs.length * X.P.cellsOf e by omega), List.getElem?_take, List.getElem?_drop, hflat]
    by_cases hj : j < vs.length * X.P.cellsOf e
    · rw [if_pos hj]
      by_cases h2 : j < i * X.P.cellsOf e
      · simp only [h2, if_true, hj, show j < i * X.P.cellsOf e + off by omega]
      · simp only [h2, if_false]
        by_cases h3 : j - i * X.P.cellsOf e < X.P.cellsOf e
        · simp only [h3, if_true, hsp]
          by_cases h4 : j < i * X.P.cellsOf e + off
          · simp only [h4, if_true, show j - i * X.P.cellsOf e < off by omega]
            rw [hcell _ h3]; congr 1; omega
          · simp only [h4, if_false, show ¬ j - i * X.P.cellsOf e < off by omega]
            by_cases h5 : j < i * X.P.cellsOf e + off + xs.length
            · simp only [h5, if_true, show j - i * X.P.cellsOf e < off + xs.length by omega]
              congr 1; omega
            · simp only [h5, if_false, show ¬ j - i * X.P.cellsOf e < off + xs.length by omega]
              rw [hcell _ h3]; congr 1; omega
        · simp only [h3, if_false, show ¬ j < i * X.P.cellsOf e + off by omega, show ¬ j < i * X.P.cellsOf e + off + xs.length by omega]
          rw [if_pos (by omega)]; congr 1; omega
    · rw [if_neg hj]
      simp only [show ¬ j < i * X.P.cellsOf e by omega, if_false, show ¬ j - i * X.P.cellsOf e < X.P.cellsOf e by omega]
      rw [if_neg (by omega)]
  have hsize : (cur.toList.take (i * X.P.cellsOf e + off) ++ v.cells.toList ++ cur.toList.drop (i * X.P.cellsOf e + off + v.cells.size)).toArray.size = cur.size := by simp; omega
  generalize w.setRow b' (cur.toList.take (i * X.P.cellsOf e + off) ++ v.cells.toList ++ cur.toList.drop (i * X.P.cellsOf e + off + v.cells.size)).toArray = W at hrun hWb hst
  generalize (cur.toList.take (i * X.P.cellsOf e + off) ++ v.cells.toList ++ cur.toList.drop (i * X.P.cellsOf e + off + v.cells.size)).toArray = cur2 at hWb hrowcells hsize
  refine ⟨W, hrun, ?_⟩
  have hCF : ∀ z, z < w.heap.size → z = b' → Fb X g z := fun z _ e => .inr (.inl ⟨d, e ▸ hg⟩)
  refine h.remap hst rfl rfl rfl (fun z e => ⟨d, e ▸ hg⟩) (fun _ _ hf => hf) h.inj (fun d' z hd' => ?_) rfl (fun y av hy => ?_)
  · obtain ⟨h2, h3, h4⟩ := h.new d' z hd'
    exact ⟨h2, Nat.lt_of_lt_of_le h3 hst.size, h4⟩
  · have other : av.has d = false → RepV X.P (Fb X g) g.own g.rho W y av := fun hh =>
      hy.step hst (fun _ _ hf => hf) hCF (fun d' hd' => ⟨rfl, fun z hz e => by
        subst e
        have := h.inj d' d z hz hg
        subst this
        rw [hh] at hd'
        cases hd'⟩) rfl
    cases av
    case own d' e' vs' =>
      simp only [AV.updR]
      split
      · rename_i hd
        subst hd
        split
        · rename_i hlen
          obtain ⟨hel', hr'⟩ := hy
          rcases hr' with ⟨rfl, rfl⟩ | ⟨b2, hg2, hob2, hrow2⟩
          · simp at hlen; omega
          · rw [hg] at hg2
            have : b' = b2 := by simpa using hg2
            subst this
            rcases hrow2.2 with ⟨_, h0⟩ | ⟨b3, cap2, cur3, rfl, _, hh2, hd1, hd2, hd3, hd4⟩
            · omega
            · have : b3 = b' := by simpa [Value.ownBlock] using hob2
              subst this
              rw [hh] at hh2
              simp only [Option.some.injEq, Obj.cells.injEq] at hh2
              obtain ⟨rfl, rfl, _⟩ := hh2
              refine ⟨hnew, .inr ⟨b3, hg, rfl, by simp [flat_length _ hnew], .inr ⟨b3, cap2, cur2, by simp [hlen], Nat.le_refl _, hWb, by simp; omega, hd2, by rw [hsize, hd3], ?_⟩⟩⟩
              simpa using hrowcells
        · trivial
      · rename_i hne
        exact other (by simpa [AV.has] using hne)
    all_goals
      simp only [AV.updR, AV.kill]
      split
      · trivial
      · rename_i hh; exact other (by simpa using hh)
end

/-- of a slice type: the element's type, its cells, its bytes -/
def elemT (P : Program) (t : TypeId) : Option (TypeId × Nat × Nat) := match P.underlying t with
  | some (.slice e) => match P.info? e with
    | some i => match i.zero with
      | some z => if z.cells.size = i.size ∧ 0 < i.size ∧ z.cells.toList.all (·.oneCell') then some (e, i.size, i.bytes) else none
      | none => none
    | none => none
  | _ => none

theorem elemT_spec {P : Program} {t e k by' : Nat} (h : elemT P t = some (e, k, by')) : ∃ i z, P.underlying t = some (.slice e) ∧ P.info? e = some i ∧ i.zero = some z ∧ i.size = k ∧ i.bytes = by' ∧ z.cells.size = k ∧ 0 < k ∧
    P.cellsOf e = k ∧ z.cells.toList.all (·.oneCell') = true := by
  unfold elemT at h
  split at h
  · rename_i e' hu
    split at h
    · rename_i i hi
      split at h
      · rename_i z hz
        split at h
        · rename_i hc
          simp only [Option.some.injEq, Prod.mk.injEq] at h
          obtain ⟨rfl, rfl, rfl⟩ := h
          exact ⟨i, z, hu, hi, hz, rfl, rfl, hc.1, hc.2.1, by simp [Program.cellsOf, hi], hc.2.2⟩
        · cases h
      · cases h
    · cases h
  · cases h

section
variable {X : Ctx} {g : Gh} {σ : AState} {a : Act} {w : World}

theorem flat_one {k : Nat} {vs : List Value} (h : ∀ y ∈ vs, EltOk k y) : ∀ c ∈ flat vs, c.oneCell' = true := by
  intro c hc
  simp only [flat, List.mem_flatMap] at hc
  obtain ⟨y, hy, hcy⟩ := hc
  exact (h y hy).2 c hcy

/-- what is behind an append's second operand -/
theorem cells_of_arg {F : Nat → Prop} {x : Value} {k : Nat} {vs : List Value} (h : Sl F w x k vs) : (∃ c, x = .slice none 0 c ∧ vs = []) ∨ ∃ ad c, x = .slice (some ad) vs.length c ∧
    ∀ (j : Nat) u, (flat vs)[j]? = some u → w.cell? (ad.add j) = some u := by
  obtain ⟨b, cap, rfl, h1, h2, h3, h4⟩ := h
  rcases h4 with rfl | ⟨bb, off, rfl, _, _, hc⟩
  · cases b with
    | none => exact .inl ⟨cap, rfl, rfl⟩
    | some ad => exact .inr ⟨ad, cap, rfl, fun j u hj => by simp [flat] at hj⟩
  · exact .inr ⟨_, cap, rfl, fun j u hj => by rw [Addr.add_mk]; exact hc j u hj⟩

theorem run_append_zero {P : Program} {t ty e : TypeId} {i : TypeInfo} (ht : P.underlying t = some (.slice e)) (hi : P.info? e = some i) {b : Option Addr} {n c c' : Nat} (hn : n ≤ c) :
    (Builtin.append_ #[t, t] ty #[.slice b n c, .slice none 0 c']).run P w = .ok (.slice b n c) w := by
  cases b <;> simp [Builtin.append_, run_underlying_some ht, sizeOf, typeInfo, hi, Builtin.lenOf, hn, Builtin.firstCells, storeCells]

/-- an append to a row of the call's own -/
theorem append_run {P : Program} {own : Nat → Option Nat} {t ty e k by' d : Nat} {v x : Value} {vs ys : List Value} {F : Nat → Prop} (hT : elemT P t = some (e, k, by'))
    (hv : OwnR P own w d e v vs) (hx : Sl F w x k ys) (hb : (vs.length + ys.length) * by' ≤ 140737488355328) (hl : vs.length + ys.length ≤ 140737488355328) :
    ∃ v' w', (Builtin.append_ #[t, t] ty #[v, x]).run P w = .ok v' w' ∧ Step (fun b => own d = some b) w w' ∧ (∀ y ∈ vs ++ ys, EltOk k y) ∧
      ((v' = .slice none 0 0 ∧ vs ++ ys = []) ∨ ∃ g', v'.ownBlock = some g' ∧ (own d = some g' ∨ w.heap.size ≤ g') ∧ g' < w'.heap.size ∧ w'.ownsRow g' e k v' (vs ++ ys).length (flat (vs ++ ys))) := by
  obtain ⟨i, z, ht, hi, hz, hsz, hby, hzs, hk, hcell, _⟩ := elemT_spec hT
  obtain ⟨hel, hr⟩ := hv
  rw [hcell] at hel hr
  have hely : ∀ y ∈ ys, EltOk k y := by obtain ⟨_, _, _, _, _, h, _⟩ := hx; exact h
  have hall : ∀ y ∈ vs ++ ys, EltOk k y := fun y hy => by rcases List.mem_append.1 hy with h | h; exact hel y h; exact hely y h
  rcases cells_of_arg hx with ⟨c', rfl, rfl⟩ | ⟨ad, c', rfl, hcells⟩
  · -- nothing is added
    rcases hr with ⟨rfl, rfl⟩ | ⟨g, hg, hob, hrow⟩
    · exact ⟨_, w, run_append_zero ht hi (Nat.le_refl _), Step.refl _ _, hall, .inl ⟨rfl, rfl⟩⟩
    · rcases hrow.2 with ⟨rfl, h0⟩ | ⟨g', cap, cur, rfl, hb2, hh, hc1, hrest⟩
      · simp [Value.ownBlock] at hob
      · have : g' = g := by simpa [Value.ownBlock] using hob
        subst this
        exact ⟨_, w, run_append_zero ht hi hc1, Step.refl _ _, hall, .inr ⟨g', rfl, .inl hg, (Array.getElem?_eq_some_iff.1 hh).1, by simpa using hrow⟩⟩
  · have hnl : (flat ys).length = ys.length * k := flat_length ys hely
    have h63 : vs.length + ys.length ≤ maxLen := by unfold maxLen; omega
    rcases hr with ⟨rfl, rfl⟩ | ⟨g, hg, hob, hrow⟩
    · obtain ⟨v', w', hrun, hown', hgr, hiff⟩ := run_append_own (P := P) w w.heap.size t ty e i z k by' ht hi hz hsz hby hzs hk (.slice none 0 0) 0 [] (World.ownsRow_nil w _ e k) ad ys.length c' (flat ys) hnl hcells (flat_one hely)
        (by simpa using h63) (by simpa using hb) (Nat.le_refl _)
      refine ⟨v', w', hrun, ⟨hgr.os, hgr.tape, hgr.output, hgr.size, fun b hb _ => hgr.block b hb (by simp [Value.ownBlock])⟩, hall, ?_⟩
      rcases hown'.2 with ⟨rfl, h0⟩ | ⟨g', cap, cur, rfl, hb2, hh, hrest⟩
      · exact .inl ⟨rfl, by simpa using h0⟩
      · exact .inr ⟨g', rfl, .inr hb2, (Array.getElem?_eq_some_iff.1 hh).1, by simpa using hown'.1, .inr ⟨g', cap, cur, by simp, Nat.le_refl _, hh, by simpa using hrest⟩⟩
    · rcases hrow.2 with ⟨rfl, h0⟩ | ⟨g', cap, cur, rfl, hb2, hh, hc1, hc2, hc3, hc4⟩
      · simp [Value.ownBlock] at hob
      · have : g' = g := by simpa [Value.ownBlock] using hob
        subst this
        have hlt := (Array.getElem?_eq_some_iff.1 hh).1
        obtain ⟨v', w', hrun, hown', hgr, hiff⟩ := run_append_own (P := P) w g' t ty e i z k by' ht hi hz hsz hby hzs hk _ vs.length (flat vs) hrow ad ys.length c' (flat ys) hnl hcells (flat_one hely) h63 hb (Nat.le_of_lt hlt)
        refine ⟨v', w', hrun, ⟨hgr.os, hgr.tape, hgr.output, hgr.size, fun b hb hne => hgr.block b hb (fun e => hne (by simp [Value.ownBlock] at e; rw [hg, e]))⟩, hall, ?_⟩
        have fin : ∀ g2, v'.ownBlock = some g2 → (own d = some g2 ∨ w.heap.size ≤ g2) → _ := fun g2 he hor =>
          (show (v' = .slice none 0 0 ∧ vs ++ ys = []) ∨ ∃ g', v'.ownBlock = some g' ∧ (own d = some g' ∨ w.heap.size ≤ g') ∧ g' < w'.heap.size ∧ w'.ownsRow g' e k v' (vs ++ ys).length (flat (vs ++ ys)) from by
            rcases hown'.2 with ⟨rfl, h0⟩ | ⟨g3, cap3, cur3, rfl, hb3, hh3, hrest⟩
            · simp [Value.ownBlock] at he
            · have : g3 = g2 := by simpa [Value.ownBlock] using he
              subst this
              refine .inr ⟨g3, rfl, hor, (Array.getElem?_eq_some_iff.1 hh3).1, by have := hown'.1; simp only [flat_append, List.length_append] at this ⊢; exact this, .inr ⟨g3, cap3, cur3, by simp, Nat.le_refl _, hh3, ?_⟩⟩
              rw [flat_append, List.length_append]; exact hrest)
        by_cases hroom : vs.length + ys.length ≤ cap
        · have hfit : vs.length * i.size + (flat ys).length ≤ cur.size := by rw [hnl, hc3, hsz, ← Nat.add_mul]; exact Nat.mul_le_mul_right _ hroom
          have hr2 := run_append_room (P := P) w t ty e i ht hi g' vs.length cap cur hh ad ys.length c' (flat ys) (by rw [hsz]; exact hnl) hcells (flat_one hely) hroom hfit
          rw [hrun] at hr2
          simp only [Result.ok.injEq] at hr2
          exact fin g' (by rw [hr2.1]; rfl) (.inl hg)
        · have holds : ∀ (j : Nat) u, (flat vs)[j]? = some u → w.cell? ((⟨g', 0, none⟩ : Addr).add j) = some u := hrow.cells rfl
          have hr2 := run_append_grow (P := P) w t ty e i z ht hi hz ⟨g', 0, none⟩ vs.length cap (flat vs) (by rw [hsz]; exact hrow.1) holds ad ys.length c' (flat ys) (by rw [hsz]; exact hnl) hcells (by omega) (by unfold maxLen at h63; omega)
            (growslice_fits (by omega) (by rw [hby]; exact hb))
          rw [hrun] at hr2
          simp only [Result.ok.injEq] at hr2
          exact fin w.heap.size (by rw [hr2.1]; rfl) (.inr (Nat.le_refl _))
end

def AV.kill2 (i : Option Nat) (d : Nat) (x : AV) : AV := match i with
  | some i => (x.kill i).kill d
  | none => x.kill d

section
variable {X : Ctx} {g : Gh} {σ : AState} {a : Act} {w : World}

theorem kill2_has {i : Option Nat} {d : Nat} {x : AV} : x.kill2 i d = .any ∨ (x.kill2 i d = x ∧ x.has d = false ∧ ∀ ii, i = some ii → x.has ii = false) := by
  unfold AV.kill2
  cases i with
  | none =>
    simp only [AV.kill]
    split
    · exact .inl rfl
    · rename_i h; exact .inr ⟨rfl, by simpa using h, fun _ h => by cases h⟩
  | some i =>
    simp only [AV.kill]
    split
    · exact .inl (by simp [AV.has])
    · rename_i h
      split
      · exact .inl rfl
      · rename_i h2; exact .inr ⟨rfl, by simpa using h2, fun ii e => by cases e; simpa using h⟩

/-- a row of the call's own comes into the slot `d`; the row `i` is used up -/
theorem Rep.row (h : Rep X g σ a w) {i : Option Nat} {d e m : Nat} (hd : slotOk X.N d = true) {v : Value} {vs : List Value} {w' : World} {C : Nat → Prop} (hs : Step C w w')
    (hC : ∀ b, C b → (∃ ii, i = some ii ∧ g.own ii = some b) ∨ g.rho = some b) (hrd : RdOk (Fb X g) w' g.rho g.rs g.rb m) (hel : ∀ y ∈ vs, EltOk (X.P.cellsOf e) y)
    (hrow : (v = .slice none 0 0 ∧ vs = []) ∨ ∃ b, v.ownBlock = some b ∧ ((∃ ii, i = some ii ∧ g.own ii = some b) ∨ w.heap.size ≤ b) ∧ b < w'.heap.size ∧ w'.ownsRow b e (X.P.cellsOf e) v vs.length (flat vs)) :
    ∃ g', Rep X g' ((⟨(σ.map (AV.kill2 i d)).s, m⟩ : AState).put (some d) (.own d e vs)) (a.put (some d) v) w' := by
  let own1 : Nat → Option Nat := match i with | some ii => updO g.own ii none | none => g.own
  have hown1 : ∀ t b, own1 t = some b → g.own t = some b ∧ ∀ ii, i = some ii → t ≠ ii := by
    intro t b ht
    cases i with
    | none => exact ⟨ht, fun _ e => by cases e⟩
    | some ii =>
      simp only [own1, updO] at ht
      split at ht
      · cases ht
      · rename_i hne; exact ⟨ht, fun jj e => by cases e; exact hne⟩
  have hown1' : ∀ t, (∀ ii, i = some ii → t ≠ ii) → own1 t = g.own t := by
    intro t ht
    cases i with
    | none => rfl
    | some ii => simp only [own1, updO]; rw [if_neg (ht ii rfl)]
  -- the block, if there is one
  obtain ⟨ob, hob⟩ : ∃ ob : Option Nat, ob = v.ownBlock := ⟨_, rfl⟩
  have hblk : ∀ b, ob = some b → ((∃ ii, i = some ii ∧ g.own ii = some b) ∨ w.heap.size ≤ b) ∧ b < w'.heap.size := by
    intro b hb
    rcases hrow with ⟨rfl, _⟩ | ⟨b', h1, h2, h3, _⟩
    · rw [hob] at hb; simp [Value.ownBlock] at hb
    · rw [hob, h1] at hb
      have : b' = b := by simpa using hb
      subst this
      exact ⟨h2, h3⟩
  have hF : ∀ b, b < w.heap.size → Fb X { g with own := updO own1 d ob } b → Fb X g b := by
    intro b hb hf
    rcases hf with hf | ⟨t, ht⟩ | hf
    · exact .inl hf
    · simp only [updO] at ht
      split at ht
      · rcases (hblk b ht).1 with ⟨ii, _, h2⟩ | h2
        · exact .inr (.inl ⟨ii, h2⟩)
        · omega
      · exact .inr (.inl ⟨t, (hown1 t b ht).1⟩)
    · exact .inr (.inr hf)
  have hCF : ∀ b, b < w.heap.size → C b → Fb X g b := by
    intro b _ hc
    rcases hC b hc with ⟨ii, _, h2⟩ | h2
    · exact .inr (.inl ⟨ii, h2⟩)
    · exact .inr (.inr h2)
  have h' := h.remap' (g' := { g with own := updO own1 d ob }) (f := AV.kill2 i d) (m := m) hs rfl rfl rfl (fun b hb => by
      rcases hC b hb with ⟨ii, _, h2⟩ | h2
      · exact .inl ⟨ii, h2⟩
      · exact .inr h2)
    (fun β hβ => by
      obtain ⟨h1, _, h3⟩ := hrd β hβ
      obtain ⟨_, h5, _⟩ := h.rd β hβ
      exact ⟨h1, h5.step hs hF hCF, h3⟩)
    (fun t1 t2 b h1 h2 => by
      simp only [updO] at h1 h2
      split at h1 <;> split at h2
      · omega
      · obtain ⟨h4, h5⟩ := hown1 t2 b h2
        rcases (hblk b h1).1 with ⟨ii, h6, h7⟩ | h6
        · exact absurd (h.inj t2 ii b h4 h7) (h5 ii h6)
        · have := (h.new t2 b h4).2.1; omega
      · obtain ⟨h4, h5⟩ := hown1 t1 b h1
        rcases (hblk b h2).1 with ⟨ii, h6, h7⟩ | h6
        · exact absurd (h.inj t1 ii b h4 h7) (h5 ii h6)
        · have := (h.new t1 b h4).2.1; omega
      · exact h.inj t1 t2 b (hown1 t1 b h1).1 (hown1 t2 b h2).1)
    (fun t b ht => by
      simp only [updO] at ht
      split at ht
      · obtain ⟨h1, h2⟩ := hblk b ht
        rcases h1 with ⟨ii, _, h4⟩ | h4
        · obtain ⟨h5, h6, h7⟩ := h.new ii b h4
          exact ⟨h5, h2, h7⟩
        · refine ⟨.inl (Nat.le_trans h.frame.size h4), h2, fun e => ?_⟩
          have := h.Flt (.inr (.inr e))
          omega
      · obtain ⟨h5, h6, h7⟩ := h.new t b (hown1 t b ht).1
        exact ⟨h5, Nat.lt_of_lt_of_le h6 hs.size, h7⟩)
    (by cases i <;> rfl)
    (fun x av hx => by
      rcases kill2_has (i := i) (d := d) (x := av) with e | ⟨e, h1, h2⟩
      · rw [e]; trivial
      · rw [e]
        refine hx.step hs hF hCF (fun t ht => ⟨?_, fun b hb hc => ?_⟩) rfl
        · simp only [updO]
          rw [if_neg (fun e => by subst e; rw [h1] at ht; cases ht)]
          exact hown1' t fun ii hii e => by subst e; rw [h2 t hii] at ht; cases ht
        · rcases hC b hc with ⟨ii, h4, h5⟩ | h4
          · have := h.inj t ii b hb h5
            subst this
            rw [h2 t h4] at ht
            cases ht
          · exact (h.new t b hb).2.2 h4)
  refine ⟨_, h'.put (by simpa [dstOk] using hd) ?_⟩
  refine ⟨hel, ?_⟩
  rcases hrow with hr | ⟨b, h1, _, _, h4⟩
  · exact .inl hr
  · exact .inr ⟨b, by simp [updO, hob, h1], h1, h4⟩

/-! ### operations in their order -/

section
variable {X : Ctx} {g : Gh} {σ : AState} {a : Act} {w : World}

/-- a block that a callee has made and given away -/
theorem Rep.newbx (h : Rep X g σ a w) {d m : Nat} (hd : slotOk X.N d = true) {v : Value} {w' : World} (hs : Step (fun b => g.rho = some b) w w') (hrd : RdOk (Fb X g) w' g.rho g.rs g.rb m)
    {cells : List A0} {off β : Nat} {arr : Array Value} {ty : TypeId} (h1 : w.heap.size ≤ β) (h2 : v = .pointer (some ⟨β, off, none⟩)) (h3 : w'.heap[β]? = some (.cells arr ty (0, 0))) (h4 : arr.size = cells.length)
    (h5 : ∀ (i : Nat) c, cells[i]? = some c → ∃ y : Value, arr[i]? = some y ∧ RepA (fun b => Fb X g b ∨ b = β) w' y c) :
    ∃ g', Rep X g' ((⟨(σ.map (AV.kill d)).s, m⟩ : AState).put (some d) (.bx d cells off)) (a.put (some d) v) w' := by
  have hβ' : β < w'.heap.size := (Array.getElem?_eq_some_iff.1 h3).1
  have hF : ∀ b, Fb X { g with own := updO g.own d (some β) } b → Fb X g b ∨ b = β := by
    intro b hf
    rcases hf with hf | ⟨t, ht⟩ | hf
    · exact .inl (.inl hf)
    · simp only [updO] at ht
      split at ht
      · simp only [Option.some.injEq] at ht; exact .inr ht.symm
      · exact .inl (.inr (.inl ⟨t, ht⟩))
    · exact .inl (.inr (.inr hf))
  have hF0 : ∀ b, b < w.heap.size → Fb X { g with own := updO g.own d (some β) } b → Fb X g b := fun b hb hf => (hF b hf).resolve_right (by omega)
  have h' := h.remap' (g' := { g with own := updO g.own d (some β) }) (f := AV.kill d) (m := m) hs rfl rfl rfl (fun b hb => .inr hb)
    (fun γ hγ => by
      obtain ⟨k1, _, k3⟩ := hrd γ hγ
      obtain ⟨_, k5, _⟩ := h.rd γ hγ
      exact ⟨k1, k5.step hs hF0 fun b _ hb => .inr (.inr hb), k3⟩)
    (fun t1 t2 b k1 k2 => by
      simp only [updO] at k1 k2
      split at k1 <;> split at k2
      · omega
      · simp only [Option.some.injEq] at k1; have := (h.new t2 b k2).2.1; omega
      · simp only [Option.some.injEq] at k2; have := (h.new t1 b k1).2.1; omega
      · exact h.inj t1 t2 b k1 k2)
    (fun t b ht => by
      simp only [updO] at ht
      split at ht
      · simp only [Option.some.injEq] at ht
        subst ht
        refine ⟨.inl (Nat.le_trans h.frame.size h1), hβ', fun e => ?_⟩
        have := h.Flt (.inr (.inr e))
        omega
      · obtain ⟨k1, k2, k3⟩ := h.new t b ht
        exact ⟨k1, Nat.lt_of_lt_of_le k2 hs.size, k3⟩)
    rfl (fun x av hx => by
      unfold AV.kill
      split
      · trivial
      · rename_i hh
        exact hx.step hs hF0 (fun b _ hb => .inr (.inr hb)) (fun t ht => ⟨by simp only [updO]; exact if_neg (fun e => by subst e; exact hh ht), fun b hb hc => (h.new t b hb).2.2 hc⟩) rfl)
  subst h2
  refine ⟨_, h'.put (by simpa [dstOk] using hd) ⟨β, arr, ty, by simp [updO], rfl, h3, h4, fun i c hi => ?_⟩⟩
  obtain ⟨y, hy, hr⟩ := h5 i c hi
  refine ⟨y, hy, ?_⟩
  cases c with
  | v z => exact hr
  | sl k vs =>
    obtain ⟨ad, cap, rfl, q1, q2, q3, q4⟩ := hr
    exact ⟨ad, cap, rfl, q1, q2, q3, q4.imp id fun ⟨b, o, e, q5, q6, q7⟩ => ⟨b, o, e, fun hf => q5 (hF b hf), q6, q7⟩⟩

/-- the box `d` becomes the reader -/
def AV.opn (d : Nat) : AV → AV
  | .bx d' cells off => if d' = d then (if off = 0 then .rd else .any) else .bx d' cells off
  | .rd | .free => .any
  | .cnd _ _ => .any
  | x => x.kill d

theorem Rep.openR (h : Rep X g σ a w) (h0 : X.rho0 = none) {t d m : Nat} {bs : List UInt8} (ht : σ.get t = .bx d [.sl 1 (bytesV bs), .v (.int .i64 0)] 0) (hl : bs.length ≤ 2000) :
    ∃ g', Rep X g' ⟨(σ.map (AV.opn d)).s, m⟩ a w := by
  have hr := h.rep t
  rw [ht] at hr
  obtain ⟨β, arr, ty, hβ, _, hh, hsz, hc⟩ := hr
  obtain ⟨s, hs1, hs2⟩ := hc 0 _ rfl
  obtain ⟨p, hp1, hp2⟩ := hc 1 _ rfl
  simp only [RepA] at hp2
  subst hp2
  have harr : arr = #[s, .int .i64 0] := by
    apply Array.ext
    · simpa using hsz
    · intro i hi hi'
      match i with
      | 0 => exact (Array.getElem?_eq_some_iff.1 hs1).2
      | 1 => exact (Array.getElem?_eq_some_iff.1 hp1).2
      | _ + 2 => simp at hi'; omega
  subst harr
  obtain ⟨n1, n2, n3⟩ := h.new d β hβ
  have hF : ∀ b, Fb X ⟨updO g.own d none, some β, s, bs⟩ b → Fb X g b := by
    intro b hf
    rcases hf with hf | ⟨t, ht⟩ | hf
    · exact .inl hf
    · simp only [updO] at ht
      split at ht
      · cases ht
      · exact .inr (.inl ⟨t, ht⟩)
    · simp only [Option.some.injEq] at hf
      subst hf
      exact .inr (.inl ⟨d, hβ⟩)
  refine ⟨⟨updO g.own d none, some β, s, bs⟩, h.size, h.defers, h.frame, h.low, ?_, ?_, h.rhoF, .inr ⟨h0, fun b hb => ?_⟩, fun hn => absurd h0 hn, ?_, fun t' => ?_, h.hH, h.pin⟩
  · intro t1 t2 b k1 k2
    simp only [updO] at k1 k2
    split at k1
    · cases k1
    · split at k2
      · cases k2
      · exact h.inj t1 t2 b k1 k2
  · intro t1 b k1
    simp only [updO] at k1
    split at k1
    · cases k1
    · rename_i hne
      obtain ⟨k2, k3, k4⟩ := h.new t1 b k1
      exact ⟨k2, k3, fun e => by simp only [Option.some.injEq] at e; subst e; exact hne (h.inj t1 d β k1 hβ)⟩
  · simp only [Option.some.injEq] at hb; subst hb; exact n1
  · intro γ hγ
    simp only [Option.some.injEq] at hγ
    subst hγ
    exact ⟨⟨0, ty, hh, by omega, by omega⟩, Sl.less hs2 hF, hl⟩
  · show RepV _ _ _ _ _ _ ((σ.map (AV.opn d)).get t')
    rw [get_map σ (AV.opn d) rfl]
    have hx := h.rep t'
    generalize a.tmps.getD t' undef = x at hx
    generalize σ.get t' = av at hx
    have other : ∀ av' : AV, RepV X.P (Fb X g) g.own g.rho w x av' → av' ≠ .rd → av' ≠ .free → (∀ c y, av' ≠ .cnd c y) → RepV X.P (Fb X ⟨updO g.own d none, some β, s, bs⟩) (updO g.own d none) (some β) w x (av'.kill d) := by
      intro av' hx hne1 hne3 hne2
      unfold AV.kill
      split
      · trivial
      · rename_i hh2
        cases av' with
        | rd => exact absurd rfl hne1
        | cnd c y => exact absurd rfl (hne2 c y)
        | free => exact absurd rfl hne3
        | mp d' t ks =>
          obtain ⟨g1, q1, q2, q3⟩ := hx
          have e0 : updO g.own d none d' = g.own d' := by simp only [updO]; exact if_neg fun e => by subst e; simp [AV.has] at hh2
          exact ⟨g1, e0.trans q1, q2, q3⟩
        | vw d' k vs =>
          have e0 : updO g.own d none d' = g.own d' := by simp only [updO]; exact if_neg fun e => by subst e; simp [AV.has] at hh2
          exact Sl.less hx fun b hb => ⟨hF b hb.1, by rw [← e0]; exact hb.2⟩
        | tupo d' e vs rest =>
          obtain ⟨y, q1, q2⟩ := hx
          exact ⟨y, q1, OwnR.step q2 (Step.refl (fun _ => False) w) (by simp only [updO]; exact if_neg fun e => by subst e; simp [AV.has] at hh2) fun _ _ hc => hc⟩
        | any => trivial
        | v y => exact hx
        | sl k vs => exact Sl.less hx hF
        | own d' e vs => exact OwnR.step hx (Step.refl (fun _ => False) w) (by simp only [updO]; exact if_neg fun e => by subst e; simp [AV.has] at hh2) fun _ _ hc => hc
        | bx d' cells off =>
          obtain ⟨g1, arr', ty', q1, q2, q3, q4, q5⟩ := hx
          have e0 : updO g.own d none d' = g.own d' := by simp only [updO]; exact if_neg fun e => by subst e; simp [AV.has] at hh2
          exact ⟨g1, arr', ty', e0.trans q1, q2, q3, q4, fun i c hi => let ⟨y, hy, hr⟩ := q5 i c hi; ⟨y, hy, hr.step (Step.refl (fun _ => False) w) (fun b _ hf => hF b hf) fun _ _ hc => hc.elim⟩⟩
        | ptr cells off => exact PtrR.step (C := fun _ => False) hx (Step.refl _ w) (fun b _ hf => hF b hf) fun _ _ hc => hc.elim
        | ep d' e vs i off =>
          obtain ⟨g1, x', q1, q2, q3, q4, q5⟩ := hx
          have e0 : updO g.own d none d' = g.own d' := by simp only [updO]; exact if_neg fun e => by subst e; simp [AV.has] at hh2
          exact ⟨g1, x', e0.trans q1, q2, OwnR.step q3 (Step.refl (fun _ => False) w) e0 fun _ _ hc => hc, q4, q5⟩
        | clo f first caps =>
          obtain ⟨fs, cs, rfl, q1, q2, q3, q4⟩ := hx
          exact ⟨fs, cs, rfl, q1, q2, fun j c hj => let ⟨y, hy, hp⟩ := q3 j c hj; ⟨y, hy, hp.step (Step.refl (fun _ => False) w) (fun b _ hf => hF b hf) fun _ _ hc => hc.elim⟩, fun j c hj => let ⟨y, hy, hp⟩ := q4 j c hj; ⟨y, hy, hp.step (C := fun _ => False) (Step.refl _ w) (fun b _ hf => hF b hf) fun _ _ hc => hc.elim⟩⟩
        | tup xs =>
          obtain ⟨ys, rfl, q1, q2⟩ := hx
          exact ⟨ys, rfl, q1, fun j c hj => let ⟨y, hy, hp⟩ := q2 j c hj; ⟨y, hy, hp.step (Step.refl (fun _ => False) w) (fun b _ hf => hF b hf) fun _ _ hc => hc.elim⟩⟩
        | agg xs =>
          obtain ⟨ys, rfl, q1, q2⟩ := hx
          exact ⟨ys, rfl, q1, fun j c hj => let ⟨y, hy, hp⟩ := q2 j c hj; ⟨y, hy, hp.step (Step.refl (fun _ => False) w) (fun b _ hf => hF b hf) fun _ _ hc => hc.elim⟩⟩
    cases av with
    | rd => trivial
    | free => trivial
    | cnd c y => trivial
    | bx d' cells off =>
      simp only [AV.opn]
      split
      · rename_i e
        subst e
        split
        · rename_i e2
          subst e2
          obtain ⟨g1, arr', ty', q1, q2, _⟩ := hx
          rw [hβ] at q1
          cases q1
          exact ⟨β, rfl, q2⟩
        · trivial
      · rename_i hne
        have := other _ hx (fun e => AV.noConfusion e) (fun e => AV.noConfusion e) (fun c y e => AV.noConfusion e)
        unfold AV.kill at this
        rwa [if_neg (by simp [AV.has]; exact fun e => hne e)] at this
    | _ => exact other _ hx (fun e => AV.noConfusion e) (fun e => AV.noConfusion e) (fun c y e => AV.noConfusion e)
end

/-- there is no reader but a new one -/
def AV.shut : AV → AV
  | .rd | .cnd _ _ | .free => .any
  | x => x

section
variable {X : Ctx} {g : Gh} {σ : AState} {a : Act} {w : World}

/-- a reader that a callee has made -/
theorem Rep.newrd (h : Rep X g σ a w) {d : Nat} (hd : slotOk X.N d = true) (h0 : g.rho = none) {v : Value} {w' : World} (hs : Step (fun b => g.rho = some b) w w')
    {β : Nat} {s : Value} {bs : List UInt8} (h1 : w.heap.size ≤ β) (h2 : v = .pointer (some ⟨β, 0, none⟩)) (h3 : RdOk (fun b => Fb X g b ∨ b = β) w' (some β) s bs 0) :
    ∃ g', Rep X g' ((⟨(σ.map AV.shut).s, 0⟩ : AState).put (some d) .rd) (a.put (some d) v) w' := by
  have hX : X.rho0 = none := by
    rcases h.rho with e | e
    · rw [← e]; exact h0
    · exact e.1
  have hst : Step (fun _ => False) w w' := ⟨hs.os, hs.tape, hs.output, hs.size, fun b hb _ => hs.block b hb fun e => by rw [h0] at e; cases e⟩
  have hF : ∀ b, Fb X ⟨g.own, some β, s, bs⟩ b → Fb X g b ∨ b = β := by
    intro b hf
    rcases hf with hf | hf | hf
    · exact .inl (.inl hf)
    · exact .inl (.inr (.inl hf))
    · simp only [Option.some.injEq] at hf; exact .inr hf.symm
  have hF0 : ∀ b, b < w.heap.size → Fb X ⟨g.own, some β, s, bs⟩ b → Fb X g b := fun b hb hf => (hF b hf).resolve_right (by omega)
  obtain ⟨⟨p, ty, k1, k2, k3⟩, k4, k5⟩ := h3 β rfl
  have hrep : Rep X ⟨g.own, some β, s, bs⟩ ⟨(σ.map AV.shut).s, 0⟩ a w' := by
    refine ⟨h.size, h.defers, h.frame.trans hst fun b hb hE => ⟨hE, fun e => e⟩, h.low, h.inj, fun d b hb => ?_, h.rhoF, .inr ⟨hX, fun b hb => ?_⟩, fun hn => absurd hX hn, fun γ hγ => ?_, fun t => ?_, h.hH, h.pin⟩
    · obtain ⟨n1, n2, n3⟩ := h.new d b hb
      exact ⟨n1, Nat.lt_of_lt_of_le n2 hst.size, fun e => by simp only [Option.some.injEq] at e; omega⟩
    · simp only [Option.some.injEq] at hb
      have := h.frame.size
      left
      omega
    · simp only [Option.some.injEq] at hγ
      subst hγ
      exact ⟨⟨p, ty, k1, k2, k3⟩, Sl.less k4 hF, k5⟩
    · show RepV _ _ _ _ _ _ ((σ.map AV.shut).get t)
      rw [get_map σ AV.shut rfl]
      have hx := h.rep t
      generalize a.tmps.getD t undef = x at hx
      generalize σ.get t = av at hx
      have hgen : RepV X.P (Fb X ⟨g.own, some β, s, bs⟩) g.own none w' x av := by
        have := hx.step (own' := g.own) hst hF0 (fun _ _ hc => hc.elim) (fun d _ => ⟨rfl, fun _ _ hc => hc⟩) (rfl : g.rho = g.rho)
        rwa [h0] at this
      cases av with
      | rd => trivial
      | cnd c y => trivial
      | free => trivial
      | _ => exact hgen
  subst h2
  exact ⟨_, hrep.put (by simpa [dstOk] using hd) ⟨β, rfl, rfl⟩⟩
end

def zcells (P : Program) (t : TypeId) : Option (List Value) := match (P.info? t).bind (·.zero) with
  | some z => some z.cells.toList
  | none => none

/-- elements written out: (0, x0), (1, x1), .. -/
def idxOk : Nat → List (Nat × Value) → Bool
  | _, [] => true
  | k, (i, _) :: r => i == k && idxOk (k + 1) r

def slOf : AV → Option (List Value)
  | .sl _ vs => some vs
  | .own _ _ vs => some vs
  | .vw _ _ vs => some vs
  | .v (.slice none 0 0) => some []
  | _ => none

/-- an operation that stands in its place -/
def aX (P : Program) (ops : Array Oper) (o : Oper) (K : AState → Prop) (σ : AState) : Prop :=
  match o.guard, o.op, o.dst with
  | none, .box _ x, some d => match boxCells (σ.val x) with
    | some cells => σ.va x = true ∧ K ((σ.map (AV.kill d)).put (some d) (.bx d cells 0))
    | none => False
  | none, .alloc t, some d => match zcells P t with
    | some cells => K ((σ.map (AV.kill d)).put (some d) (.bx d (cells.map .v) 0))
    | none => False
  | none, .store t ad x, none => match σ.val ad, boxCells (σ.val x) with
    | .bx d cells off, some xs => (σ.va ad = true ∧ σ.va x = true ∧ tk P t ≠ 0 ∧ xs.length = P.cellsOf t ∧ off + xs.length ≤ cells.length) ∧ K (σ.map (AV.updB d (spliceA cells off xs)))
    | .ep d e vs i off, some xs => match allV xs with
      | some ys => (σ.va ad = true ∧ σ.va x = true ∧ tk P t ≠ 0 ∧ ys.length = P.cellsOf t ∧ 0 < ys.length ∧ off + ys.length ≤ P.cellsOf e) ∧ K (σ.map (AV.updR d vs.length (vs.set i (repl (elt vs i) off ys))))
      | none => False
    | _, _ => False
  | none, .buildSlice t n parts, some d => match elemT P t, partsV σ.val parts.toList with
    | some (e, k, _), some ps => (vaAll σ.va (parts.toList.map (·.2)) ∧ n = ps.length ∧ idxOk 0 ps = true ∧ n * k ≤ 16777216 ∧ ∀ y ∈ ps.map (·.2), EltOk k y) ∧
        K ((σ.map (AV.kill2 none d)).put (some d) (.own d e (ps.map (·.2))))
    | _, _ => False
  | none, .makeMap t none, some d => mapT P t = true ∧ K ((σ.map (AV.kill d)).put (some d) (.mp d t []))
  | none, .mapUpdate t m x v, none => match σ.val m, σ.val x, σ.val v with
    | .mp d t' ks, .v (.string s), .v (.bool true) => (t' = t ∧ vaAll σ.va [m, x, v] ∧ s.data.toList.length ≤ 2000000 ∧ ks.length < 2000000) ∧ K (σ.map (AV.updM d t (s.data.toList :: ks)))
    | _, _, _ => False
  | none, .build t parts, some d => match partsV σ.val parts.toList with
    | some _ => astep P ops o K σ
    | none => match bz P t, partsA σ.val parts.toList with
      | some (zs, places), some ps => match fillA places (zs.map .v) ps with
        | some out => vaAll σ.va (parts.toList.map (·.2)) ∧ K (σ.put (some d) (.agg out))
        | none => False
      | _, _ => False
  | none, .convert src dst x, some d => match σ.val x with
    | .own _ e [.int .u8 n] => (P.underlying src = some (.slice e) ∧ P.underlying e = some (.int .u8) ∧ P.underlying dst = some .string ∧ P.cellsOf e = 1 ∧ σ.va x = true) ∧ K (σ.put (some d) (.v (.string ⟨⟨[UInt8.ofNat n.toNat]⟩⟩)))
    | _ => astep P ops o K σ
  | none, .call c, some d => match c.callee with
    | .builtin .append => match c.args.toList, c.argTypes.toList with
      | [s, x], [t, t'] => match elemT P t, σ.val s, slOf (σ.val x) with
        | some (e, k, by'), .own i e' vs, some ys => (t' = t ∧ e' = e ∧ vaAll σ.va [s, x] ∧ (vs.length + ys.length) * by' ≤ 140737488355328 ∧ vs.length + ys.length ≤ 140737488355328 ∧ ∀ y ∈ ys, EltOk k y) ∧
            K ((σ.map (AV.kill2 (some i) d)).put (some d) (.own d e (vs ++ ys)))
        | some (e, k, by'), .v (.slice none 0 0), some ys => (t' = t ∧ vaAll σ.va [s, x] ∧ ys.length * by' ≤ 140737488355328 ∧ ys.length ≤ 140737488355328 ∧ ∀ y ∈ ys, EltOk k y) ∧
            K ((σ.map (AV.kill2 none d)).put (some d) (.own d e ys))
        | _, _, _ => False
      | _, _ => False
    | .builtin _ => astep P ops o K σ
    | _ => acall P σ .un c fun r cost => match r with
      | .own _ e vs => K ((⟨(σ.map (AV.kill2 none d)).s, σ.rd + cost⟩ : AState).put (some d) (.own d e vs))
      | .bx _ cells off => K ((⟨(σ.map (AV.kill d)).s, σ.rd + cost⟩ : AState).put (some d) (.bx d cells off))
      | .tupo _ e vs rest => K ((⟨(σ.map (AV.kill2 none d)).s, σ.rd + cost⟩ : AState).put (some d) (.tupo d e vs rest))
      | .rd => (match σ.get 999 with | .free => True | _ => False) ∧ K ((⟨(σ.map AV.shut).s, 0⟩ : AState).put (some d) .rd)
      | r => K ((σ.put (some d) r).addRd cost)
  | _, _, _ => astep P ops o K σ
end

section
variable {X : Ctx} {g : Gh} {σ : AState} {a : Act} {w : World}

theorem run_v' {P : Program} {w w' : World} {s : Sem Value} {v : Value} (h : s.run P w = .ok v w') : (do pure (Next.value (← s)) : Sem Next).run P w = .ok (.value v) w' := by
  simp [h]

theorem run_u {P : Program} {w w' : World} {s : Sem Unit} (h : s.run P w = .ok () w') : (do s; pure Next.skip : Sem Next).run P w = .ok .skip w' := by simp [h]

theorem wanted_none {ops : Array Oper} {o : Oper} (h : o.guard = none) : Region.wanted o (yielded ops a.tmps) = true := by simp [Region.wanted, h]

theorem run_newVar {P : Program} (t : TypeId) (v : Value) : (newVar t v).run P w = .ok ⟨w.heap.size, 0, none⟩ (w.alloc (.cells v.cells t)) := by
  simp [newVar, newRow]

theorem slOf_sl {P : Program} {F : Nat → Prop} {own : Nat → Option Nat} {rho : Option Nat} {x : Value} {av : AV} {ys : List Value} {k : Nat} (h : RepV P F own rho w x av) (hs : slOf av = some ys) (hk : ∀ y ∈ ys, EltOk k y) :
    Sl (fun _ => False) w x k ys := by
  unfold slOf at hs
  split at hs
  · rename_i k' vs
    simp only [Option.some.injEq] at hs
    subst hs
    obtain ⟨b, cap, rfl, h1, h2, h3, h4⟩ := h
    exact ⟨b, cap, rfl, h1, h2, hk, h4.imp id fun ⟨bb, off, e, _, h5, h6⟩ => ⟨bb, off, e, fun hf => hf, h5, h6⟩⟩
  · rename_i d e vs
    simp only [Option.some.injEq] at hs
    subst hs
    obtain ⟨b, cap, rfl, h1, h2, h3, h4⟩ := OwnR.sl (F := fun _ => False) h (fun _ _ hf => hf)
    exact ⟨b, cap, rfl, h1, h2, hk, h4⟩
  · rename_i d k' vs
    simp only [Option.some.injEq] at hs
    subst hs
    obtain ⟨b, cap, rfl, h1, h2, h3, h4⟩ := h
    exact ⟨b, cap, rfl, h1, h2, hk, h4.imp id fun ⟨bb, off, e, _, h5, h6⟩ => ⟨bb, off, e, fun hf => hf, h5, h6⟩⟩
  · simp only [Option.some.injEq] at hs
    subst hs
    simp only [RepV] at h
    subst h
    exact ⟨none, 0, rfl, Nat.le_refl _, Nat.zero_le _, hk, .inl rfl⟩
  · cases hs

theorem fill_all {k : Nat} : ∀ (ps : List (Nat × Value)) (i : Nat) (cells : Array Value), idxOk i ps = true → (∀ y ∈ ps.map (·.2), EltOk k y) → cells.size = (i + ps.length) * k →
    ∃ out, Instr.fill (fun i => some (i * k, k)) cells ps = some out ∧ out.toList = cells.toList.take (i * k) ++ flat (ps.map (·.2))
  | [], i, cells, _, _, hsz => ⟨cells, rfl, by
      simp only [List.length_nil, Nat.add_zero] at hsz
      rw [List.take_of_length_le (by simp; omega)]; simp [flat]⟩
  | (j, v) :: r, i, cells, hi, hel, hsz => by
    simp only [idxOk, Bool.and_eq_true, beq_iff_eq] at hi
    obtain ⟨rfl, hi⟩ := hi
    have hv := (hel v (by simp)).1
    simp only [List.length_cons] at hsz
    have hfit : j * k + k ≤ cells.size := by
      rw [hsz, ← Nat.succ_mul]; exact Nat.mul_le_mul_right _ (by omega)
    have hb : (decide (v.cells.size ≠ k) || decide (j * k + v.cells.size > cells.size)) = false := by simp [hv]; omega
    simp only [Instr.fill]
    rw [if_neg (by simpa using hb), ← Array.foldl_toList, Array.toList_zipIdx]
    have hset := foldl_set (j * k) v.cells.toList 0 cells (by simp [hv]; omega)
    simp only [Nat.add_zero] at hset
    generalize hc : (v.cells.toList.zipIdx 0).foldl (fun cs (p : Value × Nat) => cs.setIfInBounds (j * k + p.2) p.1) cells = cells2 at hset ⊢
    have hlen : cells2.size = (j + 1 + r.length) * k := by
      rw [← Array.length_toList, hset]
      unfold bset
      simp [hv]
      rw [show j + 1 + r.length = j + (r.length + 1) by omega]
      omega
    obtain ⟨out, h1, h2⟩ := fill_all r (j + 1) cells2 hi (fun y hy => hel y (by simp at hy ⊢; exact .inr hy)) hlen
    refine ⟨out, h1, ?_⟩
    rw [h2, hset]
    unfold bset
    simp only [List.map_cons, flat, List.flatMap_cons]
    rw [show (j + 1) * k = (cells.toList.take (j * k) ++ v.cells.toList).length by simp [hv, Nat.add_mul]; omega, List.take_left]
    simp

set_option maxHeartbeats 2000000 in
theorem aX_sound {ops : Array Oper} {o : Oper} {K : AState → Prop} {K' : Act → World → Prop} {Q : Exit → Act → World → Prop} (h : Rep X g σ a w) (hd : dstOk X.N o.dst = true) (hs : aX X.P ops o K σ)
    (hK : ∀ σ' g' a' w', K σ' → Rep X g' σ' a' w' → K' a' w') :
    if Region.wanted o (yielded ops a.tmps) = true then o.wp X.P a w K' Q else K' (a.put o.dst undef) w := by
  unfold aX at hs
  split at hs
  · -- box
    rename_i t x d hgd hop hdst
    rw [if_pos (wanted_none hgd)]
    split at hs
    · rename_i cells hc
      obtain ⟨hva, hk⟩ := hs
      obtain ⟨h1, h2, h3⟩ := boxCells_sound (h.val hva) hc
      have hrun : (execOp a.eval o).run X.P w = .ok (.value (.pointer (some ⟨w.heap.size, 0, none⟩))) (w.alloc (.cells (a.eval x).cells t)) := by
        obtain ⟨dst, op, type, pos, after, guard⟩ := o
        simp only at hop; subst hop
        exact run_v' (s := Instr.box t (a.eval x)) (by simp [Instr.box, run_newVar])
      unfold Oper.wp
      rw [hrun, Oper.upon_value, hdst]
      rw [hdst] at hd
      exact hK _ _ _ _ hk (h.box (by simpa [dstOk] using hd) h1 h3)
    · exact hs.elim
  · -- alloc
    rename_i t d hgd hop hdst
    rw [if_pos (wanted_none hgd)]
    split at hs
    · rename_i cells hc
      unfold zcells at hc
      split at hc
      · rename_i z hz
        simp only [Option.some.injEq] at hc
        subst hc
        have hzero : (zeroValue t).run X.P w = .ok z w := by
          cases hi : X.P.info? t with
          | none => simp [hi] at hz
          | some i => simp [hi] at hz; simp [zeroValue, typeInfo, hi, hz]
        have hrun : (execOp a.eval o).run X.P w = .ok (.value (.pointer (some ⟨w.heap.size, 0, none⟩))) (w.alloc (.cells z.cells t)) := by
          obtain ⟨dst, op, type, pos, after, guard⟩ := o
          simp only at hop; subst hop
          exact run_v' (s := Instr.alloc t true (.tuple #[])) (by simp [Instr.alloc, hzero, run_newVar])
        unfold Oper.wp
        rw [hrun, Oper.upon_value, hdst]
        rw [hdst] at hd
        refine hK _ _ _ _ hs (h.box (by simpa [dstOk] using hd) (by simp) fun i c hi => ?_)
        simp only [List.getElem?_map, Option.map_eq_some_iff] at hi
        obtain ⟨y, hy, rfl⟩ := hi
        exact ⟨y, by simpa using hy, rfl⟩
      · cases hc
    · exact hs.elim
  · -- store
    rename_i t ad x hgd hop hdst
    rw [if_pos (wanted_none hgd)]
    have fin : ∀ (w' : World) (σ' : AState) (g' : Gh), (Instr.storeAt t (a.eval ad) (a.eval x)).run X.P w = .ok () w' → Rep X g' σ' a w' → K σ' → o.wp X.P a w K' Q := by
      intro w' σ' g' hrun hrep hk
      have hrun' : (execOp a.eval o).run X.P w = .ok .skip w' := by
        obtain ⟨dst, op, type, pos, after, guard⟩ := o
        simp only at hop; subst hop
        exact run_u hrun
      unfold Oper.wp
      rw [hrun', Oper.upon_skip, hdst]
      exact hK _ _ _ _ hk hrep
    have hun : tk X.P t ≠ 0 → X.P.underlying t ≠ none := fun h1 h2 => h1 (by simp [tk, h2])
    split at hs
    · rename_i d cells off xs had hx
      obtain ⟨⟨h1, h2, h3, h4, h5⟩, hk⟩ := hs
      have hrad := h.val h1
      rw [had] at hrad
      obtain ⟨b1, b2, b3⟩ := boxCells_sound (h.val h2) hx
      obtain ⟨w', hrun, hrep⟩ := h.storeB hrad (hun h3) h4 h5 b1 b2 b3
      exact fin w' _ _ hrun hrep hk
    · rename_i d e vs i off xs had hx
      split at hs
      · rename_i ys hys
        obtain ⟨⟨h1, h2, h3, h4, h5, h6⟩, hk⟩ := hs
        have hrad := h.val h1
        rw [had] at hrad
        obtain ⟨b1, b2, b3⟩ := boxCells_sound (h.val h2) hx
        obtain ⟨c1, c2⟩ := allV_get _ _ hys
        have hcells : (a.eval x).cells.toList = ys := by
          apply List.ext_getElem?
          intro j
          cases hj : ys[j]? with
          | some z =>
            obtain ⟨y, hy, hr⟩ := b3 j _ (c2 j z hj)
            rw [Array.getElem?_toList, hy]; exact congrArg some hr
          | none =>
            rw [List.getElem?_eq_none_iff] at hj ⊢
            rw [Array.length_toList]; omega
        obtain ⟨w', hrun, hrep⟩ := h.storeR hrad (hun h3) h4 h5 h6 hcells (fun c hc => b2 c (by rw [hcells]; exact hc))
        exact fin w' _ _ hrun hrep hk
      · exact hs.elim
    · exact hs.elim
  · -- buildSlice
    rename_i t n parts d hgd hop hdst
    rw [if_pos (wanted_none hgd)]
    split at hs
    · rename_i e k by' ps hT hps
      obtain ⟨⟨h1, rfl, h3, h4, h5⟩, hk⟩ := hs
      obtain ⟨i, z, ht, hi, hz, hsz, hby, hzs, hkp, hcell, _⟩ := elemT_spec hT
      have hpe := partsV_eval (P := X.P) (F := Fb X g) (own := g.own) (rho := g.rho) (w := w) (a := a) parts.toList ps hps fun p hp => h.val (vaAll_spec _ h1 p.2 (List.mem_map_of_mem hp))
      have hzero : (zeroValue e).run X.P w = .ok z w := by simp [zeroValue, typeInfo, hi, hz]
      have hse : (sizeOf e).run X.P w = .ok k w := by simp [sizeOf, typeInfo, hi, hsz]
      have hd' : slotOk X.N d = true := by rw [hdst] at hd; simpa [dstOk] using hd
      have hel' : ∀ y ∈ ps.map (·.2), EltOk (X.P.cellsOf e) y := by rw [hcell]; exact h5
      obtain ⟨out, hout⟩ : ∃ out : Array Value, out = (flat (ps.map (·.2))).toArray := ⟨_, rfl⟩
      have ho2 : out.toList = flat (ps.map (·.2)) := by rw [hout]
      have hfill : ∀ cells0 : Array Value, cells0.size = ps.length * k → Instr.fill (fun i => some (i * k, k)) cells0 ps = some out := by
        intro cells0 hc0
        obtain ⟨out', ho1, ho3⟩ := fill_all (k := k) ps 0 cells0 h3 h5 (by simpa using hc0)
        simp only [Nat.zero_mul, List.take_zero, List.nil_append] at ho3
        rw [ho1, hout, ← ho3]
      have hrun : (execOp a.eval o).run X.P w = .ok (.value (.slice (some ⟨w.heap.size, 0, none⟩) ps.length ps.length)) (w.alloc (.cells out e)) := by
        obtain ⟨dst, op, type, pos, after, guard⟩ := o
        simp only at hop; subst hop
        refine run_v' (s := Instr.buildSlice t ps.length (parts.map fun (i, x) => (i, a.eval x))) ?_
        have hlim : ¬ ps.length * k > 2 ^ 24 := by omega
        have hpl : (parts.map fun (i, x) => (i, a.eval x)).toList = ps := by rw [Array.toList_map]; exact hpe
        have hpost : ∀ zz : Array Value, (match Instr.fill (fun i => some (i * k, k)) ((Array.range (ps.length * k)).map fun x => zz[x % zz.size]!) ps with
            | some cells => (do pure (.slice (some (← newRow e cells)) ps.length ps.length) : Sem Value)
            | _ => stuck "buildSlice: a part of the wrong size").run X.P w = .ok (.slice (some ⟨w.heap.size, 0, none⟩) ps.length ps.length) (w.alloc (.cells out e)) := by
          intro zz
          rw [hfill _ (by simp)]
          simp [newRow]
        simp only [Instr.buildSlice, Sem.run_bind, run_underlying_some ht, Result.andThen_ok, hse, hlim, if_false, hpl]
        by_cases h0 : ps.length * k = 0
        · rw [if_pos h0]; exact hpost #[]
        · rw [if_neg h0]
          simp only [Sem.run_bind, hzero, Result.andThen_ok, Sem.run_pure]
          exact hpost z.cells
      unfold Oper.wp
      rw [hrun, Oper.upon_value, hdst]
      have hst : Step (fun _ => False) w (w.alloc (.cells out e)) := ⟨rfl, rfl, rfl, by simp, fun b hb _ => Below.heap_alloc w _ b hb⟩
      have hfl : (flat (ps.map (·.2))).length = ps.length * k := by rw [flat_length _ h5, List.length_map]
      have hpk : ps.length ≤ ps.length * k := Nat.le_mul_of_pos_right _ hkp
      have hrow0 : (w.alloc (.cells out e)).ownsRow w.heap.size e (X.P.cellsOf e) (.slice (some ⟨w.heap.size, 0, none⟩) ps.length ps.length) (ps.map (·.2)).length (flat (ps.map (·.2))) := by
        rw [hcell, List.length_map]
        exact ⟨hfl, .inr ⟨w.heap.size, ps.length, out, rfl, Nat.le_refl _, Go.heap_alloc_new w _, Nat.le_refl _, by unfold maxLen; omega, by rw [← Array.length_toList, ho2, hfl], by rw [ho2, List.take_of_length_le (by rw [hfl]; exact Nat.le_refl _)]⟩⟩
      obtain ⟨g', hrep⟩ := h.row (i := none) (d := d) (e := e) (m := σ.rd) hd' (v := .slice (some ⟨w.heap.size, 0, none⟩) ps.length ps.length) (vs := ps.map (·.2)) hst (fun _ hc => hc.elim)
        (fun β hβ => by
          obtain ⟨⟨p, ty, h6, h7⟩, h8, h9⟩ := h.rd β hβ
          exact ⟨⟨p, ty, (hst.block β (Array.getElem?_eq_some_iff.1 h6).1 fun hc => hc).trans h6, h7⟩, h8.step hst (fun _ _ hf => hf) (fun _ _ hc => hc.elim), h9⟩) hel'
        (.inr ⟨w.heap.size, rfl, .inr (Nat.le_refl _), by simp, hrow0⟩)
      exact hK _ _ _ _ hk hrep
    · exact hs.elim
  · -- makeMap
    rename_i t d hgd hop hdst
    rw [if_pos (wanted_none hgd)]
    obtain ⟨hT, hk⟩ := hs
    have hrun : (execOp a.eval o).run X.P w = .ok (.value (.map (some w.heap.size))) (w.alloc (.map #[] 0)) := by
      obtain ⟨dst, op, type, pos, after, guard⟩ := o
      simp only at hop; subst hop
      exact run_v' (s := Instr.makeMap t none) (by simp [Instr.makeMap])
    unfold Oper.wp
    rw [hrun, Oper.upon_value, hdst]
    rw [hdst] at hd
    have hr := h.allocO d (.map #[] 0)
    refine hK _ _ _ _ hk (hr.put (by simpa [dstOk] using hd) ⟨w.heap.size, by simp [updO], rfl, mapT_spec hT w⟩)
  · -- mapUpdate
    rename_i t m x v hgd hop hdst
    rw [if_pos (wanted_none hgd)]
    split at hs
    · rename_i d t' ks st hm hx hv
      obtain ⟨⟨rfl, h1, h2, h3⟩, hk⟩ := hs
      have hva := vaAll_spec _ h1
      have hrm := h.val (hva m (by simp))
      have hrx := h.val (hva x (by simp))
      have hrv := h.val (hva v (by simp))
      rw [hm] at hrm
      rw [hx] at hrx
      rw [hv] at hrv
      simp only [RepV] at hrx hrv
      obtain ⟨w', hrun, hrep⟩ := h.mapUp hrm h2 h3
      have hrun' : (execOp a.eval o).run X.P w = .ok .skip w' := by
        obtain ⟨dst, op, type, pos, after, guard⟩ := o
        simp only at hop; subst hop
        simp only [execOp, hrx, hrv]
        exact run_u hrun
      unfold Oper.wp
      rw [hrun', Oper.upon_skip, hdst]
      exact hK _ _ _ _ hk hrep
    · exact hs.elim
  · -- build
    rename_i t parts d hgd hop hdst
    split at hs
    · exact astep_sound (Q := Q) h hd hs fun σ' a' w' hk hr => hK σ' g a' w' hk hr
    · rw [if_pos (wanted_none hgd)]
      split at hs
      · rename_i zs places ps hb hp
        split at hs
        · rename_i out hf
          obtain ⟨hva, hk⟩ := hs
          obtain ⟨o1, k1, k2, k3⟩ := fillA_sound (P := X.P) (F := Fb X g) (own := g.own) (rho := g.rho) (w := w) (ev := a.eval) (ρ := σ.val) places parts.toList ps zs _ out
            (fun p hp => h.val (vaAll_spec _ hva p.2 (List.mem_map_of_mem hp))) hp hf (by simp) (fun i c hi => by
              simp only [List.getElem?_map, Option.map_eq_some_iff] at hi
              obtain ⟨y, hy, rfl⟩ := hi
              exact ⟨y, hy, rfl⟩)
          have hb2 : (Instr.build t (parts.map fun (i, x) => (i, a.eval x))).run X.P w = .ok (.agg o1.toArray) w := by
            refine run_build hb ?_ w
            rw [Array.toList_map]
            exact k1
          have hrun : (execOp a.eval o).run X.P w = .ok (.value (.agg o1.toArray)) w := by
            obtain ⟨dst, op, type, pos, after, guard⟩ := o
            simp only at hop; subst hop
            exact run_v' (s := Instr.build t (parts.map fun (i, x) => (i, a.eval x))) hb2
          unfold Oper.wp
          rw [hrun, Oper.upon_value, hdst]
          rw [hdst] at hd
          exact hK _ g _ _ hk (h.put hd ⟨o1.toArray, rfl, by simpa using k2, fun j c hj => by simpa using k3 j c hj⟩)
        · exact hs.elim
      · exact hs.elim
  · -- a text of one byte
    rename_i src dst x d hgd hop hdst
    split at hs
    · rename_i d' e n hx
      obtain ⟨⟨hs1, he, hd1, hce, hva⟩, hk⟩ := hs
      rw [if_pos (wanted_none hgd)]
      have hv := h.val hva
      rw [hx] at hv
      have hsl := OwnR.sl0 (F := fun _ => False) hv (fun _ _ => id)
      obtain ⟨ad, cap, e1, _, _, _, q⟩ := hsl
      rcases q with q | ⟨b, off, rfl, _, _, hc⟩
      · cases q
      have hload : (loadCells ⟨b, off, none⟩ 1).run X.P w = .ok ([n].map (Value.int .u8)).toArray w := by
        refine run_loadCells_list w ⟨b, off, none⟩ ([n].map (Value.int .u8)) fun j v hj => ?_
        rw [Addr.add_mk]
        exact hc j v hj
      have hrun : (execOp a.eval o).run X.P w = .ok (.value (.string ⟨⟨[UInt8.ofNat n.toNat]⟩⟩)) w := by
        obtain ⟨dst', op, type, pos, after, guard⟩ := o
        simp only at hop; subst hop
        refine run_v' (s := convert src dst (a.eval x)) ?_
        rw [e1, run_convert_bytes_string w src dst e _ _ _ hs1 he hd1]
        exact run_bytesToString w ⟨b, off, none⟩ 1 cap [n] hload
      unfold Oper.wp
      rw [hrun, Oper.upon_value, hdst]
      rw [hdst] at hd
      exact hK _ _ _ _ hk (h.put hd rfl)
    · exact astep_sound h hd hs fun σ' a' w' hk hr => hK σ' g a' w' hk hr
  · -- call
    rename_i c d hgd hop hdst
    rw [if_pos (wanted_none hgd)]
    have hd' : slotOk X.N d = true := by rw [hdst] at hd; simpa [dstOk] using hd
    split at hs
    · -- append
      rename_i hcal
      split at hs
      · rename_i s x t t' hargs htys
        have happ : ∀ (v' : Value) (w' : World), (Builtin.append_ #[t, t] o.type #[a.eval s, a.eval x]).run X.P w = .ok v' w' → t' = t → (execOp a.eval o).run X.P w = .ok (.value v') w' := by
          intro v' w' hrun htt
          subst htt
          obtain ⟨dst, op, type, pos, after, guard⟩ := o
          simp only at hop; subst hop
          have ha : c.args.map a.eval = #[a.eval s, a.eval x] := by apply Array.ext'; simp [hargs]
          have hb : c.argTypes = #[t', t'] := by apply Array.ext'; simp [htys]
          simp only [execOp, resolve, hcal, Sem.run_bind, Sem.run_pure, Result.andThen_ok, invoke, builtin, ha, hb, hrun]
        have fin : ∀ (iopt : Option Nat) (e k by' di : Nat) (own0 : Nat → Option Nat) (vs ys : List Value), elemT X.P t = some (e, k, by') → t' = t → OwnR X.P own0 w di e (a.eval s) vs → Sl (fun _ => False) w (a.eval x) k ys →
            (vs.length + ys.length) * by' ≤ 140737488355328 → vs.length + ys.length ≤ 140737488355328 → (∀ b, own0 di = some b → ∃ ii, iopt = some ii ∧ g.own ii = some b) →
            K ((σ.map (AV.kill2 iopt d)).put (some d) (.own d e (vs ++ ys))) → o.wp X.P a w K' Q := by
          intro iopt e k by' di own0 vs ys hT htt hown hsl hb hl hio hk
          obtain ⟨_, _, _, _, _, _, _, _, _, hcell, _⟩ := elemT_spec hT
          obtain ⟨v', w', hrun, hst, hel, hrow⟩ := append_run (ty := o.type) hT hown hsl hb hl
          unfold Oper.wp
          rw [happ v' w' hrun htt, Oper.upon_value, hdst]
          obtain ⟨g', hrep⟩ := h.row (i := iopt) (d := d) (e := e) (m := σ.rd) hd' (v := v') (vs := vs ++ ys) hst (fun b hb => .inl (hio b hb))
            (fun β hβ => by
              obtain ⟨⟨p, ty, h6, h7⟩, h8, h9⟩ := h.rd β hβ
              refine ⟨⟨p, ty, (hst.block β (Array.getElem?_eq_some_iff.1 h6).1 fun hc => ?_).trans h6, h7⟩, h8.step hst (fun _ _ hf => hf) (fun b _ hc => ?_), h9⟩
              · obtain ⟨ii, _, h10⟩ := hio β hc; exact (h.new ii β h10).2.2 hβ
              · obtain ⟨ii, _, h10⟩ := hio b hc; exact .inr (.inl ⟨ii, h10⟩)) (by rw [hcell]; exact hel)
            (by rcases hrow with hr | ⟨b, r1, r2, r3, r4⟩
                · exact .inl hr
                · exact .inr ⟨b, r1, r2.imp (hio b) id, r3, by rw [hcell]; exact r4⟩)
          exact hK _ _ _ _ hk hrep
        split at hs
        · rename_i e k by' i e' vs ys hT hsv hxv
          obtain ⟨⟨htt, rfl, h3, h4, h5, h6⟩, hk⟩ := hs
          have hsr := h.val h3.1
          rw [hsv] at hsr
          exact fin (some i) e' k by' i g.own vs ys hT htt hsr (slOf_sl (h.val h3.2.1) hxv h6) h4 h5 (fun b hb => ⟨i, rfl, hb⟩) hk
        · rename_i e k by' ys hT hsv hxv
          obtain ⟨⟨htt, h3, h4, h5, h6⟩, hk⟩ := hs
          have hsr := h.val h3.1
          rw [hsv] at hsr
          simp only [RepV] at hsr
          exact fin none e k by' 0 (fun _ => none) [] ys hT htt ⟨fun y hy => (by cases hy), .inl ⟨hsr, rfl⟩⟩ (slOf_sl (h.val h3.2.1) hxv h6) (by simpa using h4) (by simpa using h5) (fun b hb => (by cases hb)) hk
        · exact hs.elim
      · exact hs.elim
    · have := astep_sound (Q := Q) h hd hs fun σ' a' w' hk hr => hK σ' g a' w' hk hr
      rwa [if_pos (wanted_none hgd)] at this
    · -- a function
      unfold acall at hs
      split at hs
      · exact hs.elim
      · rename_i f args hc
        obtain ⟨R, cost, hv, _, hrd, hall⟩ := hs
        refine acall_wp hop h hc hv.1 hv.2 (fun r hr => (hall r hr).1) hrd fun v r w' hr hst hrd' hres => ?_
        have hk := (hall r hr).2
        rw [hdst]
        have other : r.shr X.P = r → K ((σ.put (some d) r).addRd cost) → K' (a.put (some d) v) w' := by
          intro e hk
          refine hK _ g _ _ hk ?_
          rw [put_addRd]
          refine (h.step hst hrd').put (by simpa [dstOk] using hd') ?_
          have := hres.shr' (w' := w') h
          rwa [e] at this
        cases r
        case own d0 e vs =>
          obtain ⟨hel, hrow⟩ := hres
          obtain ⟨g', hrep⟩ := h.row (i := none) (d := d) (e := e) (m := σ.rd + cost) hd' (v := v) (vs := vs) hst (fun b hb => .inr hb) hrd' hel
            (by rcases hrow with hr | ⟨b, r1, r2, r3⟩
                · exact .inl hr
                · refine .inr ⟨b, r2, .inr r1, ?_, r3⟩
                  rcases r3.2 with ⟨e0, _⟩ | ⟨b', _, _, e0, _, hh, _⟩
                  · rw [e0] at r2; simp [Value.ownBlock] at r2
                  · rw [e0] at r2
                    have : b' = b := by simpa [Value.ownBlock] using r2
                    subst this
                    exact (Array.getElem?_eq_some_iff.1 hh).1)
          exact hK _ _ _ _ hk hrep
        case bx d0 cells off =>
          obtain ⟨β, arr, ty, k1, k2, k3, k4, k5⟩ := hres
          obtain ⟨g', hrep⟩ := h.newbx (d := d) (m := σ.rd + cost) hd' hst hrd' k1 k2 k3 k4 k5
          exact hK _ _ _ _ hk hrep
        case tupo d0 e vs rest =>
          obtain ⟨y, hv', hel, hrow⟩ := hres
          obtain ⟨g', hrep⟩ := h.row (i := none) (d := d) (e := e) (m := σ.rd + cost) hd' (v := y) (vs := vs) hst (fun b hb => .inr hb) hrd' hel
            (by rcases hrow with hr | ⟨b, r1, r2, r3⟩
                · exact .inl hr
                · refine .inr ⟨b, r2, .inr r1, ?_, r3⟩
                  rcases r3.2 with ⟨e0, _⟩ | ⟨b', _, _, e0, _, hh, _⟩
                  · rw [e0] at r2; simp [Value.ownBlock] at r2
                  · rw [e0] at r2
                    have : b' = b := by simpa [Value.ownBlock] using r2
                    subst this
                    exact (Array.getElem?_eq_some_iff.1 hh).1)
          have hown := hrep.rep d
          have hsz := h.size
          have e1 : (a.put (some d) y).tmps.getD d undef = y := by
            simp only [Act.put, Array.getD_eq_getD_getElem?]
            rw [Array.getElem?_setIfInBounds_self_of_lt (by rw [h.size]; exact slotOk_lt hd')]; rfl
          rw [e1] at hown
          have e2 : ∀ σ : AState, (σ.put (some d) (.own d e vs)).get d = .own d e vs := fun σ => by simp [AState.put, AState.get, List.lookup]
          rw [e2] at hown
          have h2 := hrep.put (d := some d) (by simpa [dstOk] using hd') (v := v) (x := .tupo d e vs rest) ⟨y, hv', hown⟩
          have e3 : (a.put (some d) y).put (some d) v = a.put (some d) v := by simp [Act.put]
          rw [e3] at h2
          exact hK _ g' _ _ hk (h2.eqv ⟨fun t => by
            simp only [AState.put, AState.get, List.lookup]
            split <;> rfl, rfl⟩)
        case rd =>
          obtain ⟨hfr, hk⟩ := hk
          obtain ⟨β, s, bs, k1, k2, k3⟩ := hres
          have hfree : g.rho = none := by
            have h9 := h.rep 999
            generalize σ.get 999 = av at hfr h9
            cases av <;> first | exact hfr.elim | exact h9
          obtain ⟨g', hrep⟩ := h.newrd (d := d) hd' hfree hst k1 k2 k3
          exact hK _ g' _ _ hk hrep
        case free => exact (hres : False).elim
        case vw d' k vs => exact (hres : False).elim
        case mp d' t' ks => exact (hres : False).elim
        all_goals exact other rfl hk
  · exact astep_sound (Q := Q) h hd hs fun σ' a' w' hk hr => hK σ' g a' w' hk hr
end
end Go.Proofs.YtellipmolheaaaaDoor
