import Derived.Test.YtlmlnbmagmembaaDoorConJJ
import Derived.Test.YtlmlnbmagmembaaDoorConII
set_option linter.unusedVariables false
set_option linter.unusedSimpArgs false
set_option maxRecDepth 10000
namespace Go.Proofs.YtlmlnbmagmembaaDoor
open Go Go.RowKit Go.Shelf

attribute [local go_sem] Oper.semAt_some

/-! ### removals: the program's side -/

theorem fil_step {t : List Nod} {i : Nat} {x : Nod} (hx : t[i]? = some x) (p : List UInt8) : (t.take (i + 1)).filter (inC p) = (t.take i).filter (inC p) ++ if inC p x = true then [x] else [] := by
  rw [List.take_add_one, hx, List.filter_append]
  congr 1
  by_cases h : inC p x = true <;> simp [h]

theorem from_i (t : List Nod) (p : List UInt8) (hl : t.length ≤ 11) (hp : p.length ≤ 1000000) : ACalls Tryd.prog 74 [.sl 3 (t.map nodV), .v (strV p)] 0
    (fun r => ∃ d, r = .own d 33 ((t.filter (inC p)).map nodV)) := by
  refine ACalls.co (R := fun r => (r = .v (.slice none 0 0) ∧ t.filter (inC p) = []) ∨ ∃ d, r = .own d 33 ((t.filter (inC p)).map nodV)) ?_ fun r hr => ?_
  rotate_left
  · rcases hr with ⟨rfl, h⟩ | ⟨d, rfl⟩
    · exact ⟨_, co_nil 0 33, 0, by rw [h]; rfl⟩
    · exact ⟨_, Co.refl _, d, rfl⟩
  refine acalls_of Tryd.func74 Tryd.ntmps74 (by kernel_rfl) rfl rfl fun X hP hN m hm => ?_
  repeat' (first | (with_reducible refine BWp.of ?_) | (with_reducible refine bcall.of ?_) | (with_reducible refine awp_seq ?_) | (with_reducible refine awp_block ?_) | ((first | (with_reducible refine awp_region' hP hN ?_; refine ⟨_, rfl, rfl, ?_⟩) | (with_reducible refine awp_ret ?_) | (with_reducible refine awp_skip ?_) | (with_reducible refine awp_exit ?_) | (with_reducible refine awp_label ?_)); simp only [↓aXs, ↓aX, ↓aList, ↓astep, ↓aThen, ↓aBlock, ↓AWp_eq, ↓acall_eq, push_cast, Nat.reduceBEq, Nat.reduceAdd, Nat.reduceMul, Nat.reduceSub, Nat.reduceLeDiff, Nat.reduceLT, Int.reduceLE, Int.reduceLT, Int.reduceToNat, reduceCtorEq, Nat.reduceEqDiff, reduceIte, aEnd]) | ((with_reducible refine And.intro ?_ ?_); (focus (first | (with_reducible trivial) | (with_reducible assumption) | omega | (simp_all; done) | (simp_all; omega)))) | (with_reducible exact Nat.le_refl _) | (with_reducible refine awp_cond' ?_; refine ⟨_, rfl, ?_, ?_⟩ <;> intro hc <;> (try simp only [↓aXs, ↓aX, ↓aList, ↓astep, ↓aThen, ↓aBlock, ↓AWp_eq, ↓acall_eq, push_cast, Nat.reduceBEq, Nat.reduceAdd, Nat.reduceMul, Nat.reduceSub, Nat.reduceLeDiff, Nat.reduceLT, Int.reduceLE, Int.reduceLT, Int.reduceToNat, reduceCtorEq, Nat.reduceEqDiff, reduceIte, aEnd] at hc) <;> (try contradiction) <;> (try omega)) | fail)
  refine awp_loop (fun i : Nat => i ≤ t.length)
    (fun i => ⟨[(10, .v (.int .i64 (i : Nat))), (9, .v (.int .i64 (t.length : Nat))), (8, .sl 3 (t.map nodV)), (5, .own 1000 33 (((t.take i).filter (inC p)).map nodV)), (1, .v (strV p)), (0, .sl 3 (t.map nodV))], m⟩) (fun i => t.length - i)
    ⟨0, Nat.zero_le _, les_of [] hP (by decide) (by decide) (Nat.le_refl _) (by simp only [↓aXs, ↓aX, ↓aList, ↓astep, ↓aThen, ↓aBlock, ↓AWp_eq, ↓acall_eq, push_cast, Nat.reduceBEq, Nat.reduceAdd, Nat.reduceMul, Nat.reduceSub, Nat.reduceLeDiff, Nat.reduceLT, Int.reduceLE, Int.reduceLT, Int.reduceToNat, reduceCtorEq, Nat.reduceEqDiff, reduceIte, aEnd] <;> simp)⟩ ?_
  intro i g1
  rcases Nat.lt_or_ge i t.length with hlt | hge
  · obtain ⟨x, hx⟩ := at_some hlt
    have hst := fil_step hx p
    have hcl := List.length_filter_le (inC p) (t.take i)
    rw [List.length_take] at hcl
    repeat' (first | (with_reducible refine BWp.of ?_) | (with_reducible refine bcall.of ?_) | (with_reducible refine awp_seq ?_) | (with_reducible refine awp_block ?_) | ((first | (with_reducible refine awp_region' hP hN ?_; refine ⟨_, rfl, rfl, ?_⟩) | (with_reducible refine awp_ret ?_) | (with_reducible refine awp_skip ?_) | (with_reducible refine awp_exit ?_) | (with_reducible refine awp_label ?_)); simp only [↓aXs, ↓aX, ↓aList, ↓astep, ↓aThen, ↓aBlock, ↓AWp_eq, ↓acall_eq, push_cast, Nat.reduceBEq, Nat.reduceAdd, Nat.reduceMul, Nat.reduceSub, Nat.reduceLeDiff, Nat.reduceLT, Int.reduceLE, Int.reduceLT, Int.reduceToNat, reduceCtorEq, Nat.reduceEqDiff, reduceIte, aEnd, hx]) | ((with_reducible refine And.intro ?_ ?_); (focus (first | (with_reducible trivial) | (with_reducible assumption) | omega | (simp_all; done) | (simp_all; omega)))) | (with_reducible exact Nat.le_refl _) | (with_reducible refine awp_cond' ?_; refine ⟨_, rfl, ?_, ?_⟩ <;> intro hc <;> (try simp only [↓aXs, ↓aX, ↓aList, ↓astep, ↓aThen, ↓aBlock, ↓AWp_eq, ↓acall_eq, push_cast, Nat.reduceBEq, Nat.reduceAdd, Nat.reduceMul, Nat.reduceSub, Nat.reduceLeDiff, Nat.reduceLT, Int.reduceLE, Int.reduceLT, Int.reduceToNat, reduceCtorEq, Nat.reduceEqDiff, reduceIte, aEnd, hx] at hc) <;> (try contradiction) <;> (try omega)) | (refine acall_det rfl (under_i p x.p hp) (by ((try simp only [↓aXs, ↓aX, ↓aList, ↓astep, ↓aThen, ↓aBlock, ↓AWp_eq, ↓acall_eq, push_cast, Nat.reduceBEq, Nat.reduceAdd, Nat.reduceMul, Nat.reduceSub, Nat.reduceLeDiff, Nat.reduceLT, Int.reduceLE, Int.reduceLT, Int.reduceToNat, reduceCtorEq, Nat.reduceEqDiff, reduceIte, aEnd, hx]); try (first | (with_reducible trivial) | (with_reducible assumption) | omega | (simp_all; done) | (simp_all; omega)))) (by (first | (intro _; rfl) | (simp only [↓aXs, ↓aX, ↓aList, ↓astep, ↓aThen, ↓aBlock, ↓AWp_eq, ↓acall_eq, push_cast, Nat.reduceBEq, Nat.reduceAdd, Nat.reduceMul, Nat.reduceSub, Nat.reduceLeDiff, Nat.reduceLT, Int.reduceLE, Int.reduceLT, Int.reduceToNat, reduceCtorEq, Nat.reduceEqDiff, reduceIte, aEnd, hx]; first | done | (with_reducible trivial) | (with_reducible assumption) | omega | (simp_all; done) | (simp_all; omega)))) (by ((try simp only [↓aXs, ↓aX, ↓aList, ↓astep, ↓aThen, ↓aBlock, ↓AWp_eq, ↓acall_eq, push_cast, Nat.reduceBEq, Nat.reduceAdd, Nat.reduceMul, Nat.reduceSub, Nat.reduceLeDiff, Nat.reduceLT, Int.reduceLE, Int.reduceLT, Int.reduceToNat, reduceCtorEq, Nat.reduceEqDiff, reduceIte, aEnd, hx]); first | done | (unfold LIM at *; omega))) ?_; simp only [↓aXs, ↓aX, ↓aList, ↓astep, ↓aThen, ↓aBlock, ↓AWp_eq, ↓acall_eq, push_cast, Nat.reduceBEq, Nat.reduceAdd, Nat.reduceMul, Nat.reduceSub, Nat.reduceLeDiff, Nat.reduceLT, Int.reduceLE, Int.reduceLT, Int.reduceToNat, reduceCtorEq, Nat.reduceEqDiff, reduceIte, aEnd, hx]) | fail)
    · have hi : inC p x = true := by rw [inC]; assumption
      exact ⟨i + 1, by omega, by omega, les_of [(27, 1000)] hP (by decide) (by decide) (Nat.le_refl _) (by simp only [↓aXs, ↓aX, ↓aList, ↓astep, ↓aThen, ↓aBlock, ↓AWp_eq, ↓acall_eq, push_cast, Nat.reduceBEq, Nat.reduceAdd, Nat.reduceMul, Nat.reduceSub, Nat.reduceLeDiff, Nat.reduceLT, Int.reduceLE, Int.reduceLT, Int.reduceToNat, reduceCtorEq, Nat.reduceEqDiff, reduceIte, aEnd] <;> simp [hst, hi, nodV])⟩
    · have hi : inC p x = false := by rw [inC]; assumption
      exact ⟨i + 1, by omega, by omega, les_of [(1000, 1000)] hP (by decide) (by decide) (Nat.le_refl _) (by simp only [↓aXs, ↓aX, ↓aList, ↓astep, ↓aThen, ↓aBlock, ↓AWp_eq, ↓acall_eq, push_cast, Nat.reduceBEq, Nat.reduceAdd, Nat.reduceMul, Nat.reduceSub, Nat.reduceLeDiff, Nat.reduceLT, Int.reduceLE, Int.reduceLT, Int.reduceToNat, reduceCtorEq, Nat.reduceEqDiff, reduceIte, aEnd] <;> simp [hst, hi])⟩
  · rw [List.take_of_length_le hge]
    repeat' (first | (with_reducible refine BWp.of ?_) | (with_reducible refine bcall.of ?_) | (with_reducible refine awp_seq ?_) | (with_reducible refine awp_block ?_) | ((first | (with_reducible refine awp_region' hP hN ?_; refine ⟨_, rfl, rfl, ?_⟩) | (with_reducible refine awp_ret ?_) | (with_reducible refine awp_skip ?_) | (with_reducible refine awp_exit ?_) | (with_reducible refine awp_label ?_)); simp only [↓aXs, ↓aX, ↓aList, ↓astep, ↓aThen, ↓aBlock, ↓AWp_eq, ↓acall_eq, push_cast, Nat.reduceBEq, Nat.reduceAdd, Nat.reduceMul, Nat.reduceSub, Nat.reduceLeDiff, Nat.reduceLT, Int.reduceLE, Int.reduceLT, Int.reduceToNat, reduceCtorEq, Nat.reduceEqDiff, reduceIte, aEnd]) | ((with_reducible refine And.intro ?_ ?_); (focus (first | (with_reducible trivial) | (with_reducible assumption) | omega | (simp_all; done) | (simp_all; omega)))) | (with_reducible exact Nat.le_refl _) | (with_reducible refine awp_cond' ?_; refine ⟨_, rfl, ?_, ?_⟩ <;> intro hc <;> (try simp only [↓aXs, ↓aX, ↓aList, ↓astep, ↓aThen, ↓aBlock, ↓AWp_eq, ↓acall_eq, push_cast, Nat.reduceBEq, Nat.reduceAdd, Nat.reduceMul, Nat.reduceSub, Nat.reduceLeDiff, Nat.reduceLT, Int.reduceLE, Int.reduceLT, Int.reduceToNat, reduceCtorEq, Nat.reduceEqDiff, reduceIte, aEnd] at hc) <;> (try contradiction) <;> (try omega)) | fail)
    exact ⟨_, rfl⟩

theorem calls_n {P : Program} {f : FuncId} {avs : List AV} {vals : Array Value} {R : AV → Prop} (h : ACalls P f avs 0 R) {W : World} (ha : ArgsR P (fun _ => False) none W vals avs) :
    Calls P f vals W fun e w' => ∃ rv r, e = .returned rv ∧ R r ∧ ResR P (fun _ => False) W w' rv r ∧ Step (fun _ => False) W w' :=
  (h.2 W (fun _ => False) none undef [] 0 vals (fun b hb => hb.elim) (fun b hb => (by cases hb)) (fun b hb => (by cases hb)) (by unfold LIM; omega) ha).mono fun e w' ⟨rv, r, he, hr, h6, h7, _⟩ => ⟨rv, r, he, hr, h6, h7.mono fun b _ hb => by cases hb⟩

theorem calls_r {P : Program} {f : FuncId} {avs : List AV} {vals : Array Value} {y : Value} (h : ACalls P f avs 0 (fun r => r = .v y)) {W : World} (ha : ArgsR P (fun _ => False) none W vals avs) :
    Calls P f vals W fun e w' => e = .returned y ∧ Step (fun _ => False) W w' :=
  (calls_n h ha).mono fun e w' ⟨rv, r, he, hr, h6, h7⟩ => by
    subst hr
    exact ⟨by rw [he, show rv = _ from h6], h7⟩

theorem args_1 {P : Program} {W : World} {y : Value} {a : AV} (h : RepV P (fun _ => False) (fun _ => none) none W y a) : ArgsR P (fun _ => False) none W #[y] [a] := ⟨rfl, fun j av hj => by
  match j with
  | 0 =>
    obtain rfl : a = av := by simpa using hj
    exact ⟨y, rfl, h⟩
  | _ + 1 => simp at hj⟩

theorem args_2 {P : Program} {W : World} {y z : Value} {a b : AV} (h : RepV P (fun _ => False) (fun _ => none) none W y a) (k : RepV P (fun _ => False) (fun _ => none) none W z b) : ArgsR P (fun _ => False) none W #[y, z] [a, b] := ⟨rfl, fun j av hj => by
  match j with
  | 0 =>
    obtain rfl : a = av := by simpa using hj
    exact ⟨y, rfl, h⟩
  | 1 =>
    obtain rfl : b = av := by simpa using hj
    exact ⟨z, rfl, k⟩
  | _ + 2 => simp at hj⟩

theorem two_arg {P : Program} {F : Nat → Prop} {rho : Option Nat} {w : World} {vals : Array Value} {a b : AV} (h : ArgsR P F rho w vals [a, b]) : ∃ y z, vals = #[y, z] ∧ RepV P F (fun _ => none) rho w y a ∧ RepV P F (fun _ => none) rho w z b := by
  obtain ⟨y0, hy0, hsl⟩ := h.2 0 _ rfl
  obtain ⟨y1, hy1, hs2⟩ := h.2 1 _ rfl
  refine ⟨y0, y1, ?_, hsl, hs2⟩
  have hs := h.1
  simp only [List.length_cons, List.length_nil] at hs
  apply Array.ext (by simpa using hs)
  intro j hj hj'
  match j with
  | 0 => simpa using (Array.getElem?_eq_some_iff.1 hy0).2
  | 1 => simpa using (Array.getElem?_eq_some_iff.1 hy1).2
  | _ + 2 => simp at hj'; omega

theorem Step.off {a b c : World} (h : Step (fun _ => False) a b) (k : Step (fun _ => False) b c) : Step (fun _ => False) a c := h.trans k fun _ _ _ => ⟨id, id⟩
theorem Step.new (w : World) (o : Obj) : Step (fun _ => False) w (w.alloc o) := ⟨rfl, rfl, rfl, by simp, fun b hb _ => Below.heap_alloc _ _ _ hb⟩
theorem Sl.off {F : Nat → Prop} {w W : World} {x : Value} {k : Nat} {vs : List Value} (h : Sl F w x k vs) (st : Step (fun _ => False) w W) : Sl (fun _ => False) W x k vs := h.step st (fun _ _ h => h.elim) (fun _ _ h => h.elim)

/-- what a call hands back that makes a row of nodes -/
theorem row_cells {P : Program} {W w' : World} {rv : Value} {d e : Nat} {vs : List Value} (h : ResR P (fun _ => False) W w' rv (.own d e vs)) :
    ∃ a cap, rv = .slice a vs.length cap ∧ vs.length ≤ cap ∧ (vs = [] ∨ ∃ b arr, a = some ⟨b, 0, none⟩ ∧ W.heap.size ≤ b ∧ w'.heap[b]? = some (.cells arr e (0, 0)) ∧ CellsAt w' b 0 vs) := by
  obtain ⟨hel, hr⟩ := h
  rcases hr with ⟨rfl, rfl⟩ | ⟨g, hg, hob, hrow⟩
  · exact ⟨none, 0, rfl, Nat.le_refl _, .inl rfl⟩
  · rcases hrow.2 with ⟨rfl, h0⟩ | ⟨g', cap, cur, rfl, _, hh, h1, h2, h3, h4⟩
    · have : vs = [] := List.length_eq_zero_iff.1 h0
      subst this
      exact ⟨none, 0, rfl, Nat.le_refl _, .inl rfl⟩
    · have hgg : g' = g := by simpa [Value.ownBlock] using hob
      subst hgg
      refine ⟨_, cap, rfl, h1, .inr ⟨g', cur, rfl, hg, hh, fun j c hj => ?_⟩⟩
      have := ownsRow_cell hrow hob j c hj
      rwa [Nat.zero_add]

theorem tup_no {P : Program} (F : Nat → Prop) (w w' : World) : ResR P F w w' (.tuple #[.slice none 0 0, .bool false]) (.tup [.v (.slice none 0 0), .v (.bool false)]) := by
  refine ⟨_, rfl, rfl, fun j c hj => ?_⟩
  match j with
  | 0 =>
    obtain rfl : A0.v (.slice none 0 0) = c := by simpa using hj
    exact ⟨_, rfl, rfl⟩
  | 1 =>
    obtain rfl : A0.v (.bool false) = c := by simpa using hj
    exact ⟨_, rfl, rfl⟩
  | _ + 2 => simp at hj

def nod0 : Nod := ⟨[], ⟨0, 0⟩⟩
/-- what has been collected -/
def rems (ns : List Nod) (pre : List (Fin (ns.map nodV).length)) : List Value := pre.map fun x => cmdV (remC (ns.getD x.1 nod0))

theorem rems_all (ns : List Nod) : rems ns (n_down (ns.map nodV) (ns.map nodV).length) = (ns.reverse.map remC).map cmdV := by
  rw [rems, n_down, List.take_of_length_le (by simp), List.map_reverse, List.map_reverse, List.map_reverse]
  congr 1
  apply List.ext_getElem
  · simp
  · intro i h1 h2
    have : i < ns.length := by simpa using h1
    simp [List.getD, this]

theorem wpListIn_append_run {F : Fence} {n : Nat} {P : Program} {ops : Array Oper} {rest : List Oper} {Q : Exit → Act → World → Prop} {a : Act} {w w' : World} {o : Oper} {v' : Value} (s x : Operand) (t : TypeId)
    (hg : o.guard = none) (hop : o.op = Op.call { callee := Callee.builtin Builtin.append, args := #[s, x], argTypes := #[t, t] })
    (hrun : (Builtin.append_ #[t, t] o.type #[a.eval s, a.eval x]).run P w = .ok v' w') (hK : wpListIn F n P ops Q rest (a.put o.dst v') w') : wpListIn F n P ops Q (o :: rest) a w := by
  refine wpListIn_plain hg fun K hK' => ?_
  unfold Oper.wpIn
  refine ⟨?_, ?_⟩
  · simp [Oper.about, hop, resolve, Target.leads, Sem.run_pure]
  · rw [Oper.semAt_plain F _ _ (by rw [hop]; intro c hc'; cases hc')]
    simp [execOp, hop, resolve, invoke, builtin, hrun, Result.andThen]
    exact hK' _ _ hK

set_option maxRecDepth 100000 in
set_option maxHeartbeats 4000000 in
theorem remove_w (t : List Nod) (p : List UInt8) (hl : t.length ≤ 11) (hs : ∀ n ∈ t, n.p.length ≤ 16) (hp : p.length ≤ 20) : ACalls Tryd.prog 28 [.sl 3 (t.map nodV), .v (strV p)] 0
    (fun r => (r = .tup [.v (.slice none 0 0), .v (.bool false)] ∧ badR t p = true) ∨ (badR t p = false ∧ ∃ d, r = .tupo d 45 ((remL t p).map cmdV) [.bool true])) := by
  have ts : ∀ n ∈ t, n.p.length ≤ 1000000 := fun n hn => Nat.le_trans (hs n hn) (by decide)
  refine ⟨⟨_, Tryd.func28, by kernel_rfl, rfl⟩, fun w F rho s bs m vals h1 h2 h3 h4 h5 => ?_⟩
  obtain ⟨y, z, rfl, hsl, hz⟩ := two_arg h5
  obtain rfl : z = strV p := hz
  have hsl0 : Sl F w y 3 (t.map nodV) := hsl
  have c1 := fun (W : World) (st : Step (fun _ => False) w W) => calls_r (treeValid_i t (by omega) ts) (args_1 (hsl0.off st))
  have c2 := fun (W : World) => calls_r (W := W) (pathValid_i p (by omega)) (args_1 rfl)
  have c3 := fun (W : World) (st : Step (fun _ => False) w W) => calls_r (find_i t p (by omega)) (args_2 (hsl0.off st) rfl)
  have c4 := fun (W : World) (st : Step (fun _ => False) w W) => calls_n (from_i t p hl (by omega)) (args_2 (hsl0.off st) rfl)
  have hbe := badR_i (t := t) (a := p)
  clear hsl h5 hsl0
  generalize idxF (fun n : Nod => decide (n.p = p)) t = ix at *
  refine (callsIn_wide (n := 4)).1 ?_
  refine callsIn_of_wp_marks Tryd.func28 rfl trivial ?_ rfl
  simp only [Tryd.ntmps28, List.size_toArray, List.length_cons, List.length_nil, Nat.reduceAdd, Nat.reduceSub, Array.replicate_succ, Array.replicate_zero, List.push_toArray, List.append_toArray, List.nil_append, List.cons_append]
  cases hto : treeOk t with
  | false =>
    rw [hto] at c1 hbe
    gi_wp2_with (first
      | (refine ⟨trivial, ?_⟩; gi_at_call 57; refine (callsIn_wide.2 (c1 _ (Step.refl _ _))).mono ?_; rintro e w1 ⟨rfl, st1⟩)
      | (refine ⟨trivial, ?_⟩; gi_at_call 64; refine (callsIn_wide.2 (c2 _)).mono ?_; rintro e w2 ⟨rfl, st2⟩)
      | (refine ⟨trivial, ?_⟩; gi_at_call 72; refine (callsIn_wide.2 (c3 _ (st1.off st2))).mono ?_; rintro e w3 ⟨rfl, st3⟩)
      | (refine ⟨trivial, ?_⟩; gi_at_call 74; refine (callsIn_wide.2 (c4 _ (((st1.off st2).off st3).off (Step.new _ _)))).mono ?_; rintro e w4 ⟨rv, r, rfl, ⟨d0, rfl⟩, hrv, st4⟩; obtain ⟨a, cap, rfl, hcap, hls⟩ := row_cells hrv)
      | (refine ⟨trivial, ?_⟩; gi_at_call 73; refine (n_back_in Fence.wide _ trivial rfl _ _ _ _).mono ?_; rintro e w5 ⟨rfl, rfl⟩)
      | (refine ⟨trivial, ?_⟩))
    exact ⟨_, results_tmp2 rfl _ _ _, _, _, rfl, .inl ⟨rfl, by simpa using hbe.symm⟩, tup_no _ _ _, (st1).mono (fun _ _ h => h.elim), h3.stay (st1)⟩
  | true =>
  rw [hto] at c1 hbe
  cases hpo : pathOk p with
  | false =>
    rw [hpo] at c2 hbe
    gi_wp2_with (first
      | (refine ⟨trivial, ?_⟩; gi_at_call 57; refine (callsIn_wide.2 (c1 _ (Step.refl _ _))).mono ?_; rintro e w1 ⟨rfl, st1⟩)
      | (refine ⟨trivial, ?_⟩; gi_at_call 64; refine (callsIn_wide.2 (c2 _)).mono ?_; rintro e w2 ⟨rfl, st2⟩)
      | (refine ⟨trivial, ?_⟩; gi_at_call 72; refine (callsIn_wide.2 (c3 _ (st1.off st2))).mono ?_; rintro e w3 ⟨rfl, st3⟩)
      | (refine ⟨trivial, ?_⟩; gi_at_call 74; refine (callsIn_wide.2 (c4 _ (((st1.off st2).off st3).off (Step.new _ _)))).mono ?_; rintro e w4 ⟨rv, r, rfl, ⟨d0, rfl⟩, hrv, st4⟩; obtain ⟨a, cap, rfl, hcap, hls⟩ := row_cells hrv)
      | (refine ⟨trivial, ?_⟩; gi_at_call 73; refine (n_back_in Fence.wide _ trivial rfl _ _ _ _).mono ?_; rintro e w5 ⟨rfl, rfl⟩)
      | (refine ⟨trivial, ?_⟩))
    exact ⟨_, results_tmp2 rfl _ _ _, _, _, rfl, .inl ⟨rfl, by simpa using hbe.symm⟩, tup_no _ _ _, (st1.off st2).mono (fun _ _ h => h.elim), h3.stay (st1.off st2)⟩
  | true =>
  rw [hpo] at c2 hbe
  by_cases hix : ix < 0
  · rw [decide_eq_true hix] at hbe
    gi_wp2_with (first
      | (refine ⟨trivial, ?_⟩; gi_at_call 57; refine (callsIn_wide.2 (c1 _ (Step.refl _ _))).mono ?_; rintro e w1 ⟨rfl, st1⟩)
      | (refine ⟨trivial, ?_⟩; gi_at_call 64; refine (callsIn_wide.2 (c2 _)).mono ?_; rintro e w2 ⟨rfl, st2⟩)
      | (refine ⟨trivial, ?_⟩; gi_at_call 72; refine (callsIn_wide.2 (c3 _ (st1.off st2))).mono ?_; rintro e w3 ⟨rfl, st3⟩)
      | (refine ⟨trivial, ?_⟩; gi_at_call 74; refine (callsIn_wide.2 (c4 _ (((st1.off st2).off st3).off (Step.new _ _)))).mono ?_; rintro e w4 ⟨rv, r, rfl, ⟨d0, rfl⟩, hrv, st4⟩; obtain ⟨a, cap, rfl, hcap, hls⟩ := row_cells hrv)
      | (refine ⟨trivial, ?_⟩; gi_at_call 73; refine (n_back_in Fence.wide _ trivial rfl _ _ _ _).mono ?_; rintro e w5 ⟨rfl, rfl⟩)
      | (refine ⟨trivial, ?_⟩))
    exact ⟨_, results_tmp2 rfl _ _ _, _, _, rfl, .inl ⟨rfl, by simpa using hbe.symm⟩, tup_no _ _ _, ((st1.off st2).off st3).mono (fun _ _ h => h.elim), h3.stay ((st1.off st2).off st3)⟩
  · have hix' : 0 ≤ ix := by omega
    gi_wp2_with (first
      | (refine ⟨trivial, ?_⟩; gi_at_call 57; refine (callsIn_wide.2 (c1 _ (Step.refl _ _))).mono ?_; rintro e w1 ⟨rfl, st1⟩)
      | (refine ⟨trivial, ?_⟩; gi_at_call 64; refine (callsIn_wide.2 (c2 _)).mono ?_; rintro e w2 ⟨rfl, st2⟩)
      | (refine ⟨trivial, ?_⟩; gi_at_call 72; refine (callsIn_wide.2 (c3 _ (st1.off st2))).mono ?_; rintro e w3 ⟨rfl, st3⟩)
      | (refine ⟨trivial, ?_⟩; gi_at_call 74; refine (callsIn_wide.2 (c4 _ (((st1.off st2).off st3).off (Step.new _ _)))).mono ?_; rintro e w4 ⟨rv, r, rfl, ⟨d0, rfl⟩, hrv, st4⟩; obtain ⟨a, cap, rfl, hcap, hls⟩ := row_cells hrv)
      | (refine ⟨trivial, ?_⟩; gi_at_call 73; refine (n_back_in Fence.wide _ trivial rfl _ _ _ _).mono ?_; rintro e w5 ⟨rfl, rfl⟩)
      | (refine ⟨trivial, ?_⟩))
    rw [decide_eq_false (show ¬ ix < 0 by omega)] at hbe
    generalize hns : t.filter (inC p) = ns at *
    simp only [List.length_map] at hcap
    have st34 := (Step.new w3 (.cells #[.slice none 0 0] 35)).off st4
    have hs4 : w3.heap.size + 1 ≤ w4.heap.size := by have := st4.size; simpa using this
    have bO : Boxed w4 w3.heap.size 35 (.slice none 0 0) := (st4.block _ (by simp) id).trans (Boxed.new w3 35 (.slice none 0 0))
    have bN := Boxed.new w4 23 (.slice a ns.length cap)
    have hB4 : Below w3.heap.size w3 w4 := ⟨st34.os, st34.tape, st34.output, st34.size, fun k hk => st34.block k hk id⟩
    have hB0 : Below w3.heap.size w3 (w4.alloc (.cells #[.slice a ns.length cap] 23)) := hB4.alloc st34.size _
    obtain ⟨b0, arr0, t0, ho0, ht0, hne0, hls'⟩ : ∃ b0 arr0 t0, (w4.alloc (.cells #[.slice a ns.length cap] 23)).heap[b0]? = some (.cells arr0 t0 (0, 0)) ∧ t0 ≠ 45 ∧ b0 ≠ w3.heap.size ∧
        (ns.map nodV = [] ∨ ∃ off, a = some ⟨b0, off, none⟩ ∧ CellsAt (w4.alloc (.cells #[.slice a ns.length cap] 23)) b0 off (ns.map nodV)) := by
      rcases hls with h | ⟨b, arr, e, hb1, hb2, hc⟩
      · exact ⟨_, _, _, bN, by decide, by omega, .inl h⟩
      · have hb4 := (Array.getElem?_eq_some_iff.1 hb2).1
        exact ⟨b, arr, _, (Below.heap_alloc _ _ _ hb4).trans hb2, by decide, by simp at hb1; omega, .inr ⟨0, e, hc.step (Step.new _ _) hb4 id⟩⟩
    have hlt0 := (Array.getElem?_eq_some_iff.1 ho0).1
    have hls4 := st34.size
    clear hls hrv
    refine wpIn_rangeFunc_ownH rfl (by omega) (gf := 114) (lb := #[.pointer (some ⟨w4.heap.size, 0, none⟩)]) rfl trivial (enters_of Tryd.func114 (by kernel_rfl) rfl)
      (n_back_stops Fence.wide (4 - 1) trivial rfl (by omega) w4.heap.size b0 cap a (ns.map nodV) (nod_agg ns) (by rw [← hns]; simp; have := List.length_filter_le (inC p) t; omega) (by simp; omega) _ (by simp) hlt0 (by rw [List.length_map]; exact bN.cell) hls') (fun h k => h.trans k)
      (fun W l o o' hl h ho hw => ⟨World.putObj_heap_other (by omega), World.putObj_heap_other (by simp at hl; omega)⟩) (Below.refl _ _) (fun _ => rfl)
      (fun pre W => ((∃ v, Boxed W w3.heap.size 35 v ∧ W.ownsRow w3.heap.size 45 5 v (rems ns pre).length (flat (rems ns pre)) ∧ True) ∧ Boxed W w4.heap.size 23 (.slice a ns.length cap) ∧ W.heap[b0]? = some (.cells arr0 t0 (0, 0))) ∧ Below w3.heap.size w3 W)
      (fun _ _ _ => False)
      (OwnFrom.and (OwnFrom.and (Own.from (holdsRow_own w3.heap.size w3.heap.size 35 45 5 (fun pre => (rems ns pre).length) (fun pre => flat (rems ns pre)) (fun _ _ => True)) _) (OwnFrom.and (Own.from (boxed_own _ _ (fun _ => .slice a ns.length cap)) _) (Own.from (fun pre X Y row hx hg hr => (hg.block b0 (Array.getElem?_eq_some_iff.1 hx).1 fun e => by
        obtain ⟨o, ho, hc⟩ := hr b0 e.symm
        rw [hx] at ho
        cases ho
        cases hc).trans hx) _))) (ownFrom_below (Nat.le_refl _) (by simp; omega)))
      (fun _ _ _ _ _ hs _ _ => hs)
      ⟨⟨⟨_, bO.alloc _, World.ownsRow_nil _ _ _ _, trivial⟩, bN, ho0⟩, hB0⟩
      (fun x a' W => ∃ Bx, w4.heap.size < Bx ∧ W.heap[Bx]? = some (.cells (nodV (ns.getD x.1 nod0)).cells 33 (0, 0)) ∧ a' = { tmps := #[y, strV p, undef, undef, .slice none 0 0, .bool false,
          .pointer (some ⟨w3.heap.size, 0, none⟩), undef, .pointer (some ⟨Bx, 0, none⟩), y, .bool true, .bool false,
          .bool false, strV p, .bool true, .bool false, .bool false, .bool false, y, strV p,
          .int .i64 ix, .bool (decide (ix < 0)), .bool (decide (ix < 0)), y, strV p, .slice a ns.length cap,
          .func (.func 114) #[] #[.pointer (some ⟨w4.heap.size, 0, none⟩)], .int .i64 (x.1 : Int), nodV (ns.getD x.1 nod0), undef, undef, undef, undef, undef, undef, undef, undef, undef], defers := [] })
      ?hAx ?assign ?body ?done ?stop
    case hAx =>
      rintro x a' s A C row ⟨Bx, k1, k2, k3⟩ hg hr
      refine ⟨Bx, k1, (hg.block Bx (Array.getElem?_eq_some_iff.1 k2).1 fun e => ?_).trans k2, k3⟩
      obtain ⟨_, o, ho, hc⟩ := hr Bx e.symm
      rw [k2] at ho
      cases ho
      cases hc
    case assign =>
      rintro l pre x W K ⟨⟨⟨v, hv, hrow, _⟩, hN, hO⟩, hB⟩ hK
      have hxl : x.1 < ns.length := by have := x.2; simp at this; exact this
      rw [show (ns.map nodV)[x] = nodV (ns.getD x.1 nod0) by simp [List.getD, hxl]]
      have hNl := hN.lt
      have hOl := (Array.getElem?_eq_some_iff.1 hO).1
      generalize ns.getD x.1 nod0 = c at *
      simp only [nodV] at *
      gi_wp2
      exact hK _ _ ((KeepsOthers.alloc _ _).from _) ⟨Below.heap_alloc _ _ _ hOl, Below.heap_alloc _ _ _ hNl⟩ ⟨⟨⟨v, hv.alloc _, hrow.alloc _, trivial⟩, hN.alloc _, (Below.heap_alloc _ _ _ hOl).trans hO⟩, hB.alloc hB.size _⟩ ⟨W.heap.size, hNl, World.alloc_heap_new _ _, rfl⟩
    case body =>
      rintro l pre x a' W hl ⟨r, hr⟩ ⟨⟨⟨v, hv, hrow, _⟩, hN, hO⟩, hB⟩ ⟨Bx, hBx, bX, rfl⟩ hlt
      generalize hce : ns.getD x.1 nod0 = c at *
      have hc := hv.cell
      have hx0 : W.cell? ⟨Bx, 0, none⟩ = some (.string ⟨⟨c.p⟩⟩) := by simp [World.cell?, bX, nodV, Value.cells]
      have hx1 : W.cell? ⟨Bx, 1, none⟩ = some (.int .i64 c.c.k) := by simp [World.cell?, bX, nodV, Value.cells]
      have hx2 : W.cell? ⟨Bx, 2, none⟩ = some (.int .i64 c.c.v) := by simp [World.cell?, bX, nodV, Value.cells]
      have hT : elemT Tryd.prog 35 = some (45, 5, 48) := by kernel_rfl
      have hundx : rems ns (pre ++ [x]) = rems ns pre ++ [cmdV (remC (ns.getD x.1 nod0))] := by simp [rems]
      have hnl : ns.length ≤ 11 := by rw [← hns]; have := List.length_filter_le (inC p) t; omega
      have hundl : (rems ns pre).length ≤ 1000000 := by simp [rems] at hlt ⊢; omega
      obtain ⟨g, gc, w2, p1, p2, p2a, p3, p4, p5, p6, p7, p8, p9⟩ := push_own hT (by decide) (by decide) (cmd_elt [remC c] (cmdV (remC c)) (by simp)) hv hrow (Nat.le_refl _) hB.size (⟨rfl, rfl, rfl, Nat.le_refl _, fun _ _ _ => rfl⟩ : Step (fun _ => False) W.drew W) hundl
      rw [show (cmdV (remC c)).cells = #[.string ⟨⟨c.p⟩⟩, .int .i64 c.c.k, .int .i64 c.c.v, .int .i64 0, .int .i64 0] from rfl] at p1
      gi_wp2_with (gi_at_builtin; refine wpListIn_append_run (v' := .slice (some ⟨g, 0, none⟩) ((rems ns pre).length + 1) gc) (w' := w2) _ _ 35 rfl rfl (by exact p1) ?_)
      exact ⟨p7.from _, ⟨p9 _ _ _ _ hO ht0 hne0, p9 _ _ _ _ hN (by decide) (by omega)⟩, ⟨⟨⟨_, p5, by rw [hundx, hce]; exact p6, trivial⟩, (p9 _ _ _ _ hN (by decide) (by omega)).trans hN, (p9 _ _ _ _ hO ht0 hne0).trans hO⟩, hB.trans p8⟩⟩
    case done =>
      rintro D ys W hD rfl ⟨⟨⟨v, hv, hrow, _⟩, hN, hO⟩, hB⟩ hK
      have hc := hv.cell
      rw [rems_all] at hrow
      gi_wp2
      refine ⟨by simp, .inl ⟨_, _, rfl, run_takeDeferred hK, ?_⟩⟩
      have hbW := hB.trans (belowK_b (w := w3) (Nat.le_refl _) W D _ (.deferred none) (by simp at hD; omega) hK rfl rfl)
      have st5 : Step (fun _ => False) w3 (W.putObj D (.deferred none)) := ⟨hbW.os, hbW.tape, hbW.output, hbW.size, fun b hb _ => hbW.block b hb⟩
      have hrow' := ownsRow_putObj hrow (.deferred none) hK rfl
      have st0 := ((st1.off st2).off st3)
      refine ⟨_, results_tmp2 rfl _ _ _, _, .tupo 0 45 ((remL t p).map cmdV) [.bool true], rfl, .inr ⟨by simpa using hbe.symm, 0, rfl⟩, ?_, (st0.off st5).mono (fun _ _ h => h.elim), h3.stay (st0.off st5)⟩
      obtain ⟨q1, q2⟩ := own_res (P := Tryd.prog) (F := F) (by kernel_rfl) (cmd_elt _) st0.size hrow'
      rw [remL, hns]
      exact ⟨v, rfl, q1, q2⟩
    case stop =>
      rintro D c pre W _ _ h _
      exact h.elim

theorem remove_i (t : List Nod) (p : List UInt8) (hl : t.length ≤ 11) (hs : ∀ n ∈ t, n.p.length ≤ 16) (hp : p.length ≤ 20) : ACalls Tryd.prog 28 [.sl 3 (t.map nodV), .v (strV p)] 0
    (fun r => ∃ d, r = .tupo d 45 ((remF t p).1.map cmdV) [.bool (remF t p).2]) := by
  refine (remove_w t p hl hs hp).co fun r hr => ?_
  rcases hr with ⟨rfl, h⟩ | ⟨h, d, rfl⟩
  · exact ⟨_, co_tup 0 45 [.bool false], 0, by rw [remF, if_pos h]; rfl⟩
  · exact ⟨_, Co.refl _, d, by rw [remF, if_neg (by rw [h]; simp)]⟩

end Go.Proofs.YtlmlnbmagmembaaDoor
