import Derived.Test.YtellipmolheaaaaDoorConC
import Derived.WalkKit
import Derived.WalkSpells
set_option linter.unusedSimpArgs false
set_option maxRecDepth 10000
namespace Go.Proofs.YtellipmolheaaaaDoor
open Go Go.RowKit

/-! ### commands -/

def cmdOk (c : Cmd) : Bool := decide (0 < depthF c.p) && conOk c.f && conOk c.t && !(decide (c.f.k = c.t.k) && decide (c.f.v = c.t.v))
def undoF (c : Cmd) : Cmd := if cmdOk c = true then ⟨c.p, c.t, c.f⟩ else ⟨[], ⟨0, 0⟩, ⟨0, 0⟩⟩

theorem commandValid_s (c : Cmd) (h : c.p.length ≤ 2000000) : ACalls Tryd.prog 85 [.v (cmdV c)] 0 (fun r => r = .v (.bool (cmdOk c))) := by
  refine acalls_of Tryd.func85 Tryd.ntmps85 (by kernel_rfl) rfl rfl fun X hP hN m hm => ?_
  repeat' (first | (with_reducible refine BWp.of ?_) | (with_reducible refine bcall.of ?_) | (with_reducible refine awp_seq ?_) | (with_reducible refine awp_block ?_) | ((first | (with_reducible refine awp_region' hP hN ?_; refine ⟨_, rfl, rfl, ?_⟩) | (with_reducible refine awp_ret ?_) | (with_reducible refine awp_skip ?_) | (with_reducible refine awp_exit ?_) | (with_reducible refine awp_label ?_)); simp only [↓aXs, ↓aX, ↓aList, ↓astep, ↓aThen, ↓aBlock, ↓AWp_eq, ↓acall_eq, push_cast, Nat.reduceBEq, Nat.reduceAdd, Nat.reduceMul, Nat.reduceSub, Nat.reduceLeDiff, Nat.reduceLT, Int.reduceLE, Int.reduceLT, Int.reduceToNat, reduceCtorEq, Nat.reduceEqDiff, reduceIte, aEnd]) | ((with_reducible refine And.intro ?_ ?_); (focus (first | (with_reducible trivial) | (with_reducible assumption) | omega | (simp_all; done) | (simp_all; omega)))) | (with_reducible exact Nat.le_refl _) | (with_reducible refine awp_cond' ?_; refine ⟨_, rfl, ?_, ?_⟩ <;> intro hc <;> (try simp only [↓aXs, ↓aX, ↓aList, ↓astep, ↓aThen, ↓aBlock, ↓AWp_eq, ↓acall_eq, push_cast, Nat.reduceBEq, Nat.reduceAdd, Nat.reduceMul, Nat.reduceSub, Nat.reduceLeDiff, Nat.reduceLT, Int.reduceLE, Int.reduceLT, Int.reduceToNat, reduceCtorEq, Nat.reduceEqDiff, reduceIte, aEnd] at hc) <;> (try contradiction) <;> (try omega)) | (refine acall_det rfl (pathDepth_d _ h) (by ((try simp only [↓aXs, ↓aX, ↓aList, ↓astep, ↓aThen, ↓aBlock, ↓AWp_eq, ↓acall_eq, push_cast, Nat.reduceBEq, Nat.reduceAdd, Nat.reduceMul, Nat.reduceSub, Nat.reduceLeDiff, Nat.reduceLT, Int.reduceLE, Int.reduceLT, Int.reduceToNat, reduceCtorEq, Nat.reduceEqDiff, reduceIte, aEnd]); try (first | (with_reducible trivial) | (with_reducible assumption) | omega | (simp_all; done) | (simp_all; omega)))) (by (first | (intro _; rfl) | (simp only [↓aXs, ↓aX, ↓aList, ↓astep, ↓aThen, ↓aBlock, ↓AWp_eq, ↓acall_eq, push_cast, Nat.reduceBEq, Nat.reduceAdd, Nat.reduceMul, Nat.reduceSub, Nat.reduceLeDiff, Nat.reduceLT, Int.reduceLE, Int.reduceLT, Int.reduceToNat, reduceCtorEq, Nat.reduceEqDiff, reduceIte, aEnd]; first | done | (with_reducible trivial) | (with_reducible assumption) | omega | (simp_all; done) | (simp_all; omega)))) (by ((try simp only [↓aXs, ↓aX, ↓aList, ↓astep, ↓aThen, ↓aBlock, ↓AWp_eq, ↓acall_eq, push_cast, Nat.reduceBEq, Nat.reduceAdd, Nat.reduceMul, Nat.reduceSub, Nat.reduceLeDiff, Nat.reduceLT, Int.reduceLE, Int.reduceLT, Int.reduceToNat, reduceCtorEq, Nat.reduceEqDiff, reduceIte, aEnd]); first | done | (unfold LIM at *; omega))) ?_; simp only [↓aXs, ↓aX, ↓aList, ↓astep, ↓aThen, ↓aBlock, ↓AWp_eq, ↓acall_eq, push_cast, Nat.reduceBEq, Nat.reduceAdd, Nat.reduceMul, Nat.reduceSub, Nat.reduceLeDiff, Nat.reduceLT, Int.reduceLE, Int.reduceLT, Int.reduceToNat, reduceCtorEq, Nat.reduceEqDiff, reduceIte, aEnd]) | (refine acall_det rfl (contentValid_s _) (by ((try simp only [↓aXs, ↓aX, ↓aList, ↓astep, ↓aThen, ↓aBlock, ↓AWp_eq, ↓acall_eq, push_cast, Nat.reduceBEq, Nat.reduceAdd, Nat.reduceMul, Nat.reduceSub, Nat.reduceLeDiff, Nat.reduceLT, Int.reduceLE, Int.reduceLT, Int.reduceToNat, reduceCtorEq, Nat.reduceEqDiff, reduceIte, aEnd]); try (first | (with_reducible trivial) | (with_reducible assumption) | omega | (simp_all; done) | (simp_all; omega)))) (by (first | (intro _; rfl) | (simp only [↓aXs, ↓aX, ↓aList, ↓astep, ↓aThen, ↓aBlock, ↓AWp_eq, ↓acall_eq, push_cast, Nat.reduceBEq, Nat.reduceAdd, Nat.reduceMul, Nat.reduceSub, Nat.reduceLeDiff, Nat.reduceLT, Int.reduceLE, Int.reduceLT, Int.reduceToNat, reduceCtorEq, Nat.reduceEqDiff, reduceIte, aEnd]; first | done | (with_reducible trivial) | (with_reducible assumption) | omega | (simp_all; done) | (simp_all; omega)))) (by ((try simp only [↓aXs, ↓aX, ↓aList, ↓astep, ↓aThen, ↓aBlock, ↓AWp_eq, ↓acall_eq, push_cast, Nat.reduceBEq, Nat.reduceAdd, Nat.reduceMul, Nat.reduceSub, Nat.reduceLeDiff, Nat.reduceLT, Int.reduceLE, Int.reduceLT, Int.reduceToNat, reduceCtorEq, Nat.reduceEqDiff, reduceIte, aEnd]); first | done | (unfold LIM at *; omega))) ?_; simp only [↓aXs, ↓aX, ↓aList, ↓astep, ↓aThen, ↓aBlock, ↓AWp_eq, ↓acall_eq, push_cast, Nat.reduceBEq, Nat.reduceAdd, Nat.reduceMul, Nat.reduceSub, Nat.reduceLeDiff, Nat.reduceLT, Int.reduceLE, Int.reduceLT, Int.reduceToNat, reduceCtorEq, Nat.reduceEqDiff, reduceIte, aEnd]) | fail)
  rfl

/-! ### the reader -/

theorem wp_hide {P : Program} {R0 R1 C : Code} {Q : Exit → Act → World → Prop} {a0 : Act} {w0 : World} (K : Act → World → Prop) (h1 : ∀ C', (∀ a w, K a w → C'.wp P Q a w) → (Code.seq R0 (Code.seq R1 C')).wp P Q a0 w0) (h2 : ∀ a w, K a w → C.wp P Q a w) : (Code.seq R0 (Code.seq R1 C)).wp P Q a0 w0 := h1 C h2

theorem byte_at {bs : List UInt8} {i : Nat} (h : i < (bytesV bs).length) : ∃ b : UInt8, (bytesV bs)[i]? = some (.int .u8 b.toNat) := by
  simp only [bytesV, List.length_map] at h ⊢
  exact ⟨bs[i], by simp [h]⟩
theorem pick_len {n : Int} {l : Nat} (h : (decide (n < 1) || decide ((l : Int) = 0)) = false) : 0 < l := by
  simp at h; omega
theorem mod_in {a : Int} {l : Nat} (_ : 0 ≤ a) (hl : 0 < l) : (a % (l : Int)).toNat < l := by
  have h1 := Int.emod_nonneg a (b := (l : Int)) (by omega)
  have h2 := Int.emod_lt_of_pos a (b := (l : Int)) (by omega)
  omega

theorem pick_c (n : Int) (h0 : 1 ≤ n) (hn : n ≤ 2000000) : ACalls Tryd.prog 65 [.rd, .v (.int .i64 n)] 1 (fun r => ∃ k : Int, 0 ≤ k ∧ k < n ∧ r = .v (.int .i64 k)) := by
  refine ⟨⟨_, Tryd.func65, by kernel_rfl, rfl⟩, fun w F rho s bs m vals h1 h2 h3 h4 h5 => ?_⟩
  obtain ⟨x0, hx0, β, hβ, rfl⟩ := h5.2 0 .rd rfl
  obtain ⟨x1, hx1, rfl⟩ := h5.2 1 _ rfl
  have hv : vals = #[.pointer (some ⟨β, 0, none⟩), .int .i64 n] := by
    have hs := h5.1
    simp only [List.length_cons, List.length_nil] at hs
    apply Array.ext (by simpa using hs)
    intro i hi hi'
    match i with
    | 0 => simpa using (Array.getElem?_eq_some_iff.1 hx0).2
    | 1 => simpa using (Array.getElem?_eq_some_iff.1 hx1).2
    | _ + 2 => simp at hi'; omega
  subst hv
  obtain ⟨⟨p, ty, hh, hp, hpm⟩, hsl, hbs⟩ := h3 β hβ
  have hFβ := h2 β hβ
  have c1 : w.cell? ⟨β, 0 + 1, none⟩ = some (.int .i64 p) := by simp [World.cell?, hh]
  have fz : w.frozen? ⟨β, 0 + 1, none⟩ = false := by simp [World.frozen?, hh]
  have hlim : m + 1 ≤ 1099511627776 := h4
  have hpl : p + 1 ≤ 1099511627776 := by omega
  go_enter Tryd.func65, Tryd.ntmps65
  refine wp_hide (fun a w' => a.tmps.size = 99 ∧ a.defers = [] ∧ a.tmps.getD 0 undef = .pointer (some ⟨β, 0, none⟩) ∧ a.tmps.getD 1 undef = .int .i64 n ∧ w' = w.setCell ⟨β, 1, none⟩ (.int .i64 (p + 1))) ?_ ?_
  · intro C hC
    go_wp2
    exact hC _ _ ⟨rfl, rfl, rfl, rfl, rfl⟩
  · intro a w' ⟨k1, k2, k3, k4, k5⟩
    have hP : (⟨Tryd.prog, w', fun b => F b ∧ b ≠ β, none, 99, s, bs, fun _ => False, undef⟩ : Ctx).P = Tryd.prog := rfl
    have hN : (⟨Tryd.prog, w', fun b => F b ∧ b ≠ β, none, 99, s, bs, fun _ => False, undef⟩ : Ctx).N = 99 := rfl
    have hm : m + 1 ≤ LIM := h4
    have hβl : β < w.heap.size := h1 β hFβ
    have hh' : w'.heap[β]? = some (.cells #[s, .int .i64 (p + 1)] ty (0, 0)) := by
      rw [k5]
      simp only [World.setCell]
      rw [Array.getElem?_modify]
      simp [hh]
    have hst : Step (fun b => b = β) w w' := by
      rw [k5]
      refine ⟨rfl, rfl, rfl, by simp [World.setCell], fun b hb hne => ?_⟩
      simp only [World.setCell]
      rw [Array.getElem?_modify]
      simp [Ne.symm hne]
    refine awp_body (X := ⟨Tryd.prog, w', fun b => F b ∧ b ≠ β, none, 99, s, bs, fun _ => False, undef⟩) (g := ⟨fun _ => none, none, s, bs⟩) (σ := ⟨[(1, .v (.int .i64 n)), (0, .ptr [.sl 1 (bytesV bs), .v (.int .i64 (p + 1))] 0)], m⟩) (M := m + 1) (R := fun r => ∃ k : Int, 0 ≤ k ∧ k < n ∧ r = .v (.int .i64 k)) rfl (fun _ hf => hf) ?_ ?_ ?_
    · have hF' : Fb ⟨Tryd.prog, w', fun b => F b ∧ b ≠ β, none, 99, s, bs, fun _ => False, undef⟩ ⟨fun _ => none, none, s, bs⟩ = fun b => F b ∧ b ≠ β := funext fun b => propext ⟨fun hb => (by rcases hb with hb | ⟨d, hd⟩ | hb <;> first | exact hb | cases hd | cases hb), .inl⟩
      have hsz : w'.heap.size = w.heap.size := by rw [k5]; simp [World.setCell]
      refine { size := k1, defers := k2, frame := Step.refl _ _, low := fun b hb => (by rw [hsz]; exact h1 b hb.1), inj := fun d d' b hd => (by cases hd), new := fun d b hd => (by cases hd), rhoF := fun b hb => (by cases hb), rho := .inl rfl, keep := fun _ => ⟨rfl, rfl⟩, rd := fun b hb => (by cases hb), rep := ?_, hH := fun _ hf => hf.elim, pin := fun h => absurd h (by simp only; omega) }
      intro t
      rw [hF']
      match t with
      | 0 =>
        refine ⟨β, 0, k3, fun hb => hb.2 rfl, hsz ▸ hβl, fun i c hc => ?_⟩
        match i with
        | 0 =>
          simp only [List.getElem?_cons_zero, Option.some.injEq] at hc
          subst hc
          exact ⟨s, by simp [World.cell?, hh'], hsl.step hst (fun b _ hb => hb.1) (fun b _ hb => hb ▸ hFβ)⟩
        | 1 =>
          simp only [List.getElem?_cons_succ, List.getElem?_cons_zero, Option.some.injEq] at hc
          subst hc
          exact ⟨_, by simp [World.cell?, hh'], rfl⟩
        | _ + 2 => simp at hc
      | 1 => exact k4
      | _ + 2 => trivial
    · generalize (⟨Tryd.prog, w', fun b => F b ∧ b ≠ β, none, 99, s, bs, fun _ => False, undef⟩ : Ctx) = X at hP hN
      have hbl : (bytesV bs).length = bs.length := by simp [bytesV]
      repeat' (first | (with_reducible refine BWp.of ?_) | (with_reducible refine bcall.of ?_) | (with_reducible refine awp_seq ?_) | (with_reducible refine awp_block ?_) | ((first | (with_reducible refine awp_region' hP hN ?_; refine ⟨_, rfl, rfl, ?_⟩) | (with_reducible refine awp_ret ?_) | (with_reducible refine awp_skip ?_) | (with_reducible refine awp_exit ?_) | (with_reducible refine awp_label ?_)); simp only [↓aXs, ↓aX, ↓aList, ↓astep, ↓aThen, ↓aBlock, ↓AWp_eq, ↓acall_eq, push_cast, Nat.reduceBEq, Nat.reduceAdd, Nat.reduceMul, Nat.reduceSub, Nat.reduceLeDiff, Nat.reduceLT, Int.reduceLE, Int.reduceLT, Int.reduceToNat, reduceCtorEq, Nat.reduceEqDiff, reduceIte, aEnd]) | ((with_reducible refine And.intro ?_ ?_); (focus (first | (with_reducible trivial) | (with_reducible assumption) | omega | (simp_all; done) | (simp_all; omega)))) | (with_reducible exact Nat.le_refl _) | (with_reducible refine awp_cond' ?_; refine ⟨_, rfl, ?_, ?_⟩ <;> intro hc <;> (try simp only [↓aXs, ↓aX, ↓aList, ↓astep, ↓aThen, ↓aBlock, ↓AWp_eq, ↓acall_eq, push_cast, Nat.reduceBEq, Nat.reduceAdd, Nat.reduceMul, Nat.reduceSub, Nat.reduceLeDiff, Nat.reduceLT, Int.reduceLE, Int.reduceLT, Int.reduceToNat, reduceCtorEq, Nat.reduceEqDiff, reduceIte, aEnd] at hc) <;> (try contradiction) <;> (try omega)) | fail)
      · exact ⟨0, Int.le_refl _, by omega, rfl⟩
      · obtain ⟨b, hb⟩ := byte_at (bs := bs) (i := (p + 1 - 1).toNat) (by omega)
        have hbl256 := b.toNat_lt
        simp only [↓aXs, ↓aX, ↓aList, ↓astep, ↓aThen, ↓aBlock, ↓AWp_eq, ↓acall_eq, push_cast, Nat.reduceBEq, Nat.reduceAdd, Nat.reduceMul, Nat.reduceSub, Nat.reduceLeDiff, Nat.reduceLT, Int.reduceLE, Int.reduceLT, Int.reduceToNat, reduceCtorEq, Nat.reduceEqDiff, reduceIte, aEnd, hb]
        repeat' (first | (with_reducible refine BWp.of ?_) | (with_reducible refine bcall.of ?_) | (with_reducible refine awp_seq ?_) | (with_reducible refine awp_block ?_) | ((first | (with_reducible refine awp_region' hP hN ?_; refine ⟨_, rfl, rfl, ?_⟩) | (with_reducible refine awp_ret ?_) | (with_reducible refine awp_skip ?_) | (with_reducible refine awp_exit ?_) | (with_reducible refine awp_label ?_)); simp only [↓aXs, ↓aX, ↓aList, ↓astep, ↓aThen, ↓aBlock, ↓AWp_eq, ↓acall_eq, push_cast, Nat.reduceBEq, Nat.reduceAdd, Nat.reduceMul, Nat.reduceSub, Nat.reduceLeDiff, Nat.reduceLT, Int.reduceLE, Int.reduceLT, Int.reduceToNat, reduceCtorEq, Nat.reduceEqDiff, reduceIte, aEnd, hb]) | ((with_reducible refine And.intro ?_ ?_); (focus (first | (with_reducible trivial) | (with_reducible assumption) | omega | (simp_all; done) | (simp_all; omega)))) | (with_reducible exact Nat.le_refl _) | (with_reducible refine awp_cond' ?_; refine ⟨_, rfl, ?_, ?_⟩ <;> intro hc <;> (try simp only [↓aXs, ↓aX, ↓aList, ↓astep, ↓aThen, ↓aBlock, ↓AWp_eq, ↓acall_eq, push_cast, Nat.reduceBEq, Nat.reduceAdd, Nat.reduceMul, Nat.reduceSub, Nat.reduceLeDiff, Nat.reduceLT, Int.reduceLE, Int.reduceLT, Int.reduceToNat, reduceCtorEq, Nat.reduceEqDiff, reduceIte, aEnd, hb] at hc) <;> (try contradiction) <;> (try omega)) | fail)
        exact ⟨_, Int.emod_nonneg _ (by omega), Int.emod_lt_of_pos _ (by omega), rfl⟩
      · have hlen := pick_len (by assumption)
        obtain ⟨b, hb⟩ := byte_at (bs := bs) (i := ((p + 1 - 1) % ((bytesV bs).length : Int)).toNat) (mod_in (by omega) (by omega))
        obtain ⟨b', hb'⟩ := byte_at (bs := bs) (i := (((p + 1 - 1) * 7 + 3) % ((bytesV bs).length : Int)).toNat) (mod_in (by omega) (by omega))
        refine awp_draw hP hN 46 (by rfl) (by kernel_rfl) (by rfl) ?_
        have hbl256 := b.toNat_lt
        have hbl256' := b'.toNat_lt
        have hm1 := Int.emod_nonneg (p + 1 - 1) (b := ((bytesV bs).length : Int)) (by omega)
        have hm2 := Int.emod_lt_of_pos (p + 1 - 1) (b := ((bytesV bs).length : Int)) (by omega)
        have hm3 := Int.emod_nonneg ((p + 1 - 1) * 7 + 3) (b := ((bytesV bs).length : Int)) (by omega)
        have hm4 := Int.emod_lt_of_pos ((p + 1 - 1) * 7 + 3) (b := ((bytesV bs).length : Int)) (by omega)
        have hd1 := Int.ediv_nonneg (a := p + 1 - 1) (b := ((bytesV bs).length : Int)) (by omega) (by omega)
        have hd2 := Int.ediv_le_self (a := p + 1 - 1) ((bytesV bs).length : Int) (by omega)
        have hx : ∀ x : Int, x ≤ 9223372036854775807 → 0 ≤ x → 0 ≤ xorI x (x / 64) ∧ xorI x (x / 64) ≤ 9223372036854775807 := fun x h h' => xorI_lt h (by omega)
        have hxx := hx (b.toNat * 131 + b'.toNat * 1117 + (p + 1 - 1) * 29 + (p + 1 - 1) / ((bytesV bs).length : Int) * 53) (by omega) (by omega)
        simp only [↓aXs, ↓aX, ↓aList, ↓astep, ↓aThen, ↓aBlock, ↓AWp_eq, ↓acall_eq, push_cast, Nat.reduceBEq, Nat.reduceAdd, Nat.reduceMul, Nat.reduceSub, Nat.reduceLeDiff, Nat.reduceLT, Int.reduceLE, Int.reduceLT, Int.reduceToNat, reduceCtorEq, Nat.reduceEqDiff, reduceIte, aEnd, hb, hb']
        repeat' (first | (with_reducible refine BWp.of ?_) | (with_reducible refine bcall.of ?_) | (with_reducible refine awp_seq ?_) | (with_reducible refine awp_block ?_) | ((first | (with_reducible refine awp_region' hP hN ?_; refine ⟨_, rfl, rfl, ?_⟩) | (with_reducible refine awp_ret ?_) | (with_reducible refine awp_skip ?_) | (with_reducible refine awp_exit ?_) | (with_reducible refine awp_label ?_)); simp only [↓aXs, ↓aX, ↓aList, ↓astep, ↓aThen, ↓aBlock, ↓AWp_eq, ↓acall_eq, push_cast, Nat.reduceBEq, Nat.reduceAdd, Nat.reduceMul, Nat.reduceSub, Nat.reduceLeDiff, Nat.reduceLT, Int.reduceLE, Int.reduceLT, Int.reduceToNat, reduceCtorEq, Nat.reduceEqDiff, reduceIte, aEnd, hb, hb']) | ((with_reducible refine And.intro ?_ ?_); (focus (first | (with_reducible trivial) | (with_reducible assumption) | omega | (simp_all; done) | (simp_all; omega)))) | (with_reducible exact Nat.le_refl _) | (with_reducible refine awp_cond' ?_; refine ⟨_, rfl, ?_, ?_⟩ <;> intro hc <;> (try simp only [↓aXs, ↓aX, ↓aList, ↓astep, ↓aThen, ↓aBlock, ↓AWp_eq, ↓acall_eq, push_cast, Nat.reduceBEq, Nat.reduceAdd, Nat.reduceMul, Nat.reduceSub, Nat.reduceLeDiff, Nat.reduceLT, Int.reduceLE, Int.reduceLT, Int.reduceToNat, reduceCtorEq, Nat.reduceEqDiff, reduceIte, aEnd, hb, hb'] at hc) <;> (try contradiction) <;> (try omega)) | fail)
        all_goals first | exact ⟨_, Int.emod_nonneg _ (by omega), Int.emod_lt_of_pos _ (by omega), rfl⟩ | skip
    · rintro rv r w2 ⟨k, q1, q2, rfl⟩ hres hst2 -
      have hst3 : Step (fun b => b = β) w w2 := hst.trans hst2 fun b hb hne => ⟨hne, fun hx => by cases hx⟩
      refine ⟨rv, _, rfl, ⟨k, q1, q2, rfl⟩, hres, hst3.mono fun b _ hb => hb ▸ hβ, fun β' hβ' => ?_⟩
      have : β' = β := by rw [hβ] at hβ'; cases hβ'; rfl
      subst this
      refine ⟨⟨p + 1, ty, ?_, by omega, by omega⟩, hsl.step hst3 (fun _ _ hb => hb) (fun b _ hb => hb ▸ hFβ), hbs⟩
      rw [hst2.block β' (Array.getElem?_eq_some_iff.1 hh').1 (fun hx => by cases hx)]
      exact hh'

end Go.Proofs.YtellipmolheaaaaDoor
