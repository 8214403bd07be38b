import Derived.Test.YtlmlnbmagmembaaDoorConU
set_option linter.unusedSimpArgs false
set_option maxRecDepth 10000
namespace Go.Proofs.YtlmlnbmagmembaaDoor
open Go Go.RowKit

def canonP (cs : List Cmd) : Prop := (cs.map (·.p)).Nodup ∧ ∀ (i : Nat) x y, cs[i]? = some x → cs[i + 1]? = some y → beforeF x y = true
noncomputable def canonOk (cs : List Cmd) : Bool := logOk cs && bP (canonP cs)

theorem less_or {a b : List UInt8} (h : a ≠ b) : Op.bytesLess a b = !Op.bytesLess b a := by
  have := less_total a b
  simpa [h] using this

theorem cmp_nonneg (a b : List UInt8) : 0 ≤ cmpF a b ↔ Op.bytesLess a b = false := by
  unfold cmpF
  cases h : Op.bytesLess a b with
  | true => simp
  | false =>
    simp only [Bool.false_eq_true, if_false, iff_true]
    split <;> omega

theorem before_ord {x y : Cmd} (h : x.p ≠ y.p) : beforeF x y = true ↔ 0 ≤ ordF y x := by
  have h1 := less_or h
  have h2 := less_or (Ne.symm h)
  unfold beforeF ordF
  cases hx : endsF x <;> cases hy : endsF y <;> simp only [Bool.and_true, Bool.and_false, Bool.true_and, Bool.false_and, Bool.not_true, Bool.not_false, if_true, if_false, Bool.false_eq_true, reduceIte]
  · rw [cmp_nonneg, h1]; simp
  · simp
  · simp
  · rw [cmp_nonneg, h2]; simp

theorem canon_iff (cs : List Cmd) : ((cs.map (·.p)).Nodup ∧ sortP ordF cs) ↔ canonP cs :=
  ⟨fun ⟨h, s⟩ => ⟨h, fun i x y hx hy => (before_ord (nodup_next h (Nat.lt_succ_self i) hx hy)).2 (s i x y hx hy)⟩,
   fun ⟨h, s⟩ => ⟨h, fun i x y hx hy => (before_ord (nodup_next h (Nat.lt_succ_self i) hx hy)).1 (s i x y hx hy)⟩⟩

theorem canonOk_iff0 {cs : List Cmd} : canonOk cs = true ↔ logOk cs = true ∧ canonP cs := by
  rw [canonOk, Bool.and_eq_true, bP_iff]

theorem logOk_mem {cs : List Cmd} (h : logOk cs = true) {c : Cmd} (hc : c ∈ cs) : cmdOk c = true := by
  simp only [logOk, Bool.and_eq_true, List.all_eq_true] at h
  exact h.2 c hc

end Go.Proofs.YtlmlnbmagmembaaDoor
