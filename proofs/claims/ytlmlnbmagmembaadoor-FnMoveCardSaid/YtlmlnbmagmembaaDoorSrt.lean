import Derived.Test.YtlmlnbmagmembaaDoorPut
set_option linter.unusedSimpArgs false
set_option maxRecDepth 10000
namespace Go.Proofs.YtlmlnbmagmembaaDoor
open Go Go.RowKit

/-! ### sorted lists by what is in them -/

theorem sorted_ext {α : Type} {lt : α → α → Bool} (irr : ∀ x, lt x x = false) (asy : ∀ x y, lt x y = true → lt y x = false) : ∀ {a b : List α}, (a.Pairwise fun x y => lt x y = true) → (b.Pairwise fun x y => lt x y = true) → (∀ x, x ∈ a ↔ x ∈ b) → a = b
  | [], [], _, _, _ => rfl
  | [], y :: b, _, _, h => absurd ((h y).2 List.mem_cons_self) (by simp)
  | x :: a, [], _, _, h => absurd ((h x).1 List.mem_cons_self) (by simp)
  | x :: a, y :: b, ha, hb, h => by
    have no : ∀ {z : α} {c : List α}, (∀ w ∈ c, lt z w = true) → z ∉ c := fun h hx => by
      have := h _ hx
      rw [irr] at this
      cases this
    have hxy : x = y := by
      rcases List.mem_cons.1 ((h x).1 List.mem_cons_self) with e | e
      · exact e
      · rcases List.mem_cons.1 ((h y).2 List.mem_cons_self) with e2 | e2
        · exact e2.symm
        · have l1 := (List.pairwise_cons.1 hb).1 x e
          have l2 := (List.pairwise_cons.1 ha).1 y e2
          rw [asy _ _ l1] at l2
          cases l2
    subst hxy
    congr 1
    refine sorted_ext irr asy (List.pairwise_cons.1 ha).2 (List.pairwise_cons.1 hb).2 fun z => ⟨fun hz => ?_, fun hz => ?_⟩
    · rcases List.mem_cons.1 ((h z).1 (List.mem_cons_of_mem _ hz)) with e | e
      · exact absurd hz (by rw [e]; exact no (List.pairwise_cons.1 ha).1)
      · exact e
    · rcases List.mem_cons.1 ((h z).2 (List.mem_cons_of_mem _ hz)) with e | e
      · exact absurd hz (by rw [e]; exact no (List.pairwise_cons.1 hb).1)
      · exact e

theorem srt_mem {a b : List Nod} (ha : srt a) (hb : srt b) (h : ∀ x, x ∈ a ↔ x ∈ b) : a = b :=
  sorted_ext (lt := fun x y : Nod => Op.bytesLess x.p y.p) (fun _ => less_irrefl _) (fun _ _ h => less_asymm h) ha hb h

end Go.Proofs.YtlmlnbmagmembaaDoor
