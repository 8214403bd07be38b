import Derived.Test.YtjafeamjgmacnaaDoorConDD
set_option linter.unusedSimpArgs false
set_option maxRecDepth 10000
namespace Go.Proofs.YtjafeamjgmacnaaDoor
open Go Go.RowKit

/-! ### draws of two trees; a text in a list -/

theorem anyT_step {α : Type} {p : α → Bool} {t : List α} {i : Nat} {x : α} (hx : t[i]? = some x) : (t.take (i + 1)).any p = ((t.take i).any p || p x) := by
  rw [List.take_add_one, hx]
  simp

theorem treePutF_16 {t : List Nod} {p : List UInt8} {c : Con} (h : (treePutF t p c).2 = true) (hp : ∀ x ∈ t, x.p.length ≤ 16) : ∀ x ∈ (treePutF t p c).1, x.p.length ≤ 16 := fun x hx => by
  obtain ⟨_, h2, _⟩ := treePutF_ok h
  have := pathOk_len (depth_path h2).1
  rcases treePutF_mem hx with e | h
  · rw [e]; simp only; omega
  · exact hp x h

end Go.Proofs.YtjafeamjgmacnaaDoor
