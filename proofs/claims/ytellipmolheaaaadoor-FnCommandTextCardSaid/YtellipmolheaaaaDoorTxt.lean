import Derived.Test.YtellipmolheaaaaDoorConT
import Derived.Test.YtellipmolheaaaaDoorPath
set_option linter.unusedSimpArgs false
set_option maxRecDepth 10000
namespace Go.Proofs.YtellipmolheaaaaDoor
open Go Go.RowKit

/-! ### texts of contents and of commands -/

def decT (v : Nat) : List UInt8 := if v < 10 then [UInt8.ofNat (48 + v)] else [UInt8.ofNat (48 + v / 10), UInt8.ofNat (48 + v % 10)]
def undecT : List UInt8 → Nat
  | [a] => a.toNat - 48
  | [a, b] => (a.toNat - 48) * 10 + (b.toNat - 48)
  | _ => 0

theorem undec_dec : ∀ v, v < 100 → undecT (decT v) = v := by decide
theorem dec_ne : ∀ v, v < 100 → ∀ c ∈ decT v, c ≠ 32 := by decide
theorem dec_len : ∀ v, v < 100 → (decT v).length ≤ 2 := by decide

def conT (c : Con) : List UInt8 := if conOk c = true then (if c.k = 2 then 102 :: decT c.v.toNat else if c.k = 1 then [100] else [45]) else []

theorem conOk_k {c : Con} (h : conOk c = true) : (c.k = 0 ∧ c.v = 0) ∨ (c.k = 1 ∧ c.v = 0) ∨ (c.k = 2 ∧ 0 ≤ c.v ∧ c.v ≤ 99) := by
  unfold conOk at h
  simp only [Bool.or_eq_true, Bool.and_eq_true, decide_eq_true_eq] at h
  omega

theorem con_eq2 {a b : Con} (h : a.k = b.k) (h2 : a.v = b.v) : a = b := by cases a; cases b; simp_all

theorem conT_0 {c : Con} (h : conOk c = true) (hk : c.k = 0) : conT c = [45] := by
  rw [conT, if_pos h, if_neg (by omega), if_neg (by omega)]
theorem conT_1 {c : Con} (h : conOk c = true) (hk : c.k = 1) : conT c = [100] := by
  rw [conT, if_pos h, if_neg (by omega), if_pos hk]
theorem conT_2 {c : Con} (h : conOk c = true) (hk : c.k = 2) : conT c = 102 :: decT c.v.toNat := by
  rw [conT, if_pos h, if_pos hk]

theorem conT_inj {a b : Con} (ha : conOk a = true) (hb : conOk b = true) (h : conT a = conT b) : a = b := by
  rcases conOk_k ha with ⟨k1, v1⟩ | ⟨k1, v1⟩ | ⟨k1, v1, v2⟩ <;> rcases conOk_k hb with ⟨k2, w1⟩ | ⟨k2, w1⟩ | ⟨k2, w1, w2⟩
  · exact con_eq2 (by omega) (by omega)
  · rw [conT_0 ha k1, conT_1 hb k2] at h
    cases h
  · rw [conT_0 ha k1, conT_2 hb k2] at h
    injection h with h1 _
    exact absurd h1 (by decide)
  · rw [conT_1 ha k1, conT_0 hb k2] at h
    cases h
  · exact con_eq2 (by omega) (by omega)
  · rw [conT_1 ha k1, conT_2 hb k2] at h
    injection h with h1 _
    exact absurd h1 (by decide)
  · rw [conT_2 ha k1, conT_0 hb k2] at h
    injection h with h1 _
    exact absurd h1 (by decide)
  · rw [conT_2 ha k1, conT_1 hb k2] at h
    injection h with h1 _
    exact absurd h1 (by decide)
  · rw [conT_2 ha k1, conT_2 hb k2] at h
    injection h with _ h1
    have := congrArg undecT h1
    rw [undec_dec _ (by omega), undec_dec _ (by omega)] at this
    exact con_eq2 (by omega) (by omega)

theorem conT_ne {c : Con} (h : conOk c = true) : conT c ≠ [] := by
  rcases conOk_k h with ⟨k1, _⟩ | ⟨k1, _⟩ | ⟨k1, _⟩
  · rw [conT_0 h k1]; simp
  · rw [conT_1 h k1]; simp
  · rw [conT_2 h k1]; simp

theorem conT_blank {c : Con} : ∀ x ∈ conT c, x ≠ 32 := by
  intro x hx
  by_cases h : conOk c = true
  · rcases conOk_k h with ⟨k1, _⟩ | ⟨k1, _⟩ | ⟨k1, v1, v2⟩
    · rw [conT_0 h k1] at hx
      simp at hx
      rw [hx]; decide
    · rw [conT_1 h k1] at hx
      simp at hx
      rw [hx]; decide
    · rw [conT_2 h k1] at hx
      rcases List.mem_cons.1 hx with rfl | hx
      · decide
      · exact dec_ne _ (by omega) x hx
  · rw [conT, if_neg h] at hx
    cases hx

theorem conT_len (c : Con) : (conT c).length ≤ 3 := by
  by_cases h : conOk c = true
  · rcases conOk_k h with ⟨k1, _⟩ | ⟨k1, _⟩ | ⟨k1, v1, v2⟩
    · rw [conT_0 h k1]; simp
    · rw [conT_1 h k1]; simp
    · rw [conT_2 h k1]
      have := dec_len c.v.toNat (by omega)
      rw [List.length_cons]
      omega
  · rw [conT, if_neg h]; simp

noncomputable def conP (s : List UInt8) : Con × Bool := @dite _ (∃ c, conOk c = true ∧ conT c = s) (Classical.propDecidable _) (fun h => (Classical.choose h, true)) (fun _ => (⟨0, 0⟩, false))

theorem conP_yes {c : Con} {s : List UInt8} (h : conOk c = true) (hs : conT c = s) : conP s = (c, true) := by
  have he : ∃ c, conOk c = true ∧ conT c = s := ⟨c, h, hs⟩
  have hc := Classical.choose_spec he
  rw [conP, dif_pos he, conT_inj hc.1 h (hc.2.trans hs.symm)]

theorem conP_no {s : List UInt8} (h : ∀ c, conOk c = true → conT c ≠ s) : conP s = (⟨0, 0⟩, false) := by
  rw [conP, dif_neg]
  rintro ⟨c, h1, h2⟩
  exact h c h1 h2

theorem conP_true {s : List UInt8} (h : (conP s).2 = true) : conOk (conP s).1 = true ∧ conT (conP s).1 = s := by
  by_cases he : ∃ c, conOk c = true ∧ conT c = s
  · obtain ⟨c, h1, h2⟩ := he
    rw [conP_yes h1 h2]
    exact ⟨h1, h2⟩
  · rw [conP_no fun c h1 h2 => he ⟨c, h1, h2⟩] at h
    cases h

/-! ### splitting at blanks -/

def splB : List UInt8 → List (List UInt8)
  | [] => [[]]
  | c :: r => if c = 32 then [] :: splB r else match splB r with
    | x :: xs => (c :: x) :: xs
    | [] => [[c]]

theorem splB_ne : ∀ s : List UInt8, splB s ≠ []
  | [] => by simp [splB]
  | c :: r => by
    rw [splB]
    split
    · simp
    · split <;> simp

theorem splB_none : ∀ {s : List UInt8}, (∀ x ∈ s, x ≠ 32) → splB s = [s]
  | [], _ => rfl
  | c :: r, h => by
    rw [splB, if_neg (h c List.mem_cons_self), splB_none fun x hx => h x (List.mem_cons_of_mem _ hx)]

theorem splB_app : ∀ {a : List UInt8} (b : List UInt8), (∀ x ∈ a, x ≠ 32) → splB (a ++ 32 :: b) = a :: splB b
  | [], b, _ => by rw [List.nil_append, splB, if_pos rfl]
  | c :: a, b, h => by
    rw [List.cons_append, splB, if_neg (h c List.mem_cons_self), splB_app b fun x hx => h x (List.mem_cons_of_mem _ hx)]

def joinB : List (List UInt8) → List UInt8
  | [] => []
  | [x] => x
  | x :: y :: r => x ++ 32 :: joinB (y :: r)

theorem join_splB : ∀ s : List UInt8, joinB (splB s) = s
  | [] => rfl
  | c :: r => by
    have ih := join_splB r
    rw [splB]
    split
    · rename_i h
      rw [h]
      cases hr : splB r with
      | nil => exact absurd hr (splB_ne r)
      | cons x xs =>
        rw [hr] at ih
        rw [joinB, ih]
        rfl
    · cases hr : splB r with
      | nil => exact absurd hr (splB_ne r)
      | cons x xs =>
        rw [hr] at ih
        simp only
        cases xs with
        | nil => rw [joinB] at ih ⊢; rw [ih]
        | cons y ys => rw [joinB] at ih ⊢; rw [List.cons_append, ih]

theorem splB_len : ∀ s : List UInt8, (splB s).length ≤ s.length + 1
  | [] => by simp [splB]
  | c :: r => by
    have ih := splB_len r
    rw [splB]
    split
    · simp only [List.length_cons]; omega
    · split
      · rename_i h
        rw [h] at ih
        simp only [List.length_cons] at ih ⊢
        omega
      · simp

/-! ### commands -/

def cmdT (c : Cmd) : List UInt8 := if cmdOk c = true then c.p ++ [32] ++ conT c.f ++ [32] ++ conT c.t else []

noncomputable def cmdP (s : List UInt8) : Cmd × Bool := match splB s with
  | [p, f, t] => if ((conP f).2 && (conP t).2 && cmdOk ⟨p, (conP f).1, (conP t).1⟩) = true then (⟨p, (conP f).1, (conP t).1⟩, true) else (⟨[], ⟨0, 0⟩, ⟨0, 0⟩⟩, false)
  | _ => (⟨[], ⟨0, 0⟩, ⟨0, 0⟩⟩, false)

theorem path_blank {p : List UInt8} (h : pathOk p = true) : ∀ x ∈ p, x ≠ 32 := by
  rcases pathOk_form h with rfl | ⟨cs, _, _, h2, rfl⟩
  · intro x hx
    simp at hx
    rw [hx]; decide
  · intro x hx
    obtain ⟨c, hc, hx⟩ := List.mem_flatMap.1 hx
    have hn := h2 c hc
    simp only [nm, Bool.and_eq_true, decide_eq_true_eq] at hn
    simp only [List.mem_cons, List.not_mem_nil, or_false] at hx
    rcases hx with rfl | rfl
    · decide
    · intro e
      rw [e] at hn
      exact absurd hn.1 (by decide)

theorem cmdOk_parts {c : Cmd} (h : cmdOk c = true) : pathOk c.p = true ∧ conOk c.f = true ∧ conOk c.t = true := by
  simp only [cmdOk, Bool.and_eq_true, decide_eq_true_eq] at h
  exact ⟨(depth_path h.1.1.1).1, h.1.1.2, h.1.2⟩

theorem cmdP_T {c : Cmd} (h : cmdOk c = true) : cmdP (cmdT c) = (c, true) := by
  obtain ⟨h1, h2, h3⟩ := cmdOk_parts h
  have hs : splB (cmdT c) = [c.p, conT c.f, conT c.t] := by
    rw [cmdT, if_pos h]
    simp only [List.append_assoc, List.singleton_append, List.cons_append, List.nil_append]
    rw [splB_app _ (path_blank h1), splB_app _ conT_blank, splB_none conT_blank]
  rw [cmdP, hs]
  simp only [conP_yes h2 rfl, conP_yes h3 rfl, Bool.and_true, Bool.true_and]
  rw [if_pos h]

theorem cmdP_true {s : List UInt8} (h : (cmdP s).2 = true) : cmdOk (cmdP s).1 = true ∧ cmdT (cmdP s).1 = s := by
  have hj := join_splB s
  unfold cmdP at h ⊢
  split at h
  · rename_i p f t hs
    split at h
    · rename_i hc
      rw [if_pos hc]
      simp only [Bool.and_eq_true] at hc
      obtain ⟨⟨c1, c2⟩, c3⟩ := hc
      refine ⟨c3, ?_⟩
      rw [cmdT, if_pos c3]
      rw [hs] at hj
      simp only [joinB] at hj
      simp only [(conP_true c1).2, (conP_true c2).2, List.append_assoc, List.singleton_append]
      exact hj
    · cases h
  · cases h

end Go.Proofs.YtellipmolheaaaaDoor
