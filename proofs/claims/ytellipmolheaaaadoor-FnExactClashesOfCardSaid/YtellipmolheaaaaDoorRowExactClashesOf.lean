/-
  It is proved that the law FnExactClashesOf returns true for every two slices of commands and leaves its arguments as they were. Conditions: the two tables of Go's library that the row lists hold what the program's text lays in them (the card ties them).
-/
import Derived.Test.YtellipmolheaaaaDoorRowKitC
import Derived.Test.YtellipmolheaaaaDoorLawEx
import Derived.Test.YtellipmolheaaaaDoorRows
import Derived.Test.YtellipmolheaaaaDoorCards
import Derived.Test.YtellipmolheaaaaDoorTie
import Derived.LaidMore
import Derived.Lay
import Derived.SevenTiedAt
import Derived.Stop.Joined
namespace Go.Proofs.YtellipmolheaaaaDoor.fnExactClashesOf
open Go.ChangeShapes Go.WideShapes Go.ChangeAt Go.RowKit

set_option maxRecDepth 100000 in
theorem lifted (os : Os) (started : os.Started) (H : Type) (enc : TypeId × Value → H) :
    ReturnsInHanded {} Tryd.checked os 6 .any (fun w args => (Rows.fnExactClashesOfSpec.pre enc Tryd.prog Tryd.f6 Rows.fnExactClashesOfRow.domain false w args ∧ laidMetH Tryd.prog Rows.fnExactClashesOfRow.laid w) ∧ sizedMet enc Tryd.prog Tryd.f6 (OpenSpec.ofChange Rows.fnExactClashesOfSpec) false w args)
      (Rows.fnExactClashesOfSpec.post enc Tryd.prog Tryd.f6 false true false false) := by
  refine returnsInHanded_of_change_and (C := Tryd.checked) (X := fun w _ => laidMetH Tryd.prog Rows.fnExactClashesOfRow.laid w) (fun _ _ _ hh h => h.of_heap hh) own started (by kernel_rfl) Tryd.func6
    (ChangeSpec.witness_shaped (enc := enc) (C := Tryd.checked) (os := os) (X := fun w _ => laidMetH Tryd.prog Rows.fnExactClashesOfRow.laid w) false (World.laidAll Tryd.prog os Rows.fnExactClashesOfRow.laid) #[.slice none 0 0, .slice none 0 0] 8 (World.laidAll_os _ _ _)
      (World.shaped_of_ZipB (by kernel_rfl) (by kernel_rfl)) (by kernel_rfl) (by kernel_rfl) (by kernel_rfl)
      (by rw [MakeChecks.laidMetH_plain _ _ _ (by kernel_rfl)]; exact laidMet_laidAll _ (by kernel_rfl) (by kernel_rfl))) ?_
  intro W base args ds gs before hval0 hW hc _ hL _
  have hval : ∀ (j : Nat) t v, Tryd.f6.params[j]? = some t → args[j]? = some v → Value.okWide Tryd.prog W .any base t v := hval0
  have hW' := hW
  obtain ⟨p, q, hA0, hV, rfl, _, _⟩ := hW
  have hA : DataW.TrodAll enc Tryd.prog W 0 (fun _ => true) true Tryd.f6.params.toList args.toList ds p := hA0
  rw [Tryd.params6] at hA hval
  obtain ⟨v0, v1, d0, d1, p0, p1, rfl, rfl, rfl, h0, h1⟩ := trodAll_two hA
  obtain ⟨rfl, rfl⟩ := trodVars_none hV
  obtain ⟨a0, len, cap, rfl⟩ := okWide_slice (show Tryd.prog.underlying 33 = some (.slice 75) by kernel_rfl) (hval 0 33 v0 rfl rfl)
  obtain ⟨a1, len1, cap1, rfl⟩ := okWide_slice (show Tryd.prog.underlying 33 = some (.slice 75) by kernel_rfl) (hval 1 33 v1 rfl rfl)
  obtain ⟨us, lu, pu, hsl⟩ := openedC h0
  obtain ⟨vs, lv, pv, hsm⟩ := openedC h1
  have hlt : ∀ x ∈ p0 ++ p1, x.block < W.heap.size := fun x hx => by simpa using hW'.lt x (by simpa using hx)
  clear hA0 hval0
  simp only [List.append_nil] at hW'
  have hcall := (exactClashes_c us vs lu lv pu pv).2 W (fun _ => False) none undef [] 0 #[.slice a0 len cap, .slice a1 len1 cap1] (fun _ h => h.elim) (fun _ h => by cases h) (fun _ h => by cases h) (by decide)
    ⟨rfl, fun j av hj => by
      match j, hj with
      | 0, hj => simp at hj; subst hj; exact ⟨_, rfl, hsl⟩
      | 1, hj => simp at hj; subst hj; exact ⟨_, rfl, hsm⟩⟩
  refine hcall.mono fun e W' ⟨rv, r, he, hr, hres, hst, _⟩ => ?_
  subst hr
  simp only [ResR] at hres
  subst hres
  subst he
  have hB : Below W.heap.size W W' := ⟨hst.os, hst.tape, hst.output, hst.size, fun k hk => hst.block k hk (fun h => by cases h)⟩
  exact ⟨_, rfl, _, _, _, [], p0 ++ p1, [], hW', trodAll_mk1 (shut_bool Tryd.underlying4 _), trodAll_mk2 (Below.trod laidOut (by kernel_rfl) (of_decide_eq_true (by kernel_rfl)) h0 hB (fun x hx => hlt x (List.mem_append.2 (.inl hx)))) (Below.trod laidOut (by kernel_rfl) (of_decide_eq_true (by kernel_rfl)) h1 hB (fun x hx => hlt x (List.mem_append.2 (.inr hx)))), rfl, hB.frame _, fun h => by cases h⟩

/-- the row -/
theorem holds : Rows.FnExactClashesOfSaid :=
  OpenClaim.holds_of_wide 6 Tryd.f6 rfl rfl rfl rfl rfl rfl rfl ⟨rfl, rfl, rfl, rfl, rfl⟩ rfl rfl rfl rfl rfl (by kernel_rfl) Tryd.func6 (by kernel_rfl)
    (of_decide_eq_true (by kernel_rfl)) (by unfold Func.isWrapper; first | (rw [if_pos (by decide +kernel)]; kernel_rfl) | (rw [if_neg (by decide +kernel)]; exact ⟨rfl, rfl⟩))
    (fun os started H enc _ => lifted os started H enc)

/-- THE TIED CARD -/
theorem card_holds : Rows.FnExactClashesOfCardSaid :=
  Claim7.holds_tied_plain_at .later [] [.data, .pinned] true (true, "2e73d2cc14837ec5b10c9bb96187b25a59974d6234cf156b1024d8902560c4b4") false
    holds (fun _ h => by cases h) (by kernel_rfl) (fun _ h => by cases h) fnExactClashesOf_row_tie rfl ⟨rfl, rfl⟩ (by kernel_rfl) rfl
    (fun f fn hf hfn => by
      obtain rfl : f = 6 := Option.some.inj ((show Tryd.prog.funcNamed "loop.example/filereconciler/laws.FnExactClashesOf" = some 6 by kernel_rfl).symm.trans hf) |>.symm
      obtain rfl : fn = Tryd.f6 := (Option.some.inj (Tryd.func6.symm.trans hfn)).symm
      exact ⟨by kernel_rfl, fun j t ht => by
        rw [Tryd.params6] at ht
        have hm : t ∈ [33, 33] := by simpa using Array.mem_of_getElem? ht
        have hall : ([33, 33].all fun u => !Tryd.prog.wantsStandIn u) = true := by kernel_rfl
        exact (show Tryd.prog.wantsStandIn t = false by simpa using List.all_eq_true.1 hall t hm)⟩)
    (by kernel_rfl)

end Go.Proofs.YtellipmolheaaaaDoor.fnExactClashesOf
