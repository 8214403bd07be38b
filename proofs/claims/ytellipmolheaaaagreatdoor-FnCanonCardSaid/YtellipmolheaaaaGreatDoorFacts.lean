/-
  The closed facts on the types of this seat (printed by facts.py): tk, foff, ffld, bz, zcells, elemT, EqT and their kin. Conditions: none.
-/
import Derived.Test.YtellipmolheaaaaGreatDoorCoreB
import Derived.Test.YtellipmolheaaaaGreatDoorRows
set_option linter.unusedSimpArgs false
set_option linter.unusedVariables false
namespace Go.Proofs.YtellipmolheaaaaGreatDoor
open Go Go.RowKit

theorem kind_1 {x : Value} (h : kindOf x = 1) : ∃ a, x = .int .i64 a := by
  unfold kindOf at h
  split at h <;> first | exact ⟨_, rfl⟩ | (simp at h)
theorem kind_2 {x : Value} (h : kindOf x = 2) : ∃ a, x = .string a := by
  unfold kindOf at h
  split at h <;> first | exact ⟨_, rfl⟩ | (simp at h)

theorem cells_11 {xs : Array Value} (h : xs.toList.map kindOf = [1, 1]) : ∃ (a0 : Int) (a1 : Int), xs = #[.int .i64 a0, .int .i64 a1] := by
  obtain ⟨l⟩ := xs
  simp only at h
  rcases l with _ | ⟨x0, l⟩
  · simp at h
  rcases l with _ | ⟨x1, l⟩
  · simp at h
  rcases l with _ | ⟨y, l⟩
  rotate_left
  · simp at h
  simp only [List.map_cons, List.map_nil, List.cons.injEq, and_true] at h
  obtain ⟨h0, h1⟩ := h
  obtain ⟨a0, rfl⟩ := kind_1 h0
  obtain ⟨a1, rfl⟩ := kind_1 h1
  exact ⟨a0, a1, rfl⟩

theorem cells_211 {xs : Array Value} (h : xs.toList.map kindOf = [2, 1, 1]) : ∃ (a0 : ByteArray) (a1 : Int) (a2 : Int), xs = #[.string a0, .int .i64 a1, .int .i64 a2] := by
  obtain ⟨l⟩ := xs
  simp only at h
  rcases l with _ | ⟨x0, l⟩
  · simp at h
  rcases l with _ | ⟨x1, l⟩
  · simp at h
  rcases l with _ | ⟨x2, l⟩
  · simp at h
  rcases l with _ | ⟨y, l⟩
  rotate_left
  · simp at h
  simp only [List.map_cons, List.map_nil, List.cons.injEq, and_true] at h
  obtain ⟨h0, h1, h2⟩ := h
  obtain ⟨a0, rfl⟩ := kind_2 h0
  obtain ⟨a1, rfl⟩ := kind_1 h1
  obtain ⟨a2, rfl⟩ := kind_1 h2
  exact ⟨a0, a1, a2, rfl⟩

theorem cells_21111 {xs : Array Value} (h : xs.toList.map kindOf = [2, 1, 1, 1, 1]) : ∃ (a0 : ByteArray) (a1 : Int) (a2 : Int) (a3 : Int) (a4 : Int), xs = #[.string a0, .int .i64 a1, .int .i64 a2, .int .i64 a3, .int .i64 a4] := by
  obtain ⟨l⟩ := xs
  simp only at h
  rcases l with _ | ⟨x0, l⟩
  · simp at h
  rcases l with _ | ⟨x1, l⟩
  · simp at h
  rcases l with _ | ⟨x2, l⟩
  · simp at h
  rcases l with _ | ⟨x3, l⟩
  · simp at h
  rcases l with _ | ⟨x4, l⟩
  · simp at h
  rcases l with _ | ⟨y, l⟩
  rotate_left
  · simp at h
  simp only [List.map_cons, List.map_nil, List.cons.injEq, and_true] at h
  obtain ⟨h0, h1, h2, h3, h4⟩ := h
  obtain ⟨a0, rfl⟩ := kind_2 h0
  obtain ⟨a1, rfl⟩ := kind_1 h1
  obtain ⟨a2, rfl⟩ := kind_1 h2
  obtain ⟨a3, rfl⟩ := kind_1 h3
  obtain ⟨a4, rfl⟩ := kind_1 h4
  exact ⟨a0, a1, a2, a3, a4, rfl⟩

theorem Tryz.tk2 : tk Tryz.prog 2 = 1 := by kernel_rfl
theorem Tryz.co2 : Tryz.prog.cellsOf 2 = 1 := by kernel_rfl
theorem Tryz.us2 : (Tryz.prog.underlying 2).isSome = true := by kernel_rfl
theorem Tryz.ik2 : ikind Tryz.prog 2 = some .i64 := by kernel_rfl
theorem Tryz.zc2 : zcells Tryz.prog 2 = some [.int .i64 0] := by kernel_rfl
theorem Tryz.tk3 : tk Tryz.prog 3 = 1 := by kernel_rfl
theorem Tryz.co3 : Tryz.prog.cellsOf 3 = 1 := by kernel_rfl
theorem Tryz.us3 : (Tryz.prog.underlying 3).isSome = true := by kernel_rfl
theorem Tryz.ik3 : ikind Tryz.prog 3 = some .i64 := by kernel_rfl
theorem Tryz.zc3 : zcells Tryz.prog 3 = some [.int .i64 0] := by kernel_rfl
theorem Tryz.tk4 : tk Tryz.prog 4 = 1 := by kernel_rfl
theorem Tryz.co4 : Tryz.prog.cellsOf 4 = 1 := by kernel_rfl
theorem Tryz.zc4 : zcells Tryz.prog 4 = some [.bool false] := by kernel_rfl
theorem Tryz.tk5 : tk Tryz.prog 5 = 1 := by kernel_rfl
theorem Tryz.co5 : Tryz.prog.cellsOf 5 = 1 := by kernel_rfl
theorem Tryz.us5 : (Tryz.prog.underlying 5).isSome = true := by kernel_rfl
theorem Tryz.ik5 : ikind Tryz.prog 5 = some .u8 := by kernel_rfl
theorem Tryz.zc5 : zcells Tryz.prog 5 = some [.int .u8 0] := by kernel_rfl
theorem Tryz.tk7 : tk Tryz.prog 7 = 6 := by kernel_rfl
theorem Tryz.co7 : Tryz.prog.cellsOf 7 = 4 := by kernel_rfl
theorem Tryz.fo7_0 : foff Tryz.prog 7 0 = some 0 := by kernel_rfl
theorem Tryz.ff7_0 : ffld Tryz.prog 7 0 = some (0, 1) := by kernel_rfl
theorem Tryz.fo7_1 : foff Tryz.prog 7 1 = some 1 := by kernel_rfl
theorem Tryz.ff7_1 : ffld Tryz.prog 7 1 = some (1, 1) := by kernel_rfl
theorem Tryz.fo7_2 : foff Tryz.prog 7 2 = some 2 := by kernel_rfl
theorem Tryz.ff7_2 : ffld Tryz.prog 7 2 = some (2, 1) := by kernel_rfl
theorem Tryz.fo7_3 : foff Tryz.prog 7 3 = some 3 := by kernel_rfl
theorem Tryz.ff7_3 : ffld Tryz.prog 7 3 = some (3, 1) := by kernel_rfl
theorem Tryz.bz7 : bz Tryz.prog 7 = some ([.int .i64 0, .int .i64 0, .bool false, .int .u8 0], [(0, 1), (1, 1), (2, 1), (3, 1)]) := by kernel_rfl
theorem Tryz.zc7 : zcells Tryz.prog 7 = some [.int .i64 0, .int .i64 0, .bool false, .int .u8 0] := by kernel_rfl
theorem Tryz.tk9 : tk Tryz.prog 9 = 1 := by kernel_rfl
theorem Tryz.co9 : Tryz.prog.cellsOf 9 = 1 := by kernel_rfl
theorem Tryz.us9 : (Tryz.prog.underlying 9).isSome = true := by kernel_rfl
theorem Tryz.is9 : isStr Tryz.prog 9 = true := by kernel_rfl
theorem Tryz.zc9 : zcells Tryz.prog 9 = some [.string ⟨#[]⟩] := by kernel_rfl
theorem Tryz.tk12 : tk Tryz.prog 12 = 1 := by kernel_rfl
theorem Tryz.co12 : Tryz.prog.cellsOf 12 = 1 := by kernel_rfl
theorem Tryz.us12 : (Tryz.prog.underlying 12).isSome = true := by kernel_rfl
theorem Tryz.ik12 : ikind Tryz.prog 12 = some .u64 := by kernel_rfl
theorem Tryz.zc12 : zcells Tryz.prog 12 = some [.int .u64 0] := by kernel_rfl
theorem Tryz.tk13 : tk Tryz.prog 13 = 4 := by kernel_rfl
theorem Tryz.co13 : Tryz.prog.cellsOf 13 = 2 := by kernel_rfl
theorem Tryz.fo13_0 : foff Tryz.prog 13 0 = some 0 := by kernel_rfl
theorem Tryz.ff13_0 : ffld Tryz.prog 13 0 = some (0, 1) := by kernel_rfl
theorem Tryz.fo13_1 : foff Tryz.prog 13 1 = some 1 := by kernel_rfl
theorem Tryz.ff13_1 : ffld Tryz.prog 13 1 = some (1, 1) := by kernel_rfl
theorem Tryz.bz13 : bz Tryz.prog 13 = some ([.string ⟨#[]⟩, .int .u64 0], [(0, 1), (1, 1)]) := by kernel_rfl
theorem Tryz.zc13 : zcells Tryz.prog 13 = some [.string ⟨#[]⟩, .int .u64 0] := by kernel_rfl
theorem Tryz.tk15 : tk Tryz.prog 15 = 1 := by kernel_rfl
theorem Tryz.co15 : Tryz.prog.cellsOf 15 = 1 := by kernel_rfl
theorem Tryz.zc15 : zcells Tryz.prog 15 = some [.pointer none] := by kernel_rfl
theorem Tryz.tk16 : tk Tryz.prog 16 = 1 := by kernel_rfl
theorem Tryz.co16 : Tryz.prog.cellsOf 16 = 1 := by kernel_rfl
theorem Tryz.zc16 : zcells Tryz.prog 16 = some [.pointer none] := by kernel_rfl
theorem Tryz.tk17 : tk Tryz.prog 17 = 1 := by kernel_rfl
theorem Tryz.co17 : Tryz.prog.cellsOf 17 = 1 := by kernel_rfl
theorem Tryz.zc17 : zcells Tryz.prog 17 = some [.pointer none] := by kernel_rfl
theorem Tryz.tk18 : tk Tryz.prog 18 = 3 := by kernel_rfl
theorem Tryz.co18 : Tryz.prog.cellsOf 18 = 1 := by kernel_rfl
theorem Tryz.fo18_0 : foff Tryz.prog 18 0 = some 0 := by kernel_rfl
theorem Tryz.ff18_0 : ffld Tryz.prog 18 0 = some (0, 1) := by kernel_rfl
theorem Tryz.bz18 : bz Tryz.prog 18 = some ([.pointer none], [(0, 1)]) := by kernel_rfl
theorem Tryz.zc18 : zcells Tryz.prog 18 = some [.pointer none] := by kernel_rfl
theorem Tryz.tk21 : tk Tryz.prog 21 = 1 := by kernel_rfl
theorem Tryz.co21 : Tryz.prog.cellsOf 21 = 1 := by kernel_rfl
theorem Tryz.us21 : (Tryz.prog.underlying 21).isSome = true := by kernel_rfl
theorem Tryz.ik21 : ikind Tryz.prog 21 = some .i32 := by kernel_rfl
theorem Tryz.zc21 : zcells Tryz.prog 21 = some [.int .i32 0] := by kernel_rfl
theorem Tryz.tk22 : tk Tryz.prog 22 = 1 := by kernel_rfl
theorem Tryz.co22 : Tryz.prog.cellsOf 22 = 1 := by kernel_rfl
theorem Tryz.se22 : selt Tryz.prog 22 = some 1 := by kernel_rfl
theorem Tryz.el22 : elemT Tryz.prog 22 = some (5, 1, 1) := by kernel_rfl
theorem Tryz.zc22 : zcells Tryz.prog 22 = some [.slice none 0 0] := by kernel_rfl
theorem Tryz.tk23 : tk Tryz.prog 23 = 1 := by kernel_rfl
theorem Tryz.co23 : Tryz.prog.cellsOf 23 = 1 := by kernel_rfl
theorem Tryz.se23 : selt Tryz.prog 23 = some 3 := by kernel_rfl
theorem Tryz.el23 : elemT Tryz.prog 23 = some (48, 3, 32) := by kernel_rfl
theorem Tryz.zc23 : zcells Tryz.prog 23 = some [.slice none 0 0] := by kernel_rfl
theorem Tryz.tk24 : tk Tryz.prog 24 = 1 := by kernel_rfl
theorem Tryz.co24 : Tryz.prog.cellsOf 24 = 1 := by kernel_rfl
theorem Tryz.se24 : selt Tryz.prog 24 = some 5 := by kernel_rfl
theorem Tryz.el24 : elemT Tryz.prog 24 = some (40, 5, 48) := by kernel_rfl
theorem Tryz.zc24 : zcells Tryz.prog 24 = some [.slice none 0 0] := by kernel_rfl
theorem Tryz.tk37 : tk Tryz.prog 37 = 4 := by kernel_rfl
theorem Tryz.co37 : Tryz.prog.cellsOf 37 = 2 := by kernel_rfl
theorem Tryz.fo37_0 : foff Tryz.prog 37 0 = some 0 := by kernel_rfl
theorem Tryz.ff37_0 : ffld Tryz.prog 37 0 = some (0, 1) := by kernel_rfl
theorem Tryz.fo37_1 : foff Tryz.prog 37 1 = some 1 := by kernel_rfl
theorem Tryz.ff37_1 : ffld Tryz.prog 37 1 = some (1, 1) := by kernel_rfl
theorem Tryz.bz37 : bz Tryz.prog 37 = some ([.int .i64 0, .int .i64 0], [(0, 1), (1, 1)]) := by kernel_rfl
theorem Tryz.zc37 : zcells Tryz.prog 37 = some [.int .i64 0, .int .i64 0] := by kernel_rfl
theorem Tryz.tk38 : tk Tryz.prog 38 = 4 := by kernel_rfl
theorem Tryz.co38 : Tryz.prog.cellsOf 38 = 2 := by kernel_rfl
theorem Tryz.fo38_0 : foff Tryz.prog 38 0 = some 0 := by kernel_rfl
theorem Tryz.ff38_0 : ffld Tryz.prog 38 0 = some (0, 1) := by kernel_rfl
theorem Tryz.fo38_1 : foff Tryz.prog 38 1 = some 1 := by kernel_rfl
theorem Tryz.ff38_1 : ffld Tryz.prog 38 1 = some (1, 1) := by kernel_rfl
theorem Tryz.bz38 : bz Tryz.prog 38 = some ([.int .i64 0, .int .i64 0], [(0, 1), (1, 1)]) := by kernel_rfl
theorem Tryz.zc38 : zcells Tryz.prog 38 = some [.int .i64 0, .int .i64 0] := by kernel_rfl
theorem Tryz.eq38 : EqT Tryz.prog 38 [1, 1] := by
  intro xs ys x y w hx hy
  obtain ⟨a0, a1, rfl⟩ := cells_11 hx
  obtain ⟨b0, b1, rfl⟩ := cells_11 hy
  constructor <;> (go_simp; by_cases h0 : a0 = b0 <;> by_cases h1 : a1 = b1 <;> simp [eqCs, eqC, ByteArray.toList_eq, *])
theorem Tryz.tk39 : tk Tryz.prog 39 = 7 := by kernel_rfl
theorem Tryz.co39 : Tryz.prog.cellsOf 39 = 5 := by kernel_rfl
theorem Tryz.fo39_0 : foff Tryz.prog 39 0 = some 0 := by kernel_rfl
theorem Tryz.ff39_0 : ffld Tryz.prog 39 0 = some (0, 1) := by kernel_rfl
theorem Tryz.fo39_1 : foff Tryz.prog 39 1 = some 1 := by kernel_rfl
theorem Tryz.ff39_1 : ffld Tryz.prog 39 1 = some (1, 4) := by kernel_rfl
theorem Tryz.fo39_2 : foff Tryz.prog 39 2 = some 3 := by kernel_rfl
theorem Tryz.ff39_2 : ffld Tryz.prog 39 2 = some (3, 4) := by kernel_rfl
theorem Tryz.bz39 : bz Tryz.prog 39 = some ([.string ⟨#[]⟩, .int .i64 0, .int .i64 0, .int .i64 0, .int .i64 0], [(0, 1), (1, 2), (3, 2)]) := by kernel_rfl
theorem Tryz.zc39 : zcells Tryz.prog 39 = some [.string ⟨#[]⟩, .int .i64 0, .int .i64 0, .int .i64 0, .int .i64 0] := by kernel_rfl
theorem Tryz.tk40 : tk Tryz.prog 40 = 7 := by kernel_rfl
theorem Tryz.co40 : Tryz.prog.cellsOf 40 = 5 := by kernel_rfl
theorem Tryz.fo40_0 : foff Tryz.prog 40 0 = some 0 := by kernel_rfl
theorem Tryz.ff40_0 : ffld Tryz.prog 40 0 = some (0, 1) := by kernel_rfl
theorem Tryz.fo40_1 : foff Tryz.prog 40 1 = some 1 := by kernel_rfl
theorem Tryz.ff40_1 : ffld Tryz.prog 40 1 = some (1, 4) := by kernel_rfl
theorem Tryz.fo40_2 : foff Tryz.prog 40 2 = some 3 := by kernel_rfl
theorem Tryz.ff40_2 : ffld Tryz.prog 40 2 = some (3, 4) := by kernel_rfl
theorem Tryz.bz40 : bz Tryz.prog 40 = some ([.string ⟨#[]⟩, .int .i64 0, .int .i64 0, .int .i64 0, .int .i64 0], [(0, 1), (1, 2), (3, 2)]) := by kernel_rfl
theorem Tryz.zc40 : zcells Tryz.prog 40 = some [.string ⟨#[]⟩, .int .i64 0, .int .i64 0, .int .i64 0, .int .i64 0] := by kernel_rfl
theorem Tryz.eq40 : EqT Tryz.prog 40 [2, 1, 1, 1, 1] := by
  intro xs ys x y w hx hy
  obtain ⟨a0, a1, a2, a3, a4, rfl⟩ := cells_21111 hx
  obtain ⟨b0, b1, b2, b3, b4, rfl⟩ := cells_21111 hy
  constructor <;> (go_simp; by_cases h0 : a0.data = b0.data <;> by_cases h1 : a1 = b1 <;> by_cases h2 : a2 = b2 <;> by_cases h3 : a3 = b3 <;> by_cases h4 : a4 = b4 <;> simp [eqCs, eqC, ByteArray.toList_eq, *])
theorem Tryz.tk47 : tk Tryz.prog 47 = 5 := by kernel_rfl
theorem Tryz.co47 : Tryz.prog.cellsOf 47 = 3 := by kernel_rfl
theorem Tryz.fo47_0 : foff Tryz.prog 47 0 = some 0 := by kernel_rfl
theorem Tryz.ff47_0 : ffld Tryz.prog 47 0 = some (0, 1) := by kernel_rfl
theorem Tryz.fo47_1 : foff Tryz.prog 47 1 = some 1 := by kernel_rfl
theorem Tryz.ff47_1 : ffld Tryz.prog 47 1 = some (1, 4) := by kernel_rfl
theorem Tryz.bz47 : bz Tryz.prog 47 = some ([.string ⟨#[]⟩, .int .i64 0, .int .i64 0], [(0, 1), (1, 2)]) := by kernel_rfl
theorem Tryz.zc47 : zcells Tryz.prog 47 = some [.string ⟨#[]⟩, .int .i64 0, .int .i64 0] := by kernel_rfl
theorem Tryz.tk48 : tk Tryz.prog 48 = 5 := by kernel_rfl
theorem Tryz.co48 : Tryz.prog.cellsOf 48 = 3 := by kernel_rfl
theorem Tryz.fo48_0 : foff Tryz.prog 48 0 = some 0 := by kernel_rfl
theorem Tryz.ff48_0 : ffld Tryz.prog 48 0 = some (0, 1) := by kernel_rfl
theorem Tryz.fo48_1 : foff Tryz.prog 48 1 = some 1 := by kernel_rfl
theorem Tryz.ff48_1 : ffld Tryz.prog 48 1 = some (1, 4) := by kernel_rfl
theorem Tryz.bz48 : bz Tryz.prog 48 = some ([.string ⟨#[]⟩, .int .i64 0, .int .i64 0], [(0, 1), (1, 2)]) := by kernel_rfl
theorem Tryz.zc48 : zcells Tryz.prog 48 = some [.string ⟨#[]⟩, .int .i64 0, .int .i64 0] := by kernel_rfl
theorem Tryz.eq48 : EqT Tryz.prog 48 [2, 1, 1] := by
  intro xs ys x y w hx hy
  obtain ⟨a0, a1, a2, rfl⟩ := cells_211 hx
  obtain ⟨b0, b1, b2, rfl⟩ := cells_211 hy
  constructor <;> (go_simp; by_cases h0 : a0.data = b0.data <;> by_cases h1 : a1 = b1 <;> by_cases h2 : a2 = b2 <;> simp [eqCs, eqC, ByteArray.toList_eq, *])
theorem Tryz.tk49 : tk Tryz.prog 49 = 1 := by kernel_rfl
theorem Tryz.co49 : Tryz.prog.cellsOf 49 = 1 := by kernel_rfl
theorem Tryz.zc49 : zcells Tryz.prog 49 = some [.pointer none] := by kernel_rfl
theorem Tryz.tk64 : tk Tryz.prog 64 = 1 := by kernel_rfl
theorem Tryz.co64 : Tryz.prog.cellsOf 64 = 1 := by kernel_rfl
theorem Tryz.us64 : (Tryz.prog.underlying 64).isSome = true := by kernel_rfl
theorem Tryz.ik64 : ikind Tryz.prog 64 = some .u64 := by kernel_rfl
theorem Tryz.zc64 : zcells Tryz.prog 64 = some [.int .u64 0] := by kernel_rfl
theorem Tryz.tk67 : tk Tryz.prog 67 = 4 := by kernel_rfl
theorem Tryz.co67 : Tryz.prog.cellsOf 67 = 2 := by kernel_rfl
theorem Tryz.fo67_0 : foff Tryz.prog 67 0 = some 0 := by kernel_rfl
theorem Tryz.ff67_0 : ffld Tryz.prog 67 0 = some (0, 1) := by kernel_rfl
theorem Tryz.fo67_1 : foff Tryz.prog 67 1 = some 1 := by kernel_rfl
theorem Tryz.ff67_1 : ffld Tryz.prog 67 1 = some (1, 1) := by kernel_rfl
theorem Tryz.bz67 : bz Tryz.prog 67 = some ([.slice none 0 0, .int .i64 0], [(0, 1), (1, 1)]) := by kernel_rfl
theorem Tryz.zc67 : zcells Tryz.prog 67 = some [.slice none 0 0, .int .i64 0] := by kernel_rfl
theorem Tryz.tk68 : tk Tryz.prog 68 = 4 := by kernel_rfl
theorem Tryz.co68 : Tryz.prog.cellsOf 68 = 2 := by kernel_rfl
theorem Tryz.fo68_0 : foff Tryz.prog 68 0 = some 0 := by kernel_rfl
theorem Tryz.ff68_0 : ffld Tryz.prog 68 0 = some (0, 1) := by kernel_rfl
theorem Tryz.fo68_1 : foff Tryz.prog 68 1 = some 1 := by kernel_rfl
theorem Tryz.ff68_1 : ffld Tryz.prog 68 1 = some (1, 1) := by kernel_rfl
theorem Tryz.bz68 : bz Tryz.prog 68 = some ([.slice none 0 0, .int .i64 0], [(0, 1), (1, 1)]) := by kernel_rfl
theorem Tryz.zc68 : zcells Tryz.prog 68 = some [.slice none 0 0, .int .i64 0] := by kernel_rfl
theorem Tryz.tk74 : tk Tryz.prog 74 = 1 := by kernel_rfl
theorem Tryz.co74 : Tryz.prog.cellsOf 74 = 1 := by kernel_rfl
theorem Tryz.se74 : selt Tryz.prog 74 = some 1 := by kernel_rfl
theorem Tryz.el74 : elemT Tryz.prog 74 = some (9, 1, 16) := by kernel_rfl
theorem Tryz.zc74 : zcells Tryz.prog 74 = some [.slice none 0 0] := by kernel_rfl
theorem Tryz.tk83 : tk Tryz.prog 83 = 1 := by kernel_rfl
theorem Tryz.co83 : Tryz.prog.cellsOf 83 = 1 := by kernel_rfl
theorem Tryz.us83 : (Tryz.prog.underlying 83).isSome = true := by kernel_rfl
theorem Tryz.ik83 : ikind Tryz.prog 83 = some .i64 := by kernel_rfl
theorem Tryz.zc83 : zcells Tryz.prog 83 = some [.int .i64 0] := by kernel_rfl
theorem Tryz.tk91 : tk Tryz.prog 91 = 1 := by kernel_rfl
theorem Tryz.co91 : Tryz.prog.cellsOf 91 = 1 := by kernel_rfl
theorem Tryz.us91 : (Tryz.prog.underlying 91).isSome = true := by kernel_rfl
theorem Tryz.ik91 : ikind Tryz.prog 91 = some .u32 := by kernel_rfl
theorem Tryz.zc91 : zcells Tryz.prog 91 = some [.int .u32 0] := by kernel_rfl
theorem Tryz.tk93 : tk Tryz.prog 93 = 1 := by kernel_rfl
theorem Tryz.co93 : Tryz.prog.cellsOf 93 = 1 := by kernel_rfl
theorem Tryz.us93 : (Tryz.prog.underlying 93).isSome = true := by kernel_rfl
theorem Tryz.ik93 : ikind Tryz.prog 93 = some .u64 := by kernel_rfl
theorem Tryz.zc93 : zcells Tryz.prog 93 = some [.int .u64 0] := by kernel_rfl
theorem Tryz.tk96 : tk Tryz.prog 96 = 1 := by kernel_rfl
theorem Tryz.co96 : Tryz.prog.cellsOf 96 = 1 := by kernel_rfl
theorem Tryz.se96 : selt Tryz.prog 96 = some 1 := by kernel_rfl
theorem Tryz.el96 : elemT Tryz.prog 96 = some (3, 1, 8) := by kernel_rfl
theorem Tryz.zc96 : zcells Tryz.prog 96 = some [.slice none 0 0] := by kernel_rfl
theorem Tryz.tk99 : tk Tryz.prog 99 = 1 := by kernel_rfl
theorem Tryz.co99 : Tryz.prog.cellsOf 99 = 1 := by kernel_rfl
theorem Tryz.us99 : (Tryz.prog.underlying 99).isSome = true := by kernel_rfl
theorem Tryz.ik99 : ikind Tryz.prog 99 = some .u64 := by kernel_rfl
theorem Tryz.zc99 : zcells Tryz.prog 99 = some [.int .u64 0] := by kernel_rfl
theorem Tryz.tk103 : tk Tryz.prog 103 = 1 := by kernel_rfl
theorem Tryz.co103 : Tryz.prog.cellsOf 103 = 1 := by kernel_rfl
theorem Tryz.zc103 : zcells Tryz.prog 103 = some [.pointer none] := by kernel_rfl
theorem Tryz.tk110 : tk Tryz.prog 110 = 1 := by kernel_rfl
theorem Tryz.co110 : Tryz.prog.cellsOf 110 = 1 := by kernel_rfl
theorem Tryz.zc110 : zcells Tryz.prog 110 = some [.pointer none] := by kernel_rfl
theorem Tryz.tk118 : tk Tryz.prog 118 = 4 := by kernel_rfl
theorem Tryz.co118 : Tryz.prog.cellsOf 118 = 2 := by kernel_rfl
theorem Tryz.fo118_0 : foff Tryz.prog 118 0 = some 0 := by kernel_rfl
theorem Tryz.ff118_0 : ffld Tryz.prog 118 0 = some (0, 1) := by kernel_rfl
theorem Tryz.fo118_1 : foff Tryz.prog 118 1 = some 1 := by kernel_rfl
theorem Tryz.ff118_1 : ffld Tryz.prog 118 1 = some (1, 1) := by kernel_rfl
theorem Tryz.bz118 : bz Tryz.prog 118 = some ([.int .u8 0, .int .u8 0], [(0, 1), (1, 1)]) := by kernel_rfl
theorem Tryz.zc118 : zcells Tryz.prog 118 = some [.int .u8 0, .int .u8 0] := by kernel_rfl
theorem Tryz.tk125 : tk Tryz.prog 125 = 6 := by kernel_rfl
theorem Tryz.co125 : Tryz.prog.cellsOf 125 = 4 := by kernel_rfl
theorem Tryz.fo125_0 : foff Tryz.prog 125 0 = some 0 := by kernel_rfl
theorem Tryz.ff125_0 : ffld Tryz.prog 125 0 = some (0, 1) := by kernel_rfl
theorem Tryz.fo125_1 : foff Tryz.prog 125 1 = some 1 := by kernel_rfl
theorem Tryz.ff125_1 : ffld Tryz.prog 125 1 = some (1, 1) := by kernel_rfl
theorem Tryz.fo125_2 : foff Tryz.prog 125 2 = some 2 := by kernel_rfl
theorem Tryz.ff125_2 : ffld Tryz.prog 125 2 = some (2, 1) := by kernel_rfl
theorem Tryz.fo125_3 : foff Tryz.prog 125 3 = some 3 := by kernel_rfl
theorem Tryz.ff125_3 : ffld Tryz.prog 125 3 = some (3, 1) := by kernel_rfl
theorem Tryz.bz125 : bz Tryz.prog 125 = some ([.pointer none, .pointer none, .pointer none, .string ⟨#[]⟩], [(0, 1), (1, 1), (2, 1), (3, 1)]) := by kernel_rfl
theorem Tryz.zc125 : zcells Tryz.prog 125 = some [.pointer none, .pointer none, .pointer none, .string ⟨#[]⟩] := by kernel_rfl
theorem Tryz.tk128 : tk Tryz.prog 128 = 2 := by kernel_rfl
theorem Tryz.co128 : Tryz.prog.cellsOf 128 = 0 := by kernel_rfl
theorem Tryz.ff128_0 : ffld Tryz.prog 128 0 = some (0, 2) := by kernel_rfl
theorem Tryz.bz128 : bz Tryz.prog 128 = some ([], [(0, 0)]) := by kernel_rfl
theorem Tryz.zc128 : zcells Tryz.prog 128 = some [] := by kernel_rfl
theorem Tryz.tk134 : tk Tryz.prog 134 = 1 := by kernel_rfl
theorem Tryz.co134 : Tryz.prog.cellsOf 134 = 1 := by kernel_rfl
theorem Tryz.zc134 : zcells Tryz.prog 134 = some [.pointer none] := by kernel_rfl
theorem Tryz.tk137 : tk Tryz.prog 137 = 13 := by kernel_rfl
theorem Tryz.co137 : Tryz.prog.cellsOf 137 = 11 := by kernel_rfl
theorem Tryz.fo137_0 : foff Tryz.prog 137 0 = some 0 := by kernel_rfl
theorem Tryz.ff137_0 : ffld Tryz.prog 137 0 = some (0, 1) := by kernel_rfl
theorem Tryz.fo137_1 : foff Tryz.prog 137 1 = some 1 := by kernel_rfl
theorem Tryz.ff137_1 : ffld Tryz.prog 137 1 = some (1, 1) := by kernel_rfl
theorem Tryz.fo137_2 : foff Tryz.prog 137 2 = some 2 := by kernel_rfl
theorem Tryz.ff137_2 : ffld Tryz.prog 137 2 = some (2, 1) := by kernel_rfl
theorem Tryz.fo137_3 : foff Tryz.prog 137 3 = some 3 := by kernel_rfl
theorem Tryz.ff137_3 : ffld Tryz.prog 137 3 = some (3, 1) := by kernel_rfl
theorem Tryz.fo137_4 : foff Tryz.prog 137 4 = some 4 := by kernel_rfl
theorem Tryz.ff137_4 : ffld Tryz.prog 137 4 = some (4, 1) := by kernel_rfl
theorem Tryz.fo137_5 : foff Tryz.prog 137 5 = some 5 := by kernel_rfl
theorem Tryz.ff137_5 : ffld Tryz.prog 137 5 = some (5, 1) := by kernel_rfl
theorem Tryz.fo137_6 : foff Tryz.prog 137 6 = some 6 := by kernel_rfl
theorem Tryz.ff137_6 : ffld Tryz.prog 137 6 = some (6, 1) := by kernel_rfl
theorem Tryz.fo137_8 : foff Tryz.prog 137 8 = some 8 := by kernel_rfl
theorem Tryz.ff137_8 : ffld Tryz.prog 137 8 = some (8, 1) := by kernel_rfl
theorem Tryz.fo137_9 : foff Tryz.prog 137 9 = some 9 := by kernel_rfl
theorem Tryz.ff137_9 : ffld Tryz.prog 137 9 = some (9, 1) := by kernel_rfl
theorem Tryz.fo137_10 : foff Tryz.prog 137 10 = some 10 := by kernel_rfl
theorem Tryz.ff137_10 : ffld Tryz.prog 137 10 = some (10, 1) := by kernel_rfl

attribute [push_cast] Tryz.tk2 Tryz.co2 Tryz.us2 Tryz.ik2 Tryz.zc2 Tryz.tk3 Tryz.co3 Tryz.us3 Tryz.ik3 Tryz.zc3 Tryz.tk4 Tryz.co4 Tryz.zc4 Tryz.tk5 Tryz.co5 Tryz.us5 Tryz.ik5 Tryz.zc5 Tryz.tk7 Tryz.co7 Tryz.fo7_0 Tryz.ff7_0 Tryz.fo7_1 Tryz.ff7_1 Tryz.fo7_2 Tryz.ff7_2 Tryz.fo7_3 Tryz.ff7_3 Tryz.bz7 Tryz.zc7 Tryz.tk9 Tryz.co9 Tryz.us9 Tryz.is9 Tryz.zc9 Tryz.tk12 Tryz.co12 Tryz.us12 Tryz.ik12 Tryz.zc12 Tryz.tk13 Tryz.co13 Tryz.fo13_0 Tryz.ff13_0 Tryz.fo13_1 Tryz.ff13_1 Tryz.bz13 Tryz.zc13 Tryz.tk15 Tryz.co15 Tryz.zc15 Tryz.tk16 Tryz.co16 Tryz.zc16 Tryz.tk17 Tryz.co17 Tryz.zc17 Tryz.tk18 Tryz.co18 Tryz.fo18_0 Tryz.ff18_0 Tryz.bz18 Tryz.zc18 Tryz.tk21 Tryz.co21 Tryz.us21 Tryz.ik21 Tryz.zc21 Tryz.tk22 Tryz.co22 Tryz.se22 Tryz.el22 Tryz.zc22 Tryz.tk23 Tryz.co23 Tryz.se23 Tryz.el23 Tryz.zc23 Tryz.tk24 Tryz.co24 Tryz.se24 Tryz.el24 Tryz.zc24 Tryz.tk37 Tryz.co37 Tryz.fo37_0 Tryz.ff37_0 Tryz.fo37_1 Tryz.ff37_1 Tryz.bz37 Tryz.zc37 Tryz.tk38 Tryz.co38 Tryz.fo38_0 Tryz.ff38_0 Tryz.fo38_1 Tryz.ff38_1 Tryz.bz38 Tryz.zc38 Tryz.eq38 Tryz.tk39 Tryz.co39 Tryz.fo39_0 Tryz.ff39_0 Tryz.fo39_1 Tryz.ff39_1 Tryz.fo39_2 Tryz.ff39_2 Tryz.bz39 Tryz.zc39 Tryz.tk40 Tryz.co40 Tryz.fo40_0 Tryz.ff40_0 Tryz.fo40_1 Tryz.ff40_1 Tryz.fo40_2 Tryz.ff40_2 Tryz.bz40 Tryz.zc40 Tryz.eq40 Tryz.tk47 Tryz.co47 Tryz.fo47_0 Tryz.ff47_0 Tryz.fo47_1 Tryz.ff47_1 Tryz.bz47 Tryz.zc47 Tryz.tk48 Tryz.co48 Tryz.fo48_0 Tryz.ff48_0 Tryz.fo48_1 Tryz.ff48_1 Tryz.bz48 Tryz.zc48 Tryz.eq48 Tryz.tk49 Tryz.co49 Tryz.zc49 Tryz.tk64 Tryz.co64 Tryz.us64 Tryz.ik64 Tryz.zc64 Tryz.tk67 Tryz.co67 Tryz.fo67_0 Tryz.ff67_0 Tryz.fo67_1 Tryz.ff67_1 Tryz.bz67 Tryz.zc67 Tryz.tk68 Tryz.co68 Tryz.fo68_0 Tryz.ff68_0 Tryz.fo68_1 Tryz.ff68_1 Tryz.bz68 Tryz.zc68 Tryz.tk74 Tryz.co74 Tryz.se74 Tryz.el74 Tryz.zc74 Tryz.tk83 Tryz.co83 Tryz.us83 Tryz.ik83 Tryz.zc83 Tryz.tk91 Tryz.co91 Tryz.us91 Tryz.ik91 Tryz.zc91 Tryz.tk93 Tryz.co93 Tryz.us93 Tryz.ik93 Tryz.zc93 Tryz.tk96 Tryz.co96 Tryz.se96 Tryz.el96 Tryz.zc96 Tryz.tk99 Tryz.co99 Tryz.us99 Tryz.ik99 Tryz.zc99 Tryz.tk103 Tryz.co103 Tryz.zc103 Tryz.tk110 Tryz.co110 Tryz.zc110 Tryz.tk118 Tryz.co118 Tryz.fo118_0 Tryz.ff118_0 Tryz.fo118_1 Tryz.ff118_1 Tryz.bz118 Tryz.zc118 Tryz.tk125 Tryz.co125 Tryz.fo125_0 Tryz.ff125_0 Tryz.fo125_1 Tryz.ff125_1 Tryz.fo125_2 Tryz.ff125_2 Tryz.fo125_3 Tryz.ff125_3 Tryz.bz125 Tryz.zc125 Tryz.tk128 Tryz.co128 Tryz.ff128_0 Tryz.bz128 Tryz.zc128 Tryz.tk134 Tryz.co134 Tryz.zc134 Tryz.tk137 Tryz.co137 Tryz.fo137_0 Tryz.ff137_0 Tryz.fo137_1 Tryz.ff137_1 Tryz.fo137_2 Tryz.ff137_2 Tryz.fo137_3 Tryz.ff137_3 Tryz.fo137_4 Tryz.ff137_4 Tryz.fo137_5 Tryz.ff137_5 Tryz.fo137_6 Tryz.ff137_6 Tryz.fo137_8 Tryz.ff137_8 Tryz.fo137_9 Tryz.ff137_9 Tryz.fo137_10 Tryz.ff137_10 Tryz.underlying4 Tryz.results3 Tryz.results4 Tryz.results5 Tryz.results6 Tryz.results7 Tryz.results8 Tryz.results9 Tryz.results10 Tryz.results11 Tryz.results12 Tryz.results13 Tryz.results14 Tryz.results15 Tryz.results16 Tryz.results17 Tryz.results18 Tryz.results19 Tryz.results20 Tryz.results21 Tryz.results22 Tryz.results23 Tryz.results24 Tryz.results25 Tryz.results26 Tryz.results27 Tryz.results28 Tryz.results29 Tryz.results30 Tryz.results31 Tryz.results32 Tryz.results33 Tryz.results34 Tryz.results35 Tryz.results36 Tryz.results37 Tryz.results38 Tryz.results39 Tryz.results40 Tryz.results41 Tryz.results42 Tryz.results43 Tryz.results44 Tryz.results45 Tryz.results46 Tryz.results47 Tryz.results48 Tryz.results49 Tryz.results50 Tryz.results51 Tryz.results52 Tryz.results53 Tryz.results54 Tryz.results55 Tryz.results56 Tryz.results57 Tryz.results58 Tryz.results59 Tryz.results60 Tryz.results61 Tryz.results62 Tryz.results63 Tryz.results64 Tryz.results65 Tryz.results66 Tryz.results67 Tryz.results68 Tryz.results69 Tryz.results70 Tryz.results71 Tryz.results72 Tryz.results73 Tryz.results74 Tryz.results75 Tryz.results76 Tryz.results77 Tryz.results78 Tryz.results79 Tryz.results80 Tryz.results81 Tryz.results82 Tryz.results83 Tryz.results84 Tryz.results85 Tryz.results86 Tryz.results87 Tryz.results88 Tryz.results89 Tryz.results90 Tryz.results91 Tryz.results92 Tryz.results93 Tryz.results94 Tryz.results95 Tryz.results96 Tryz.results97 Tryz.results98 Tryz.results99 Tryz.results100 Tryz.results101 Tryz.results102 Tryz.results103 Tryz.results104 Tryz.results105 Tryz.results106 Tryz.results107 Tryz.results108 Tryz.results109 Tryz.results122 Tryz.results123 Tryz.results124 Tryz.results125 Tryz.results126 Tryz.results127 Tryz.results128 Tryz.results129 Tryz.results130

end Go.Proofs.YtellipmolheaaaaGreatDoor
