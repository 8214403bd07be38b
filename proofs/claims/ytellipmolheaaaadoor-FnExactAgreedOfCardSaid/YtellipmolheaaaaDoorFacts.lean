/-
  The closed facts on the types of this seat (printed by facts.py): tk, foff, ffld, bz, zcells, elemT, EqT and their kin. Conditions: none.
-/
import Derived.Test.YtellipmolheaaaaDoorCoreB
import Derived.Test.YtellipmolheaaaaDoorRows
set_option linter.unusedSimpArgs false
set_option linter.unusedVariables false
namespace Go.Proofs.YtellipmolheaaaaDoor
open Go Go.RowKit

theorem kind_1 {x : Value} (h : kindOf x = 1) : ∃ a, x = .int .i64 a := by
  unfold kindOf at h
  split at h <;> first | exact ⟨_, rfl⟩ | (simp at h)
theorem kind_2 {x : Value} (h : kindOf x = 2) : ∃ a, x = .string a := by
  unfold kindOf at h
  split at h <;> first | exact ⟨_, rfl⟩ | (simp at h)

theorem cells_11 {xs : Array Value} (h : xs.toList.map kindOf = [1, 1]) : ∃ (a0 : Int) (a1 : Int), xs = #[.int .i64 a0, .int .i64 a1] := by
  obtain ⟨l⟩ := xs
  simp only at h
  rcases l with _ | ⟨x0, l⟩
  · simp at h
  rcases l with _ | ⟨x1, l⟩
  · simp at h
  rcases l with _ | ⟨y, l⟩
  rotate_left
  · simp at h
  simp only [List.map_cons, List.map_nil, List.cons.injEq, and_true] at h
  obtain ⟨h0, h1⟩ := h
  obtain ⟨a0, rfl⟩ := kind_1 h0
  obtain ⟨a1, rfl⟩ := kind_1 h1
  exact ⟨a0, a1, rfl⟩

theorem cells_211 {xs : Array Value} (h : xs.toList.map kindOf = [2, 1, 1]) : ∃ (a0 : ByteArray) (a1 : Int) (a2 : Int), xs = #[.string a0, .int .i64 a1, .int .i64 a2] := by
  obtain ⟨l⟩ := xs
  simp only at h
  rcases l with _ | ⟨x0, l⟩
  · simp at h
  rcases l with _ | ⟨x1, l⟩
  · simp at h
  rcases l with _ | ⟨x2, l⟩
  · simp at h
  rcases l with _ | ⟨y, l⟩
  rotate_left
  · simp at h
  simp only [List.map_cons, List.map_nil, List.cons.injEq, and_true] at h
  obtain ⟨h0, h1, h2⟩ := h
  obtain ⟨a0, rfl⟩ := kind_2 h0
  obtain ⟨a1, rfl⟩ := kind_1 h1
  obtain ⟨a2, rfl⟩ := kind_1 h2
  exact ⟨a0, a1, a2, rfl⟩

theorem cells_21111 {xs : Array Value} (h : xs.toList.map kindOf = [2, 1, 1, 1, 1]) : ∃ (a0 : ByteArray) (a1 : Int) (a2 : Int) (a3 : Int) (a4 : Int), xs = #[.string a0, .int .i64 a1, .int .i64 a2, .int .i64 a3, .int .i64 a4] := by
  obtain ⟨l⟩ := xs
  simp only at h
  rcases l with _ | ⟨x0, l⟩
  · simp at h
  rcases l with _ | ⟨x1, l⟩
  · simp at h
  rcases l with _ | ⟨x2, l⟩
  · simp at h
  rcases l with _ | ⟨x3, l⟩
  · simp at h
  rcases l with _ | ⟨x4, l⟩
  · simp at h
  rcases l with _ | ⟨y, l⟩
  rotate_left
  · simp at h
  simp only [List.map_cons, List.map_nil, List.cons.injEq, and_true] at h
  obtain ⟨h0, h1, h2, h3, h4⟩ := h
  obtain ⟨a0, rfl⟩ := kind_2 h0
  obtain ⟨a1, rfl⟩ := kind_1 h1
  obtain ⟨a2, rfl⟩ := kind_1 h2
  obtain ⟨a3, rfl⟩ := kind_1 h3
  obtain ⟨a4, rfl⟩ := kind_1 h4
  exact ⟨a0, a1, a2, a3, a4, rfl⟩

theorem Tryd.tk2 : tk Tryd.prog 2 = 1 := by kernel_rfl
theorem Tryd.co2 : Tryd.prog.cellsOf 2 = 1 := by kernel_rfl
theorem Tryd.us2 : (Tryd.prog.underlying 2).isSome = true := by kernel_rfl
theorem Tryd.ik2 : ikind Tryd.prog 2 = some .i64 := by kernel_rfl
theorem Tryd.zc2 : zcells Tryd.prog 2 = some [.int .i64 0] := by kernel_rfl
theorem Tryd.tk3 : tk Tryd.prog 3 = 1 := by kernel_rfl
theorem Tryd.co3 : Tryd.prog.cellsOf 3 = 1 := by kernel_rfl
theorem Tryd.us3 : (Tryd.prog.underlying 3).isSome = true := by kernel_rfl
theorem Tryd.ik3 : ikind Tryd.prog 3 = some .i64 := by kernel_rfl
theorem Tryd.zc3 : zcells Tryd.prog 3 = some [.int .i64 0] := by kernel_rfl
theorem Tryd.tk4 : tk Tryd.prog 4 = 1 := by kernel_rfl
theorem Tryd.co4 : Tryd.prog.cellsOf 4 = 1 := by kernel_rfl
theorem Tryd.zc4 : zcells Tryd.prog 4 = some [.bool false] := by kernel_rfl
theorem Tryd.tk5 : tk Tryd.prog 5 = 1 := by kernel_rfl
theorem Tryd.co5 : Tryd.prog.cellsOf 5 = 1 := by kernel_rfl
theorem Tryd.us5 : (Tryd.prog.underlying 5).isSome = true := by kernel_rfl
theorem Tryd.ik5 : ikind Tryd.prog 5 = some .u8 := by kernel_rfl
theorem Tryd.zc5 : zcells Tryd.prog 5 = some [.int .u8 0] := by kernel_rfl
theorem Tryd.tk7 : tk Tryd.prog 7 = 6 := by kernel_rfl
theorem Tryd.co7 : Tryd.prog.cellsOf 7 = 4 := by kernel_rfl
theorem Tryd.fo7_0 : foff Tryd.prog 7 0 = some 0 := by kernel_rfl
theorem Tryd.ff7_0 : ffld Tryd.prog 7 0 = some (0, 1) := by kernel_rfl
theorem Tryd.fo7_1 : foff Tryd.prog 7 1 = some 1 := by kernel_rfl
theorem Tryd.ff7_1 : ffld Tryd.prog 7 1 = some (1, 1) := by kernel_rfl
theorem Tryd.fo7_2 : foff Tryd.prog 7 2 = some 2 := by kernel_rfl
theorem Tryd.ff7_2 : ffld Tryd.prog 7 2 = some (2, 1) := by kernel_rfl
theorem Tryd.fo7_3 : foff Tryd.prog 7 3 = some 3 := by kernel_rfl
theorem Tryd.ff7_3 : ffld Tryd.prog 7 3 = some (3, 1) := by kernel_rfl
theorem Tryd.bz7 : bz Tryd.prog 7 = some ([.int .i64 0, .int .i64 0, .bool false, .int .u8 0], [(0, 1), (1, 1), (2, 1), (3, 1)]) := by kernel_rfl
theorem Tryd.zc7 : zcells Tryd.prog 7 = some [.int .i64 0, .int .i64 0, .bool false, .int .u8 0] := by kernel_rfl
theorem Tryd.tk9 : tk Tryd.prog 9 = 1 := by kernel_rfl
theorem Tryd.co9 : Tryd.prog.cellsOf 9 = 1 := by kernel_rfl
theorem Tryd.us9 : (Tryd.prog.underlying 9).isSome = true := by kernel_rfl
theorem Tryd.is9 : isStr Tryd.prog 9 = true := by kernel_rfl
theorem Tryd.zc9 : zcells Tryd.prog 9 = some [.string ⟨#[]⟩] := by kernel_rfl
theorem Tryd.tk12 : tk Tryd.prog 12 = 1 := by kernel_rfl
theorem Tryd.co12 : Tryd.prog.cellsOf 12 = 1 := by kernel_rfl
theorem Tryd.us12 : (Tryd.prog.underlying 12).isSome = true := by kernel_rfl
theorem Tryd.ik12 : ikind Tryd.prog 12 = some .u64 := by kernel_rfl
theorem Tryd.zc12 : zcells Tryd.prog 12 = some [.int .u64 0] := by kernel_rfl
theorem Tryd.tk13 : tk Tryd.prog 13 = 4 := by kernel_rfl
theorem Tryd.co13 : Tryd.prog.cellsOf 13 = 2 := by kernel_rfl
theorem Tryd.fo13_0 : foff Tryd.prog 13 0 = some 0 := by kernel_rfl
theorem Tryd.ff13_0 : ffld Tryd.prog 13 0 = some (0, 1) := by kernel_rfl
theorem Tryd.fo13_1 : foff Tryd.prog 13 1 = some 1 := by kernel_rfl
theorem Tryd.ff13_1 : ffld Tryd.prog 13 1 = some (1, 1) := by kernel_rfl
theorem Tryd.bz13 : bz Tryd.prog 13 = some ([.string ⟨#[]⟩, .int .u64 0], [(0, 1), (1, 1)]) := by kernel_rfl
theorem Tryd.zc13 : zcells Tryd.prog 13 = some [.string ⟨#[]⟩, .int .u64 0] := by kernel_rfl
theorem Tryd.tk15 : tk Tryd.prog 15 = 1 := by kernel_rfl
theorem Tryd.co15 : Tryd.prog.cellsOf 15 = 1 := by kernel_rfl
theorem Tryd.zc15 : zcells Tryd.prog 15 = some [.pointer none] := by kernel_rfl
theorem Tryd.tk16 : tk Tryd.prog 16 = 1 := by kernel_rfl
theorem Tryd.co16 : Tryd.prog.cellsOf 16 = 1 := by kernel_rfl
theorem Tryd.zc16 : zcells Tryd.prog 16 = some [.pointer none] := by kernel_rfl
theorem Tryd.tk17 : tk Tryd.prog 17 = 1 := by kernel_rfl
theorem Tryd.co17 : Tryd.prog.cellsOf 17 = 1 := by kernel_rfl
theorem Tryd.zc17 : zcells Tryd.prog 17 = some [.pointer none] := by kernel_rfl
theorem Tryd.tk18 : tk Tryd.prog 18 = 3 := by kernel_rfl
theorem Tryd.co18 : Tryd.prog.cellsOf 18 = 1 := by kernel_rfl
theorem Tryd.fo18_0 : foff Tryd.prog 18 0 = some 0 := by kernel_rfl
theorem Tryd.ff18_0 : ffld Tryd.prog 18 0 = some (0, 1) := by kernel_rfl
theorem Tryd.bz18 : bz Tryd.prog 18 = some ([.pointer none], [(0, 1)]) := by kernel_rfl
theorem Tryd.zc18 : zcells Tryd.prog 18 = some [.pointer none] := by kernel_rfl
theorem Tryd.tk21 : tk Tryd.prog 21 = 1 := by kernel_rfl
theorem Tryd.co21 : Tryd.prog.cellsOf 21 = 1 := by kernel_rfl
theorem Tryd.us21 : (Tryd.prog.underlying 21).isSome = true := by kernel_rfl
theorem Tryd.ik21 : ikind Tryd.prog 21 = some .i32 := by kernel_rfl
theorem Tryd.zc21 : zcells Tryd.prog 21 = some [.int .i32 0] := by kernel_rfl
theorem Tryd.tk22 : tk Tryd.prog 22 = 1 := by kernel_rfl
theorem Tryd.co22 : Tryd.prog.cellsOf 22 = 1 := by kernel_rfl
theorem Tryd.se22 : selt Tryd.prog 22 = some 1 := by kernel_rfl
theorem Tryd.el22 : elemT Tryd.prog 22 = some (5, 1, 1) := by kernel_rfl
theorem Tryd.zc22 : zcells Tryd.prog 22 = some [.slice none 0 0] := by kernel_rfl
theorem Tryd.tk23 : tk Tryd.prog 23 = 1 := by kernel_rfl
theorem Tryd.co23 : Tryd.prog.cellsOf 23 = 1 := by kernel_rfl
theorem Tryd.se23 : selt Tryd.prog 23 = some 5 := by kernel_rfl
theorem Tryd.el23 : elemT Tryd.prog 23 = some (46, 5, 48) := by kernel_rfl
theorem Tryd.zc23 : zcells Tryd.prog 23 = some [.slice none 0 0] := by kernel_rfl
theorem Tryd.tk33 : tk Tryd.prog 33 = 1 := by kernel_rfl
theorem Tryd.co33 : Tryd.prog.cellsOf 33 = 1 := by kernel_rfl
theorem Tryd.se33 : selt Tryd.prog 33 = some 5 := by kernel_rfl
theorem Tryd.el33 : elemT Tryd.prog 33 = some (75, 5, 48) := by kernel_rfl
theorem Tryd.zc33 : zcells Tryd.prog 33 = some [.slice none 0 0] := by kernel_rfl
theorem Tryd.tk39 : tk Tryd.prog 39 = 1 := by kernel_rfl
theorem Tryd.co39 : Tryd.prog.cellsOf 39 = 1 := by kernel_rfl
theorem Tryd.se39 : selt Tryd.prog 39 = some 2 := by kernel_rfl
theorem Tryd.el39 : elemT Tryd.prog 39 = some (81, 2, 16) := by kernel_rfl
theorem Tryd.zc39 : zcells Tryd.prog 39 = some [.slice none 0 0] := by kernel_rfl
theorem Tryd.tk43 : tk Tryd.prog 43 = 4 := by kernel_rfl
theorem Tryd.co43 : Tryd.prog.cellsOf 43 = 2 := by kernel_rfl
theorem Tryd.fo43_0 : foff Tryd.prog 43 0 = some 0 := by kernel_rfl
theorem Tryd.ff43_0 : ffld Tryd.prog 43 0 = some (0, 1) := by kernel_rfl
theorem Tryd.fo43_1 : foff Tryd.prog 43 1 = some 1 := by kernel_rfl
theorem Tryd.ff43_1 : ffld Tryd.prog 43 1 = some (1, 1) := by kernel_rfl
theorem Tryd.bz43 : bz Tryd.prog 43 = some ([.int .i64 0, .int .i64 0], [(0, 1), (1, 1)]) := by kernel_rfl
theorem Tryd.zc43 : zcells Tryd.prog 43 = some [.int .i64 0, .int .i64 0] := by kernel_rfl
theorem Tryd.tk44 : tk Tryd.prog 44 = 4 := by kernel_rfl
theorem Tryd.co44 : Tryd.prog.cellsOf 44 = 2 := by kernel_rfl
theorem Tryd.fo44_0 : foff Tryd.prog 44 0 = some 0 := by kernel_rfl
theorem Tryd.ff44_0 : ffld Tryd.prog 44 0 = some (0, 1) := by kernel_rfl
theorem Tryd.fo44_1 : foff Tryd.prog 44 1 = some 1 := by kernel_rfl
theorem Tryd.ff44_1 : ffld Tryd.prog 44 1 = some (1, 1) := by kernel_rfl
theorem Tryd.bz44 : bz Tryd.prog 44 = some ([.int .i64 0, .int .i64 0], [(0, 1), (1, 1)]) := by kernel_rfl
theorem Tryd.zc44 : zcells Tryd.prog 44 = some [.int .i64 0, .int .i64 0] := by kernel_rfl
theorem Tryd.eq44 : EqT Tryd.prog 44 [1, 1] := by
  intro xs ys x y w hx hy
  obtain ⟨a0, a1, rfl⟩ := cells_11 hx
  obtain ⟨b0, b1, rfl⟩ := cells_11 hy
  constructor <;> (go_simp; by_cases h0 : a0 = b0 <;> by_cases h1 : a1 = b1 <;> simp [eqCs, eqC, ByteArray.toList_eq, *])
theorem Tryd.tk45 : tk Tryd.prog 45 = 7 := by kernel_rfl
theorem Tryd.co45 : Tryd.prog.cellsOf 45 = 5 := by kernel_rfl
theorem Tryd.fo45_0 : foff Tryd.prog 45 0 = some 0 := by kernel_rfl
theorem Tryd.ff45_0 : ffld Tryd.prog 45 0 = some (0, 1) := by kernel_rfl
theorem Tryd.fo45_1 : foff Tryd.prog 45 1 = some 1 := by kernel_rfl
theorem Tryd.ff45_1 : ffld Tryd.prog 45 1 = some (1, 4) := by kernel_rfl
theorem Tryd.fo45_2 : foff Tryd.prog 45 2 = some 3 := by kernel_rfl
theorem Tryd.ff45_2 : ffld Tryd.prog 45 2 = some (3, 4) := by kernel_rfl
theorem Tryd.bz45 : bz Tryd.prog 45 = some ([.string ⟨#[]⟩, .int .i64 0, .int .i64 0, .int .i64 0, .int .i64 0], [(0, 1), (1, 2), (3, 2)]) := by kernel_rfl
theorem Tryd.zc45 : zcells Tryd.prog 45 = some [.string ⟨#[]⟩, .int .i64 0, .int .i64 0, .int .i64 0, .int .i64 0] := by kernel_rfl
theorem Tryd.tk46 : tk Tryd.prog 46 = 7 := by kernel_rfl
theorem Tryd.co46 : Tryd.prog.cellsOf 46 = 5 := by kernel_rfl
theorem Tryd.fo46_0 : foff Tryd.prog 46 0 = some 0 := by kernel_rfl
theorem Tryd.ff46_0 : ffld Tryd.prog 46 0 = some (0, 1) := by kernel_rfl
theorem Tryd.fo46_1 : foff Tryd.prog 46 1 = some 1 := by kernel_rfl
theorem Tryd.ff46_1 : ffld Tryd.prog 46 1 = some (1, 4) := by kernel_rfl
theorem Tryd.fo46_2 : foff Tryd.prog 46 2 = some 3 := by kernel_rfl
theorem Tryd.ff46_2 : ffld Tryd.prog 46 2 = some (3, 4) := by kernel_rfl
theorem Tryd.bz46 : bz Tryd.prog 46 = some ([.string ⟨#[]⟩, .int .i64 0, .int .i64 0, .int .i64 0, .int .i64 0], [(0, 1), (1, 2), (3, 2)]) := by kernel_rfl
theorem Tryd.zc46 : zcells Tryd.prog 46 = some [.string ⟨#[]⟩, .int .i64 0, .int .i64 0, .int .i64 0, .int .i64 0] := by kernel_rfl
theorem Tryd.eq46 : EqT Tryd.prog 46 [2, 1, 1, 1, 1] := by
  intro xs ys x y w hx hy
  obtain ⟨a0, a1, a2, a3, a4, rfl⟩ := cells_21111 hx
  obtain ⟨b0, b1, b2, b3, b4, rfl⟩ := cells_21111 hy
  constructor <;> (go_simp; by_cases h0 : a0.data = b0.data <;> by_cases h1 : a1 = b1 <;> by_cases h2 : a2 = b2 <;> by_cases h3 : a3 = b3 <;> by_cases h4 : a4 = b4 <;> simp [eqCs, eqC, ByteArray.toList_eq, *])
theorem Tryd.tk53 : tk Tryd.prog 53 = 1 := by kernel_rfl
theorem Tryd.co53 : Tryd.prog.cellsOf 53 = 1 := by kernel_rfl
theorem Tryd.se53 : selt Tryd.prog 53 = some 3 := by kernel_rfl
theorem Tryd.el53 : elemT Tryd.prog 53 = some (124, 3, 32) := by kernel_rfl
theorem Tryd.zc53 : zcells Tryd.prog 53 = some [.slice none 0 0] := by kernel_rfl
theorem Tryd.tk66 : tk Tryd.prog 66 = 1 := by kernel_rfl
theorem Tryd.co66 : Tryd.prog.cellsOf 66 = 1 := by kernel_rfl
theorem Tryd.zc66 : zcells Tryd.prog 66 = some [.pointer none] := by kernel_rfl
theorem Tryd.tk73 : tk Tryd.prog 73 = 4 := by kernel_rfl
theorem Tryd.co73 : Tryd.prog.cellsOf 73 = 2 := by kernel_rfl
theorem Tryd.fo73_0 : foff Tryd.prog 73 0 = some 0 := by kernel_rfl
theorem Tryd.ff73_0 : ffld Tryd.prog 73 0 = some (0, 1) := by kernel_rfl
theorem Tryd.fo73_1 : foff Tryd.prog 73 1 = some 1 := by kernel_rfl
theorem Tryd.ff73_1 : ffld Tryd.prog 73 1 = some (1, 1) := by kernel_rfl
theorem Tryd.bz73 : bz Tryd.prog 73 = some ([.int .i64 0, .int .i64 0], [(0, 1), (1, 1)]) := by kernel_rfl
theorem Tryd.zc73 : zcells Tryd.prog 73 = some [.int .i64 0, .int .i64 0] := by kernel_rfl
theorem Tryd.eq73 : EqT Tryd.prog 73 [1, 1] := by
  intro xs ys x y w hx hy
  obtain ⟨a0, a1, rfl⟩ := cells_11 hx
  obtain ⟨b0, b1, rfl⟩ := cells_11 hy
  constructor <;> (go_simp; by_cases h0 : a0 = b0 <;> by_cases h1 : a1 = b1 <;> simp [eqCs, eqC, ByteArray.toList_eq, *])
theorem Tryd.tk74 : tk Tryd.prog 74 = 7 := by kernel_rfl
theorem Tryd.co74 : Tryd.prog.cellsOf 74 = 5 := by kernel_rfl
theorem Tryd.fo74_0 : foff Tryd.prog 74 0 = some 0 := by kernel_rfl
theorem Tryd.ff74_0 : ffld Tryd.prog 74 0 = some (0, 1) := by kernel_rfl
theorem Tryd.fo74_1 : foff Tryd.prog 74 1 = some 1 := by kernel_rfl
theorem Tryd.ff74_1 : ffld Tryd.prog 74 1 = some (1, 4) := by kernel_rfl
theorem Tryd.fo74_2 : foff Tryd.prog 74 2 = some 3 := by kernel_rfl
theorem Tryd.ff74_2 : ffld Tryd.prog 74 2 = some (3, 4) := by kernel_rfl
theorem Tryd.bz74 : bz Tryd.prog 74 = some ([.string ⟨#[]⟩, .int .i64 0, .int .i64 0, .int .i64 0, .int .i64 0], [(0, 1), (1, 2), (3, 2)]) := by kernel_rfl
theorem Tryd.zc74 : zcells Tryd.prog 74 = some [.string ⟨#[]⟩, .int .i64 0, .int .i64 0, .int .i64 0, .int .i64 0] := by kernel_rfl
theorem Tryd.tk75 : tk Tryd.prog 75 = 7 := by kernel_rfl
theorem Tryd.co75 : Tryd.prog.cellsOf 75 = 5 := by kernel_rfl
theorem Tryd.fo75_0 : foff Tryd.prog 75 0 = some 0 := by kernel_rfl
theorem Tryd.ff75_0 : ffld Tryd.prog 75 0 = some (0, 1) := by kernel_rfl
theorem Tryd.fo75_1 : foff Tryd.prog 75 1 = some 1 := by kernel_rfl
theorem Tryd.ff75_1 : ffld Tryd.prog 75 1 = some (1, 4) := by kernel_rfl
theorem Tryd.fo75_2 : foff Tryd.prog 75 2 = some 3 := by kernel_rfl
theorem Tryd.ff75_2 : ffld Tryd.prog 75 2 = some (3, 4) := by kernel_rfl
theorem Tryd.bz75 : bz Tryd.prog 75 = some ([.string ⟨#[]⟩, .int .i64 0, .int .i64 0, .int .i64 0, .int .i64 0], [(0, 1), (1, 2), (3, 2)]) := by kernel_rfl
theorem Tryd.zc75 : zcells Tryd.prog 75 = some [.string ⟨#[]⟩, .int .i64 0, .int .i64 0, .int .i64 0, .int .i64 0] := by kernel_rfl
theorem Tryd.eq75 : EqT Tryd.prog 75 [2, 1, 1, 1, 1] := by
  intro xs ys x y w hx hy
  obtain ⟨a0, a1, a2, a3, a4, rfl⟩ := cells_21111 hx
  obtain ⟨b0, b1, b2, b3, b4, rfl⟩ := cells_21111 hy
  constructor <;> (go_simp; by_cases h0 : a0.data = b0.data <;> by_cases h1 : a1 = b1 <;> by_cases h2 : a2 = b2 <;> by_cases h3 : a3 = b3 <;> by_cases h4 : a4 = b4 <;> simp [eqCs, eqC, ByteArray.toList_eq, *])
theorem Tryd.tk80 : tk Tryd.prog 80 = 4 := by kernel_rfl
theorem Tryd.co80 : Tryd.prog.cellsOf 80 = 2 := by kernel_rfl
theorem Tryd.fo80_0 : foff Tryd.prog 80 0 = some 0 := by kernel_rfl
theorem Tryd.ff80_0 : ffld Tryd.prog 80 0 = some (0, 1) := by kernel_rfl
theorem Tryd.fo80_1 : foff Tryd.prog 80 1 = some 1 := by kernel_rfl
theorem Tryd.ff80_1 : ffld Tryd.prog 80 1 = some (1, 1) := by kernel_rfl
theorem Tryd.bz80 : bz Tryd.prog 80 = some ([.int .i64 0, .int .i64 0], [(0, 1), (1, 1)]) := by kernel_rfl
theorem Tryd.zc80 : zcells Tryd.prog 80 = some [.int .i64 0, .int .i64 0] := by kernel_rfl
theorem Tryd.tk81 : tk Tryd.prog 81 = 4 := by kernel_rfl
theorem Tryd.co81 : Tryd.prog.cellsOf 81 = 2 := by kernel_rfl
theorem Tryd.fo81_0 : foff Tryd.prog 81 0 = some 0 := by kernel_rfl
theorem Tryd.ff81_0 : ffld Tryd.prog 81 0 = some (0, 1) := by kernel_rfl
theorem Tryd.fo81_1 : foff Tryd.prog 81 1 = some 1 := by kernel_rfl
theorem Tryd.ff81_1 : ffld Tryd.prog 81 1 = some (1, 1) := by kernel_rfl
theorem Tryd.bz81 : bz Tryd.prog 81 = some ([.int .i64 0, .int .i64 0], [(0, 1), (1, 1)]) := by kernel_rfl
theorem Tryd.zc81 : zcells Tryd.prog 81 = some [.int .i64 0, .int .i64 0] := by kernel_rfl
theorem Tryd.eq81 : EqT Tryd.prog 81 [1, 1] := by
  intro xs ys x y w hx hy
  obtain ⟨a0, a1, rfl⟩ := cells_11 hx
  obtain ⟨b0, b1, rfl⟩ := cells_11 hy
  constructor <;> (go_simp; by_cases h0 : a0 = b0 <;> by_cases h1 : a1 = b1 <;> simp [eqCs, eqC, ByteArray.toList_eq, *])
theorem Tryd.tk84 : tk Tryd.prog 84 = 1 := by kernel_rfl
theorem Tryd.co84 : Tryd.prog.cellsOf 84 = 1 := by kernel_rfl
theorem Tryd.se84 : selt Tryd.prog 84 = some 1 := by kernel_rfl
theorem Tryd.el84 : elemT Tryd.prog 84 = some (9, 1, 16) := by kernel_rfl
theorem Tryd.zc84 : zcells Tryd.prog 84 = some [.slice none 0 0] := by kernel_rfl
theorem Tryd.tk98 : tk Tryd.prog 98 = 1 := by kernel_rfl
theorem Tryd.co98 : Tryd.prog.cellsOf 98 = 1 := by kernel_rfl
theorem Tryd.us98 : (Tryd.prog.underlying 98).isSome = true := by kernel_rfl
theorem Tryd.ik98 : ikind Tryd.prog 98 = some .u64 := by kernel_rfl
theorem Tryd.zc98 : zcells Tryd.prog 98 = some [.int .u64 0] := by kernel_rfl
theorem Tryd.tk102 : tk Tryd.prog 102 = 1 := by kernel_rfl
theorem Tryd.co102 : Tryd.prog.cellsOf 102 = 1 := by kernel_rfl
theorem Tryd.mt102 : mapT Tryd.prog 102 = true := by kernel_rfl
theorem Tryd.zc102 : zcells Tryd.prog 102 = some [.map none] := by kernel_rfl
theorem Tryd.tk103 : tk Tryd.prog 103 = 4 := by kernel_rfl
theorem Tryd.co103 : Tryd.prog.cellsOf 103 = 2 := by kernel_rfl
theorem Tryd.fo103_0 : foff Tryd.prog 103 0 = some 0 := by kernel_rfl
theorem Tryd.ff103_0 : ffld Tryd.prog 103 0 = some (0, 1) := by kernel_rfl
theorem Tryd.fo103_1 : foff Tryd.prog 103 1 = some 1 := by kernel_rfl
theorem Tryd.ff103_1 : ffld Tryd.prog 103 1 = some (1, 1) := by kernel_rfl
theorem Tryd.bz103 : bz Tryd.prog 103 = some ([.slice none 0 0, .int .i64 0], [(0, 1), (1, 1)]) := by kernel_rfl
theorem Tryd.zc103 : zcells Tryd.prog 103 = some [.slice none 0 0, .int .i64 0] := by kernel_rfl
theorem Tryd.tk104 : tk Tryd.prog 104 = 4 := by kernel_rfl
theorem Tryd.co104 : Tryd.prog.cellsOf 104 = 2 := by kernel_rfl
theorem Tryd.fo104_0 : foff Tryd.prog 104 0 = some 0 := by kernel_rfl
theorem Tryd.ff104_0 : ffld Tryd.prog 104 0 = some (0, 1) := by kernel_rfl
theorem Tryd.fo104_1 : foff Tryd.prog 104 1 = some 1 := by kernel_rfl
theorem Tryd.ff104_1 : ffld Tryd.prog 104 1 = some (1, 1) := by kernel_rfl
theorem Tryd.bz104 : bz Tryd.prog 104 = some ([.slice none 0 0, .int .i64 0], [(0, 1), (1, 1)]) := by kernel_rfl
theorem Tryd.zc104 : zcells Tryd.prog 104 = some [.slice none 0 0, .int .i64 0] := by kernel_rfl
theorem Tryd.tk111 : tk Tryd.prog 111 = 1 := by kernel_rfl
theorem Tryd.co111 : Tryd.prog.cellsOf 111 = 1 := by kernel_rfl
theorem Tryd.se111 : selt Tryd.prog 111 = some 1 := by kernel_rfl
theorem Tryd.el111 : elemT Tryd.prog 111 = some (23, 1, 24) := by kernel_rfl
theorem Tryd.zc111 : zcells Tryd.prog 111 = some [.slice none 0 0] := by kernel_rfl
theorem Tryd.tk123 : tk Tryd.prog 123 = 5 := by kernel_rfl
theorem Tryd.co123 : Tryd.prog.cellsOf 123 = 3 := by kernel_rfl
theorem Tryd.fo123_0 : foff Tryd.prog 123 0 = some 0 := by kernel_rfl
theorem Tryd.ff123_0 : ffld Tryd.prog 123 0 = some (0, 1) := by kernel_rfl
theorem Tryd.fo123_1 : foff Tryd.prog 123 1 = some 1 := by kernel_rfl
theorem Tryd.ff123_1 : ffld Tryd.prog 123 1 = some (1, 4) := by kernel_rfl
theorem Tryd.bz123 : bz Tryd.prog 123 = some ([.string ⟨#[]⟩, .int .i64 0, .int .i64 0], [(0, 1), (1, 2)]) := by kernel_rfl
theorem Tryd.zc123 : zcells Tryd.prog 123 = some [.string ⟨#[]⟩, .int .i64 0, .int .i64 0] := by kernel_rfl
theorem Tryd.tk124 : tk Tryd.prog 124 = 5 := by kernel_rfl
theorem Tryd.co124 : Tryd.prog.cellsOf 124 = 3 := by kernel_rfl
theorem Tryd.fo124_0 : foff Tryd.prog 124 0 = some 0 := by kernel_rfl
theorem Tryd.ff124_0 : ffld Tryd.prog 124 0 = some (0, 1) := by kernel_rfl
theorem Tryd.fo124_1 : foff Tryd.prog 124 1 = some 1 := by kernel_rfl
theorem Tryd.ff124_1 : ffld Tryd.prog 124 1 = some (1, 4) := by kernel_rfl
theorem Tryd.bz124 : bz Tryd.prog 124 = some ([.string ⟨#[]⟩, .int .i64 0, .int .i64 0], [(0, 1), (1, 2)]) := by kernel_rfl
theorem Tryd.zc124 : zcells Tryd.prog 124 = some [.string ⟨#[]⟩, .int .i64 0, .int .i64 0] := by kernel_rfl
theorem Tryd.eq124 : EqT Tryd.prog 124 [2, 1, 1] := by
  intro xs ys x y w hx hy
  obtain ⟨a0, a1, a2, rfl⟩ := cells_211 hx
  obtain ⟨b0, b1, b2, rfl⟩ := cells_211 hy
  constructor <;> (go_simp; by_cases h0 : a0.data = b0.data <;> by_cases h1 : a1 = b1 <;> by_cases h2 : a2 = b2 <;> simp [eqCs, eqC, ByteArray.toList_eq, *])
theorem Tryd.tk130 : tk Tryd.prog 130 = 1 := by kernel_rfl
theorem Tryd.co130 : Tryd.prog.cellsOf 130 = 1 := by kernel_rfl
theorem Tryd.us130 : (Tryd.prog.underlying 130).isSome = true := by kernel_rfl
theorem Tryd.ik130 : ikind Tryd.prog 130 = some .i64 := by kernel_rfl
theorem Tryd.zc130 : zcells Tryd.prog 130 = some [.int .i64 0] := by kernel_rfl
theorem Tryd.tk138 : tk Tryd.prog 138 = 1 := by kernel_rfl
theorem Tryd.co138 : Tryd.prog.cellsOf 138 = 1 := by kernel_rfl
theorem Tryd.us138 : (Tryd.prog.underlying 138).isSome = true := by kernel_rfl
theorem Tryd.ik138 : ikind Tryd.prog 138 = some .u32 := by kernel_rfl
theorem Tryd.zc138 : zcells Tryd.prog 138 = some [.int .u32 0] := by kernel_rfl
theorem Tryd.tk140 : tk Tryd.prog 140 = 1 := by kernel_rfl
theorem Tryd.co140 : Tryd.prog.cellsOf 140 = 1 := by kernel_rfl
theorem Tryd.us140 : (Tryd.prog.underlying 140).isSome = true := by kernel_rfl
theorem Tryd.ik140 : ikind Tryd.prog 140 = some .u64 := by kernel_rfl
theorem Tryd.zc140 : zcells Tryd.prog 140 = some [.int .u64 0] := by kernel_rfl
theorem Tryd.tk142 : tk Tryd.prog 142 = 1 := by kernel_rfl
theorem Tryd.co142 : Tryd.prog.cellsOf 142 = 1 := by kernel_rfl
theorem Tryd.se142 : selt Tryd.prog 142 = some 1 := by kernel_rfl
theorem Tryd.el142 : elemT Tryd.prog 142 = some (3, 1, 8) := by kernel_rfl
theorem Tryd.zc142 : zcells Tryd.prog 142 = some [.slice none 0 0] := by kernel_rfl
theorem Tryd.tk147 : tk Tryd.prog 147 = 1 := by kernel_rfl
theorem Tryd.co147 : Tryd.prog.cellsOf 147 = 1 := by kernel_rfl
theorem Tryd.us147 : (Tryd.prog.underlying 147).isSome = true := by kernel_rfl
theorem Tryd.ik147 : ikind Tryd.prog 147 = some .u64 := by kernel_rfl
theorem Tryd.zc147 : zcells Tryd.prog 147 = some [.int .u64 0] := by kernel_rfl
theorem Tryd.tk151 : tk Tryd.prog 151 = 1 := by kernel_rfl
theorem Tryd.co151 : Tryd.prog.cellsOf 151 = 1 := by kernel_rfl
theorem Tryd.zc151 : zcells Tryd.prog 151 = some [.pointer none] := by kernel_rfl
theorem Tryd.tk157 : tk Tryd.prog 157 = 1 := by kernel_rfl
theorem Tryd.co157 : Tryd.prog.cellsOf 157 = 1 := by kernel_rfl
theorem Tryd.zc157 : zcells Tryd.prog 157 = some [.pointer none] := by kernel_rfl
theorem Tryd.tk169 : tk Tryd.prog 169 = 4 := by kernel_rfl
theorem Tryd.co169 : Tryd.prog.cellsOf 169 = 2 := by kernel_rfl
theorem Tryd.fo169_0 : foff Tryd.prog 169 0 = some 0 := by kernel_rfl
theorem Tryd.ff169_0 : ffld Tryd.prog 169 0 = some (0, 1) := by kernel_rfl
theorem Tryd.fo169_1 : foff Tryd.prog 169 1 = some 1 := by kernel_rfl
theorem Tryd.ff169_1 : ffld Tryd.prog 169 1 = some (1, 1) := by kernel_rfl
theorem Tryd.bz169 : bz Tryd.prog 169 = some ([.int .u8 0, .int .u8 0], [(0, 1), (1, 1)]) := by kernel_rfl
theorem Tryd.zc169 : zcells Tryd.prog 169 = some [.int .u8 0, .int .u8 0] := by kernel_rfl
theorem Tryd.tk177 : tk Tryd.prog 177 = 6 := by kernel_rfl
theorem Tryd.co177 : Tryd.prog.cellsOf 177 = 4 := by kernel_rfl
theorem Tryd.fo177_0 : foff Tryd.prog 177 0 = some 0 := by kernel_rfl
theorem Tryd.ff177_0 : ffld Tryd.prog 177 0 = some (0, 1) := by kernel_rfl
theorem Tryd.fo177_1 : foff Tryd.prog 177 1 = some 1 := by kernel_rfl
theorem Tryd.ff177_1 : ffld Tryd.prog 177 1 = some (1, 1) := by kernel_rfl
theorem Tryd.fo177_2 : foff Tryd.prog 177 2 = some 2 := by kernel_rfl
theorem Tryd.ff177_2 : ffld Tryd.prog 177 2 = some (2, 1) := by kernel_rfl
theorem Tryd.fo177_3 : foff Tryd.prog 177 3 = some 3 := by kernel_rfl
theorem Tryd.ff177_3 : ffld Tryd.prog 177 3 = some (3, 1) := by kernel_rfl
theorem Tryd.bz177 : bz Tryd.prog 177 = some ([.pointer none, .pointer none, .pointer none, .string ⟨#[]⟩], [(0, 1), (1, 1), (2, 1), (3, 1)]) := by kernel_rfl
theorem Tryd.zc177 : zcells Tryd.prog 177 = some [.pointer none, .pointer none, .pointer none, .string ⟨#[]⟩] := by kernel_rfl
theorem Tryd.tk180 : tk Tryd.prog 180 = 2 := by kernel_rfl
theorem Tryd.co180 : Tryd.prog.cellsOf 180 = 0 := by kernel_rfl
theorem Tryd.ff180_0 : ffld Tryd.prog 180 0 = some (0, 2) := by kernel_rfl
theorem Tryd.bz180 : bz Tryd.prog 180 = some ([], [(0, 0)]) := by kernel_rfl
theorem Tryd.zc180 : zcells Tryd.prog 180 = some [] := by kernel_rfl
theorem Tryd.tk186 : tk Tryd.prog 186 = 1 := by kernel_rfl
theorem Tryd.co186 : Tryd.prog.cellsOf 186 = 1 := by kernel_rfl
theorem Tryd.zc186 : zcells Tryd.prog 186 = some [.pointer none] := by kernel_rfl
theorem Tryd.tk189 : tk Tryd.prog 189 = 13 := by kernel_rfl
theorem Tryd.co189 : Tryd.prog.cellsOf 189 = 11 := by kernel_rfl
theorem Tryd.fo189_0 : foff Tryd.prog 189 0 = some 0 := by kernel_rfl
theorem Tryd.ff189_0 : ffld Tryd.prog 189 0 = some (0, 1) := by kernel_rfl
theorem Tryd.fo189_1 : foff Tryd.prog 189 1 = some 1 := by kernel_rfl
theorem Tryd.ff189_1 : ffld Tryd.prog 189 1 = some (1, 1) := by kernel_rfl
theorem Tryd.fo189_2 : foff Tryd.prog 189 2 = some 2 := by kernel_rfl
theorem Tryd.ff189_2 : ffld Tryd.prog 189 2 = some (2, 1) := by kernel_rfl
theorem Tryd.fo189_3 : foff Tryd.prog 189 3 = some 3 := by kernel_rfl
theorem Tryd.ff189_3 : ffld Tryd.prog 189 3 = some (3, 1) := by kernel_rfl
theorem Tryd.fo189_4 : foff Tryd.prog 189 4 = some 4 := by kernel_rfl
theorem Tryd.ff189_4 : ffld Tryd.prog 189 4 = some (4, 1) := by kernel_rfl
theorem Tryd.fo189_5 : foff Tryd.prog 189 5 = some 5 := by kernel_rfl
theorem Tryd.ff189_5 : ffld Tryd.prog 189 5 = some (5, 1) := by kernel_rfl
theorem Tryd.fo189_6 : foff Tryd.prog 189 6 = some 6 := by kernel_rfl
theorem Tryd.ff189_6 : ffld Tryd.prog 189 6 = some (6, 1) := by kernel_rfl
theorem Tryd.fo189_8 : foff Tryd.prog 189 8 = some 8 := by kernel_rfl
theorem Tryd.ff189_8 : ffld Tryd.prog 189 8 = some (8, 1) := by kernel_rfl
theorem Tryd.fo189_9 : foff Tryd.prog 189 9 = some 9 := by kernel_rfl
theorem Tryd.ff189_9 : ffld Tryd.prog 189 9 = some (9, 1) := by kernel_rfl
theorem Tryd.fo189_10 : foff Tryd.prog 189 10 = some 10 := by kernel_rfl
theorem Tryd.ff189_10 : ffld Tryd.prog 189 10 = some (10, 1) := by kernel_rfl

attribute [push_cast] Tryd.tk2 Tryd.co2 Tryd.us2 Tryd.ik2 Tryd.zc2 Tryd.tk3 Tryd.co3 Tryd.us3 Tryd.ik3 Tryd.zc3 Tryd.tk4 Tryd.co4 Tryd.zc4 Tryd.tk5 Tryd.co5 Tryd.us5 Tryd.ik5 Tryd.zc5 Tryd.tk7 Tryd.co7 Tryd.fo7_0 Tryd.ff7_0 Tryd.fo7_1 Tryd.ff7_1 Tryd.fo7_2 Tryd.ff7_2 Tryd.fo7_3 Tryd.ff7_3 Tryd.bz7 Tryd.zc7 Tryd.tk9 Tryd.co9 Tryd.us9 Tryd.is9 Tryd.zc9 Tryd.tk12 Tryd.co12 Tryd.us12 Tryd.ik12 Tryd.zc12 Tryd.tk13 Tryd.co13 Tryd.fo13_0 Tryd.ff13_0 Tryd.fo13_1 Tryd.ff13_1 Tryd.bz13 Tryd.zc13 Tryd.tk15 Tryd.co15 Tryd.zc15 Tryd.tk16 Tryd.co16 Tryd.zc16 Tryd.tk17 Tryd.co17 Tryd.zc17 Tryd.tk18 Tryd.co18 Tryd.fo18_0 Tryd.ff18_0 Tryd.bz18 Tryd.zc18 Tryd.tk21 Tryd.co21 Tryd.us21 Tryd.ik21 Tryd.zc21 Tryd.tk22 Tryd.co22 Tryd.se22 Tryd.el22 Tryd.zc22 Tryd.tk23 Tryd.co23 Tryd.se23 Tryd.el23 Tryd.zc23 Tryd.tk33 Tryd.co33 Tryd.se33 Tryd.el33 Tryd.zc33 Tryd.tk39 Tryd.co39 Tryd.se39 Tryd.el39 Tryd.zc39 Tryd.tk43 Tryd.co43 Tryd.fo43_0 Tryd.ff43_0 Tryd.fo43_1 Tryd.ff43_1 Tryd.bz43 Tryd.zc43 Tryd.tk44 Tryd.co44 Tryd.fo44_0 Tryd.ff44_0 Tryd.fo44_1 Tryd.ff44_1 Tryd.bz44 Tryd.zc44 Tryd.eq44 Tryd.tk45 Tryd.co45 Tryd.fo45_0 Tryd.ff45_0 Tryd.fo45_1 Tryd.ff45_1 Tryd.fo45_2 Tryd.ff45_2 Tryd.bz45 Tryd.zc45 Tryd.tk46 Tryd.co46 Tryd.fo46_0 Tryd.ff46_0 Tryd.fo46_1 Tryd.ff46_1 Tryd.fo46_2 Tryd.ff46_2 Tryd.bz46 Tryd.zc46 Tryd.eq46 Tryd.tk53 Tryd.co53 Tryd.se53 Tryd.el53 Tryd.zc53 Tryd.tk66 Tryd.co66 Tryd.zc66 Tryd.tk73 Tryd.co73 Tryd.fo73_0 Tryd.ff73_0 Tryd.fo73_1 Tryd.ff73_1 Tryd.bz73 Tryd.zc73 Tryd.eq73 Tryd.tk74 Tryd.co74 Tryd.fo74_0 Tryd.ff74_0 Tryd.fo74_1 Tryd.ff74_1 Tryd.fo74_2 Tryd.ff74_2 Tryd.bz74 Tryd.zc74 Tryd.tk75 Tryd.co75 Tryd.fo75_0 Tryd.ff75_0 Tryd.fo75_1 Tryd.ff75_1 Tryd.fo75_2 Tryd.ff75_2 Tryd.bz75 Tryd.zc75 Tryd.eq75 Tryd.tk80 Tryd.co80 Tryd.fo80_0 Tryd.ff80_0 Tryd.fo80_1 Tryd.ff80_1 Tryd.bz80 Tryd.zc80 Tryd.tk81 Tryd.co81 Tryd.fo81_0 Tryd.ff81_0 Tryd.fo81_1 Tryd.ff81_1 Tryd.bz81 Tryd.zc81 Tryd.eq81 Tryd.tk84 Tryd.co84 Tryd.se84 Tryd.el84 Tryd.zc84 Tryd.tk98 Tryd.co98 Tryd.us98 Tryd.ik98 Tryd.zc98 Tryd.tk102 Tryd.co102 Tryd.mt102 Tryd.zc102 Tryd.tk103 Tryd.co103 Tryd.fo103_0 Tryd.ff103_0 Tryd.fo103_1 Tryd.ff103_1 Tryd.bz103 Tryd.zc103 Tryd.tk104 Tryd.co104 Tryd.fo104_0 Tryd.ff104_0 Tryd.fo104_1 Tryd.ff104_1 Tryd.bz104 Tryd.zc104 Tryd.tk111 Tryd.co111 Tryd.se111 Tryd.el111 Tryd.zc111 Tryd.tk123 Tryd.co123 Tryd.fo123_0 Tryd.ff123_0 Tryd.fo123_1 Tryd.ff123_1 Tryd.bz123 Tryd.zc123 Tryd.tk124 Tryd.co124 Tryd.fo124_0 Tryd.ff124_0 Tryd.fo124_1 Tryd.ff124_1 Tryd.bz124 Tryd.zc124 Tryd.eq124 Tryd.tk130 Tryd.co130 Tryd.us130 Tryd.ik130 Tryd.zc130 Tryd.tk138 Tryd.co138 Tryd.us138 Tryd.ik138 Tryd.zc138 Tryd.tk140 Tryd.co140 Tryd.us140 Tryd.ik140 Tryd.zc140 Tryd.tk142 Tryd.co142 Tryd.se142 Tryd.el142 Tryd.zc142 Tryd.tk147 Tryd.co147 Tryd.us147 Tryd.ik147 Tryd.zc147 Tryd.tk151 Tryd.co151 Tryd.zc151 Tryd.tk157 Tryd.co157 Tryd.zc157 Tryd.tk169 Tryd.co169 Tryd.fo169_0 Tryd.ff169_0 Tryd.fo169_1 Tryd.ff169_1 Tryd.bz169 Tryd.zc169 Tryd.tk177 Tryd.co177 Tryd.fo177_0 Tryd.ff177_0 Tryd.fo177_1 Tryd.ff177_1 Tryd.fo177_2 Tryd.ff177_2 Tryd.fo177_3 Tryd.ff177_3 Tryd.bz177 Tryd.zc177 Tryd.tk180 Tryd.co180 Tryd.ff180_0 Tryd.bz180 Tryd.zc180 Tryd.tk186 Tryd.co186 Tryd.zc186 Tryd.tk189 Tryd.co189 Tryd.fo189_0 Tryd.ff189_0 Tryd.fo189_1 Tryd.ff189_1 Tryd.fo189_2 Tryd.ff189_2 Tryd.fo189_3 Tryd.ff189_3 Tryd.fo189_4 Tryd.ff189_4 Tryd.fo189_5 Tryd.ff189_5 Tryd.fo189_6 Tryd.ff189_6 Tryd.fo189_8 Tryd.ff189_8 Tryd.fo189_9 Tryd.ff189_9 Tryd.fo189_10 Tryd.ff189_10 Tryd.underlying4 Tryd.results3 Tryd.results4 Tryd.results5 Tryd.results6 Tryd.results7 Tryd.results8 Tryd.results9 Tryd.results10 Tryd.results11 Tryd.results12 Tryd.results13 Tryd.results14 Tryd.results15 Tryd.results16 Tryd.results17 Tryd.results18 Tryd.results19 Tryd.results20 Tryd.results21 Tryd.results22 Tryd.results23 Tryd.results24 Tryd.results25 Tryd.results26 Tryd.results27 Tryd.results28 Tryd.results29 Tryd.results30 Tryd.results31 Tryd.results32 Tryd.results33 Tryd.results34 Tryd.results35 Tryd.results36 Tryd.results37 Tryd.results38 Tryd.results39 Tryd.results40 Tryd.results41 Tryd.results42 Tryd.results43 Tryd.results44 Tryd.results45 Tryd.results46 Tryd.results47 Tryd.results48 Tryd.results49 Tryd.results50 Tryd.results51 Tryd.results52 Tryd.results53 Tryd.results54 Tryd.results55 Tryd.results56 Tryd.results57 Tryd.results58 Tryd.results59 Tryd.results60 Tryd.results61 Tryd.results62 Tryd.results63 Tryd.results64 Tryd.results65 Tryd.results66 Tryd.results67 Tryd.results68 Tryd.results69 Tryd.results70 Tryd.results71 Tryd.results72 Tryd.results73 Tryd.results74 Tryd.results75 Tryd.results76 Tryd.results77 Tryd.results78 Tryd.results79 Tryd.results80 Tryd.results81 Tryd.results82 Tryd.results83 Tryd.results84 Tryd.results85 Tryd.results86 Tryd.results87 Tryd.results88 Tryd.results89 Tryd.results90 Tryd.results91 Tryd.results92 Tryd.results93 Tryd.results94 Tryd.results95 Tryd.results96 Tryd.results97 Tryd.results98 Tryd.results99 Tryd.results100 Tryd.results101 Tryd.results102 Tryd.results103 Tryd.results104 Tryd.results105 Tryd.results106 Tryd.results107 Tryd.results108 Tryd.results109 Tryd.results110 Tryd.results111 Tryd.results112 Tryd.results113 Tryd.results114 Tryd.results115 Tryd.results116 Tryd.results117 Tryd.results118 Tryd.results119 Tryd.results120 Tryd.results121 Tryd.results122 Tryd.results123 Tryd.results124 Tryd.results125 Tryd.results126 Tryd.results127 Tryd.results128 Tryd.results129 Tryd.results130 Tryd.results131 Tryd.results132 Tryd.results133 Tryd.results134 Tryd.results135 Tryd.results136 Tryd.results137 Tryd.results138 Tryd.results139 Tryd.results140 Tryd.results141 Tryd.results142 Tryd.results143 Tryd.results144 Tryd.results145 Tryd.results146 Tryd.results147 Tryd.results148 Tryd.results149 Tryd.results150 Tryd.results151 Tryd.results152 Tryd.results153 Tryd.results154 Tryd.results155 Tryd.results156 Tryd.results157 Tryd.results158 Tryd.results159 Tryd.results160 Tryd.results161 Tryd.results162 Tryd.results163 Tryd.results164 Tryd.results165 Tryd.results166 Tryd.results167 Tryd.results168 Tryd.results169 Tryd.results170 Tryd.results171 Tryd.results172 Tryd.results173 Tryd.results174 Tryd.results175 Tryd.results176 Tryd.results177 Tryd.results178 Tryd.results179 Tryd.results180 Tryd.results181 Tryd.results182 Tryd.results183 Tryd.results184 Tryd.results185 Tryd.results186 Tryd.results187 Tryd.results188 Tryd.results189 Tryd.results190 Tryd.results191 Tryd.results192 Tryd.results193 Tryd.results194 Tryd.results207 Tryd.results208 Tryd.results209 Tryd.results210 Tryd.results211 Tryd.results212 Tryd.results213 Tryd.results214 Tryd.results215 Tryd.results216 Tryd.results217 Tryd.results218

end Go.Proofs.YtellipmolheaaaaDoor
