/-
  The closed facts on the types of this seat (printed by facts.py): tk, foff, ffld, bz, zcells, elemT, EqT and their kin. Conditions: none.
-/
import Derived.Test.YtempabacnellaaaDoorCoreB
import Derived.Test.YtempabacnellaaaDoorRows
set_option linter.unusedSimpArgs false
set_option linter.unusedVariables false
namespace Go.Proofs.YtempabacnellaaaDoor
open Go Go.RowKit

theorem kind_1 {x : Value} (h : kindOf x = 1) : ∃ a, x = .int .i64 a := by
  unfold kindOf at h
  split at h <;> first | exact ⟨_, rfl⟩ | (simp at h)
theorem kind_2 {x : Value} (h : kindOf x = 2) : ∃ a, x = .string a := by
  unfold kindOf at h
  split at h <;> first | exact ⟨_, rfl⟩ | (simp at h)

theorem cells_11 {xs : Array Value} (h : xs.toList.map kindOf = [1, 1]) : ∃ (a0 : Int) (a1 : Int), xs = #[.int .i64 a0, .int .i64 a1] := by
  obtain ⟨l⟩ := xs
  simp only at h
  rcases l with _ | ⟨x0, l⟩
  · simp at h
  rcases l with _ | ⟨x1, l⟩
  · simp at h
  rcases l with _ | ⟨y, l⟩
  rotate_left
  · simp at h
  simp only [List.map_cons, List.map_nil, List.cons.injEq, and_true] at h
  obtain ⟨h0, h1⟩ := h
  obtain ⟨a0, rfl⟩ := kind_1 h0
  obtain ⟨a1, rfl⟩ := kind_1 h1
  exact ⟨a0, a1, rfl⟩

theorem cells_211 {xs : Array Value} (h : xs.toList.map kindOf = [2, 1, 1]) : ∃ (a0 : ByteArray) (a1 : Int) (a2 : Int), xs = #[.string a0, .int .i64 a1, .int .i64 a2] := by
  obtain ⟨l⟩ := xs
  simp only at h
  rcases l with _ | ⟨x0, l⟩
  · simp at h
  rcases l with _ | ⟨x1, l⟩
  · simp at h
  rcases l with _ | ⟨x2, l⟩
  · simp at h
  rcases l with _ | ⟨y, l⟩
  rotate_left
  · simp at h
  simp only [List.map_cons, List.map_nil, List.cons.injEq, and_true] at h
  obtain ⟨h0, h1, h2⟩ := h
  obtain ⟨a0, rfl⟩ := kind_2 h0
  obtain ⟨a1, rfl⟩ := kind_1 h1
  obtain ⟨a2, rfl⟩ := kind_1 h2
  exact ⟨a0, a1, a2, rfl⟩

theorem cells_21111 {xs : Array Value} (h : xs.toList.map kindOf = [2, 1, 1, 1, 1]) : ∃ (a0 : ByteArray) (a1 : Int) (a2 : Int) (a3 : Int) (a4 : Int), xs = #[.string a0, .int .i64 a1, .int .i64 a2, .int .i64 a3, .int .i64 a4] := by
  obtain ⟨l⟩ := xs
  simp only at h
  rcases l with _ | ⟨x0, l⟩
  · simp at h
  rcases l with _ | ⟨x1, l⟩
  · simp at h
  rcases l with _ | ⟨x2, l⟩
  · simp at h
  rcases l with _ | ⟨x3, l⟩
  · simp at h
  rcases l with _ | ⟨x4, l⟩
  · simp at h
  rcases l with _ | ⟨y, l⟩
  rotate_left
  · simp at h
  simp only [List.map_cons, List.map_nil, List.cons.injEq, and_true] at h
  obtain ⟨h0, h1, h2, h3, h4⟩ := h
  obtain ⟨a0, rfl⟩ := kind_2 h0
  obtain ⟨a1, rfl⟩ := kind_1 h1
  obtain ⟨a2, rfl⟩ := kind_1 h2
  obtain ⟨a3, rfl⟩ := kind_1 h3
  obtain ⟨a4, rfl⟩ := kind_1 h4
  exact ⟨a0, a1, a2, a3, a4, rfl⟩

theorem Tryd.tk2 : tk Tryd.prog 2 = 1 := by kernel_rfl
theorem Tryd.co2 : Tryd.prog.cellsOf 2 = 1 := by kernel_rfl
theorem Tryd.us2 : (Tryd.prog.underlying 2).isSome = true := by kernel_rfl
theorem Tryd.ik2 : ikind Tryd.prog 2 = some .i64 := by kernel_rfl
theorem Tryd.zc2 : zcells Tryd.prog 2 = some [.int .i64 0] := by kernel_rfl
theorem Tryd.tk3 : tk Tryd.prog 3 = 1 := by kernel_rfl
theorem Tryd.co3 : Tryd.prog.cellsOf 3 = 1 := by kernel_rfl
theorem Tryd.us3 : (Tryd.prog.underlying 3).isSome = true := by kernel_rfl
theorem Tryd.ik3 : ikind Tryd.prog 3 = some .i64 := by kernel_rfl
theorem Tryd.zc3 : zcells Tryd.prog 3 = some [.int .i64 0] := by kernel_rfl
theorem Tryd.tk4 : tk Tryd.prog 4 = 1 := by kernel_rfl
theorem Tryd.co4 : Tryd.prog.cellsOf 4 = 1 := by kernel_rfl
theorem Tryd.zc4 : zcells Tryd.prog 4 = some [.bool false] := by kernel_rfl
theorem Tryd.tk5 : tk Tryd.prog 5 = 1 := by kernel_rfl
theorem Tryd.co5 : Tryd.prog.cellsOf 5 = 1 := by kernel_rfl
theorem Tryd.us5 : (Tryd.prog.underlying 5).isSome = true := by kernel_rfl
theorem Tryd.ik5 : ikind Tryd.prog 5 = some .u8 := by kernel_rfl
theorem Tryd.zc5 : zcells Tryd.prog 5 = some [.int .u8 0] := by kernel_rfl
theorem Tryd.tk7 : tk Tryd.prog 7 = 6 := by kernel_rfl
theorem Tryd.co7 : Tryd.prog.cellsOf 7 = 4 := by kernel_rfl
theorem Tryd.fo7_0 : foff Tryd.prog 7 0 = some 0 := by kernel_rfl
theorem Tryd.ff7_0 : ffld Tryd.prog 7 0 = some (0, 1) := by kernel_rfl
theorem Tryd.fo7_1 : foff Tryd.prog 7 1 = some 1 := by kernel_rfl
theorem Tryd.ff7_1 : ffld Tryd.prog 7 1 = some (1, 1) := by kernel_rfl
theorem Tryd.fo7_2 : foff Tryd.prog 7 2 = some 2 := by kernel_rfl
theorem Tryd.ff7_2 : ffld Tryd.prog 7 2 = some (2, 1) := by kernel_rfl
theorem Tryd.fo7_3 : foff Tryd.prog 7 3 = some 3 := by kernel_rfl
theorem Tryd.ff7_3 : ffld Tryd.prog 7 3 = some (3, 1) := by kernel_rfl
theorem Tryd.bz7 : bz Tryd.prog 7 = some ([.int .i64 0, .int .i64 0, .bool false, .int .u8 0], [(0, 1), (1, 1), (2, 1), (3, 1)]) := by kernel_rfl
theorem Tryd.zc7 : zcells Tryd.prog 7 = some [.int .i64 0, .int .i64 0, .bool false, .int .u8 0] := by kernel_rfl
theorem Tryd.tk9 : tk Tryd.prog 9 = 1 := by kernel_rfl
theorem Tryd.co9 : Tryd.prog.cellsOf 9 = 1 := by kernel_rfl
theorem Tryd.us9 : (Tryd.prog.underlying 9).isSome = true := by kernel_rfl
theorem Tryd.is9 : isStr Tryd.prog 9 = true := by kernel_rfl
theorem Tryd.zc9 : zcells Tryd.prog 9 = some [.string ⟨#[]⟩] := by kernel_rfl
theorem Tryd.tk12 : tk Tryd.prog 12 = 1 := by kernel_rfl
theorem Tryd.co12 : Tryd.prog.cellsOf 12 = 1 := by kernel_rfl
theorem Tryd.us12 : (Tryd.prog.underlying 12).isSome = true := by kernel_rfl
theorem Tryd.ik12 : ikind Tryd.prog 12 = some .u64 := by kernel_rfl
theorem Tryd.zc12 : zcells Tryd.prog 12 = some [.int .u64 0] := by kernel_rfl
theorem Tryd.tk13 : tk Tryd.prog 13 = 4 := by kernel_rfl
theorem Tryd.co13 : Tryd.prog.cellsOf 13 = 2 := by kernel_rfl
theorem Tryd.fo13_0 : foff Tryd.prog 13 0 = some 0 := by kernel_rfl
theorem Tryd.ff13_0 : ffld Tryd.prog 13 0 = some (0, 1) := by kernel_rfl
theorem Tryd.fo13_1 : foff Tryd.prog 13 1 = some 1 := by kernel_rfl
theorem Tryd.ff13_1 : ffld Tryd.prog 13 1 = some (1, 1) := by kernel_rfl
theorem Tryd.bz13 : bz Tryd.prog 13 = some ([.string ⟨#[]⟩, .int .u64 0], [(0, 1), (1, 1)]) := by kernel_rfl
theorem Tryd.zc13 : zcells Tryd.prog 13 = some [.string ⟨#[]⟩, .int .u64 0] := by kernel_rfl
theorem Tryd.tk15 : tk Tryd.prog 15 = 1 := by kernel_rfl
theorem Tryd.co15 : Tryd.prog.cellsOf 15 = 1 := by kernel_rfl
theorem Tryd.zc15 : zcells Tryd.prog 15 = some [.pointer none] := by kernel_rfl
theorem Tryd.tk16 : tk Tryd.prog 16 = 1 := by kernel_rfl
theorem Tryd.co16 : Tryd.prog.cellsOf 16 = 1 := by kernel_rfl
theorem Tryd.zc16 : zcells Tryd.prog 16 = some [.pointer none] := by kernel_rfl
theorem Tryd.tk17 : tk Tryd.prog 17 = 1 := by kernel_rfl
theorem Tryd.co17 : Tryd.prog.cellsOf 17 = 1 := by kernel_rfl
theorem Tryd.zc17 : zcells Tryd.prog 17 = some [.pointer none] := by kernel_rfl
theorem Tryd.tk18 : tk Tryd.prog 18 = 3 := by kernel_rfl
theorem Tryd.co18 : Tryd.prog.cellsOf 18 = 1 := by kernel_rfl
theorem Tryd.fo18_0 : foff Tryd.prog 18 0 = some 0 := by kernel_rfl
theorem Tryd.ff18_0 : ffld Tryd.prog 18 0 = some (0, 1) := by kernel_rfl
theorem Tryd.bz18 : bz Tryd.prog 18 = some ([.pointer none], [(0, 1)]) := by kernel_rfl
theorem Tryd.zc18 : zcells Tryd.prog 18 = some [.pointer none] := by kernel_rfl
theorem Tryd.tk21 : tk Tryd.prog 21 = 1 := by kernel_rfl
theorem Tryd.co21 : Tryd.prog.cellsOf 21 = 1 := by kernel_rfl
theorem Tryd.us21 : (Tryd.prog.underlying 21).isSome = true := by kernel_rfl
theorem Tryd.ik21 : ikind Tryd.prog 21 = some .i32 := by kernel_rfl
theorem Tryd.zc21 : zcells Tryd.prog 21 = some [.int .i32 0] := by kernel_rfl
theorem Tryd.tk22 : tk Tryd.prog 22 = 1 := by kernel_rfl
theorem Tryd.co22 : Tryd.prog.cellsOf 22 = 1 := by kernel_rfl
theorem Tryd.se22 : selt Tryd.prog 22 = some 1 := by kernel_rfl
theorem Tryd.el22 : elemT Tryd.prog 22 = some (5, 1, 1) := by kernel_rfl
theorem Tryd.zc22 : zcells Tryd.prog 22 = some [.slice none 0 0] := by kernel_rfl
theorem Tryd.tk23 : tk Tryd.prog 23 = 1 := by kernel_rfl
theorem Tryd.co23 : Tryd.prog.cellsOf 23 = 1 := by kernel_rfl
theorem Tryd.se23 : selt Tryd.prog 23 = some 5 := by kernel_rfl
theorem Tryd.el23 : elemT Tryd.prog 23 = some (30, 5, 48) := by kernel_rfl
theorem Tryd.zc23 : zcells Tryd.prog 23 = some [.slice none 0 0] := by kernel_rfl
theorem Tryd.tk27 : tk Tryd.prog 27 = 4 := by kernel_rfl
theorem Tryd.co27 : Tryd.prog.cellsOf 27 = 2 := by kernel_rfl
theorem Tryd.fo27_0 : foff Tryd.prog 27 0 = some 0 := by kernel_rfl
theorem Tryd.ff27_0 : ffld Tryd.prog 27 0 = some (0, 1) := by kernel_rfl
theorem Tryd.fo27_1 : foff Tryd.prog 27 1 = some 1 := by kernel_rfl
theorem Tryd.ff27_1 : ffld Tryd.prog 27 1 = some (1, 1) := by kernel_rfl
theorem Tryd.bz27 : bz Tryd.prog 27 = some ([.int .i64 0, .int .i64 0], [(0, 1), (1, 1)]) := by kernel_rfl
theorem Tryd.zc27 : zcells Tryd.prog 27 = some [.int .i64 0, .int .i64 0] := by kernel_rfl
theorem Tryd.tk28 : tk Tryd.prog 28 = 4 := by kernel_rfl
theorem Tryd.co28 : Tryd.prog.cellsOf 28 = 2 := by kernel_rfl
theorem Tryd.fo28_0 : foff Tryd.prog 28 0 = some 0 := by kernel_rfl
theorem Tryd.ff28_0 : ffld Tryd.prog 28 0 = some (0, 1) := by kernel_rfl
theorem Tryd.fo28_1 : foff Tryd.prog 28 1 = some 1 := by kernel_rfl
theorem Tryd.ff28_1 : ffld Tryd.prog 28 1 = some (1, 1) := by kernel_rfl
theorem Tryd.bz28 : bz Tryd.prog 28 = some ([.int .i64 0, .int .i64 0], [(0, 1), (1, 1)]) := by kernel_rfl
theorem Tryd.zc28 : zcells Tryd.prog 28 = some [.int .i64 0, .int .i64 0] := by kernel_rfl
theorem Tryd.eq28 : EqT Tryd.prog 28 [1, 1] := by
  intro xs ys x y w hx hy
  obtain ⟨a0, a1, rfl⟩ := cells_11 hx
  obtain ⟨b0, b1, rfl⟩ := cells_11 hy
  constructor <;> (go_simp; by_cases h0 : a0 = b0 <;> by_cases h1 : a1 = b1 <;> simp [eqCs, eqC, ByteArray.toList_eq, *])
theorem Tryd.tk29 : tk Tryd.prog 29 = 7 := by kernel_rfl
theorem Tryd.co29 : Tryd.prog.cellsOf 29 = 5 := by kernel_rfl
theorem Tryd.fo29_0 : foff Tryd.prog 29 0 = some 0 := by kernel_rfl
theorem Tryd.ff29_0 : ffld Tryd.prog 29 0 = some (0, 1) := by kernel_rfl
theorem Tryd.fo29_1 : foff Tryd.prog 29 1 = some 1 := by kernel_rfl
theorem Tryd.ff29_1 : ffld Tryd.prog 29 1 = some (1, 4) := by kernel_rfl
theorem Tryd.fo29_2 : foff Tryd.prog 29 2 = some 3 := by kernel_rfl
theorem Tryd.ff29_2 : ffld Tryd.prog 29 2 = some (3, 4) := by kernel_rfl
theorem Tryd.bz29 : bz Tryd.prog 29 = some ([.string ⟨#[]⟩, .int .i64 0, .int .i64 0, .int .i64 0, .int .i64 0], [(0, 1), (1, 2), (3, 2)]) := by kernel_rfl
theorem Tryd.zc29 : zcells Tryd.prog 29 = some [.string ⟨#[]⟩, .int .i64 0, .int .i64 0, .int .i64 0, .int .i64 0] := by kernel_rfl
theorem Tryd.tk30 : tk Tryd.prog 30 = 7 := by kernel_rfl
theorem Tryd.co30 : Tryd.prog.cellsOf 30 = 5 := by kernel_rfl
theorem Tryd.fo30_0 : foff Tryd.prog 30 0 = some 0 := by kernel_rfl
theorem Tryd.ff30_0 : ffld Tryd.prog 30 0 = some (0, 1) := by kernel_rfl
theorem Tryd.fo30_1 : foff Tryd.prog 30 1 = some 1 := by kernel_rfl
theorem Tryd.ff30_1 : ffld Tryd.prog 30 1 = some (1, 4) := by kernel_rfl
theorem Tryd.fo30_2 : foff Tryd.prog 30 2 = some 3 := by kernel_rfl
theorem Tryd.ff30_2 : ffld Tryd.prog 30 2 = some (3, 4) := by kernel_rfl
theorem Tryd.bz30 : bz Tryd.prog 30 = some ([.string ⟨#[]⟩, .int .i64 0, .int .i64 0, .int .i64 0, .int .i64 0], [(0, 1), (1, 2), (3, 2)]) := by kernel_rfl
theorem Tryd.zc30 : zcells Tryd.prog 30 = some [.string ⟨#[]⟩, .int .i64 0, .int .i64 0, .int .i64 0, .int .i64 0] := by kernel_rfl
theorem Tryd.eq30 : EqT Tryd.prog 30 [2, 1, 1, 1, 1] := by
  intro xs ys x y w hx hy
  obtain ⟨a0, a1, a2, a3, a4, rfl⟩ := cells_21111 hx
  obtain ⟨b0, b1, b2, b3, b4, rfl⟩ := cells_21111 hy
  constructor <;> (go_simp; by_cases h0 : a0.data = b0.data <;> by_cases h1 : a1 = b1 <;> by_cases h2 : a2 = b2 <;> by_cases h3 : a3 = b3 <;> by_cases h4 : a4 = b4 <;> simp [eqCs, eqC, ByteArray.toList_eq, *])
theorem Tryd.tk41 : tk Tryd.prog 41 = 1 := by kernel_rfl
theorem Tryd.co41 : Tryd.prog.cellsOf 41 = 1 := by kernel_rfl
theorem Tryd.se41 : selt Tryd.prog 41 = some 2 := by kernel_rfl
theorem Tryd.el41 : elemT Tryd.prog 41 = some (45, 2, 16) := by kernel_rfl
theorem Tryd.zc41 : zcells Tryd.prog 41 = some [.slice none 0 0] := by kernel_rfl
theorem Tryd.tk44 : tk Tryd.prog 44 = 4 := by kernel_rfl
theorem Tryd.co44 : Tryd.prog.cellsOf 44 = 2 := by kernel_rfl
theorem Tryd.fo44_0 : foff Tryd.prog 44 0 = some 0 := by kernel_rfl
theorem Tryd.ff44_0 : ffld Tryd.prog 44 0 = some (0, 1) := by kernel_rfl
theorem Tryd.fo44_1 : foff Tryd.prog 44 1 = some 1 := by kernel_rfl
theorem Tryd.ff44_1 : ffld Tryd.prog 44 1 = some (1, 1) := by kernel_rfl
theorem Tryd.bz44 : bz Tryd.prog 44 = some ([.int .i64 0, .int .i64 0], [(0, 1), (1, 1)]) := by kernel_rfl
theorem Tryd.zc44 : zcells Tryd.prog 44 = some [.int .i64 0, .int .i64 0] := by kernel_rfl
theorem Tryd.tk45 : tk Tryd.prog 45 = 4 := by kernel_rfl
theorem Tryd.co45 : Tryd.prog.cellsOf 45 = 2 := by kernel_rfl
theorem Tryd.fo45_0 : foff Tryd.prog 45 0 = some 0 := by kernel_rfl
theorem Tryd.ff45_0 : ffld Tryd.prog 45 0 = some (0, 1) := by kernel_rfl
theorem Tryd.fo45_1 : foff Tryd.prog 45 1 = some 1 := by kernel_rfl
theorem Tryd.ff45_1 : ffld Tryd.prog 45 1 = some (1, 1) := by kernel_rfl
theorem Tryd.bz45 : bz Tryd.prog 45 = some ([.int .i64 0, .int .i64 0], [(0, 1), (1, 1)]) := by kernel_rfl
theorem Tryd.zc45 : zcells Tryd.prog 45 = some [.int .i64 0, .int .i64 0] := by kernel_rfl
theorem Tryd.eq45 : EqT Tryd.prog 45 [1, 1] := by
  intro xs ys x y w hx hy
  obtain ⟨a0, a1, rfl⟩ := cells_11 hx
  obtain ⟨b0, b1, rfl⟩ := cells_11 hy
  constructor <;> (go_simp; by_cases h0 : a0 = b0 <;> by_cases h1 : a1 = b1 <;> simp [eqCs, eqC, ByteArray.toList_eq, *])
theorem Tryd.tk48 : tk Tryd.prog 48 = 1 := by kernel_rfl
theorem Tryd.co48 : Tryd.prog.cellsOf 48 = 1 := by kernel_rfl
theorem Tryd.zc48 : zcells Tryd.prog 48 = some [.pointer none] := by kernel_rfl
theorem Tryd.tk50 : tk Tryd.prog 50 = 1 := by kernel_rfl
theorem Tryd.co50 : Tryd.prog.cellsOf 50 = 1 := by kernel_rfl
theorem Tryd.se50 : selt Tryd.prog 50 = some 3 := by kernel_rfl
theorem Tryd.el50 : elemT Tryd.prog 50 = some (99, 3, 32) := by kernel_rfl
theorem Tryd.zc50 : zcells Tryd.prog 50 = some [.slice none 0 0] := by kernel_rfl
theorem Tryd.tk61 : tk Tryd.prog 61 = 1 := by kernel_rfl
theorem Tryd.co61 : Tryd.prog.cellsOf 61 = 1 := by kernel_rfl
theorem Tryd.se61 : selt Tryd.prog 61 = some 1 := by kernel_rfl
theorem Tryd.el61 : elemT Tryd.prog 61 = some (4, 1, 1) := by kernel_rfl
theorem Tryd.zc61 : zcells Tryd.prog 61 = some [.slice none 0 0] := by kernel_rfl
theorem Tryd.tk68 : tk Tryd.prog 68 = 4 := by kernel_rfl
theorem Tryd.co68 : Tryd.prog.cellsOf 68 = 2 := by kernel_rfl
theorem Tryd.fo68_0 : foff Tryd.prog 68 0 = some 0 := by kernel_rfl
theorem Tryd.ff68_0 : ffld Tryd.prog 68 0 = some (0, 1) := by kernel_rfl
theorem Tryd.fo68_1 : foff Tryd.prog 68 1 = some 1 := by kernel_rfl
theorem Tryd.ff68_1 : ffld Tryd.prog 68 1 = some (1, 1) := by kernel_rfl
theorem Tryd.bz68 : bz Tryd.prog 68 = some ([.slice none 0 0, .int .i64 0], [(0, 1), (1, 1)]) := by kernel_rfl
theorem Tryd.zc68 : zcells Tryd.prog 68 = some [.slice none 0 0, .int .i64 0] := by kernel_rfl
theorem Tryd.tk69 : tk Tryd.prog 69 = 4 := by kernel_rfl
theorem Tryd.co69 : Tryd.prog.cellsOf 69 = 2 := by kernel_rfl
theorem Tryd.fo69_0 : foff Tryd.prog 69 0 = some 0 := by kernel_rfl
theorem Tryd.ff69_0 : ffld Tryd.prog 69 0 = some (0, 1) := by kernel_rfl
theorem Tryd.fo69_1 : foff Tryd.prog 69 1 = some 1 := by kernel_rfl
theorem Tryd.ff69_1 : ffld Tryd.prog 69 1 = some (1, 1) := by kernel_rfl
theorem Tryd.bz69 : bz Tryd.prog 69 = some ([.slice none 0 0, .int .i64 0], [(0, 1), (1, 1)]) := by kernel_rfl
theorem Tryd.zc69 : zcells Tryd.prog 69 = some [.slice none 0 0, .int .i64 0] := by kernel_rfl
theorem Tryd.tk76 : tk Tryd.prog 76 = 1 := by kernel_rfl
theorem Tryd.co76 : Tryd.prog.cellsOf 76 = 1 := by kernel_rfl
theorem Tryd.se76 : selt Tryd.prog 76 = some 1 := by kernel_rfl
theorem Tryd.el76 : elemT Tryd.prog 76 = some (9, 1, 16) := by kernel_rfl
theorem Tryd.zc76 : zcells Tryd.prog 76 = some [.slice none 0 0] := by kernel_rfl
theorem Tryd.tk78 : tk Tryd.prog 78 = 1 := by kernel_rfl
theorem Tryd.co78 : Tryd.prog.cellsOf 78 = 1 := by kernel_rfl
theorem Tryd.mt78 : mapT Tryd.prog 78 = true := by kernel_rfl
theorem Tryd.zc78 : zcells Tryd.prog 78 = some [.map none] := by kernel_rfl
theorem Tryd.tk93 : tk Tryd.prog 93 = 1 := by kernel_rfl
theorem Tryd.co93 : Tryd.prog.cellsOf 93 = 1 := by kernel_rfl
theorem Tryd.se93 : selt Tryd.prog 93 = some 1 := by kernel_rfl
theorem Tryd.el93 : elemT Tryd.prog 93 = some (3, 1, 8) := by kernel_rfl
theorem Tryd.zc93 : zcells Tryd.prog 93 = some [.slice none 0 0] := by kernel_rfl
theorem Tryd.tk98 : tk Tryd.prog 98 = 5 := by kernel_rfl
theorem Tryd.co98 : Tryd.prog.cellsOf 98 = 3 := by kernel_rfl
theorem Tryd.fo98_0 : foff Tryd.prog 98 0 = some 0 := by kernel_rfl
theorem Tryd.ff98_0 : ffld Tryd.prog 98 0 = some (0, 1) := by kernel_rfl
theorem Tryd.fo98_1 : foff Tryd.prog 98 1 = some 1 := by kernel_rfl
theorem Tryd.ff98_1 : ffld Tryd.prog 98 1 = some (1, 4) := by kernel_rfl
theorem Tryd.bz98 : bz Tryd.prog 98 = some ([.string ⟨#[]⟩, .int .i64 0, .int .i64 0], [(0, 1), (1, 2)]) := by kernel_rfl
theorem Tryd.zc98 : zcells Tryd.prog 98 = some [.string ⟨#[]⟩, .int .i64 0, .int .i64 0] := by kernel_rfl
theorem Tryd.tk99 : tk Tryd.prog 99 = 5 := by kernel_rfl
theorem Tryd.co99 : Tryd.prog.cellsOf 99 = 3 := by kernel_rfl
theorem Tryd.fo99_0 : foff Tryd.prog 99 0 = some 0 := by kernel_rfl
theorem Tryd.ff99_0 : ffld Tryd.prog 99 0 = some (0, 1) := by kernel_rfl
theorem Tryd.fo99_1 : foff Tryd.prog 99 1 = some 1 := by kernel_rfl
theorem Tryd.ff99_1 : ffld Tryd.prog 99 1 = some (1, 4) := by kernel_rfl
theorem Tryd.bz99 : bz Tryd.prog 99 = some ([.string ⟨#[]⟩, .int .i64 0, .int .i64 0], [(0, 1), (1, 2)]) := by kernel_rfl
theorem Tryd.zc99 : zcells Tryd.prog 99 = some [.string ⟨#[]⟩, .int .i64 0, .int .i64 0] := by kernel_rfl
theorem Tryd.eq99 : EqT Tryd.prog 99 [2, 1, 1] := by
  intro xs ys x y w hx hy
  obtain ⟨a0, a1, a2, rfl⟩ := cells_211 hx
  obtain ⟨b0, b1, b2, rfl⟩ := cells_211 hy
  constructor <;> (go_simp; by_cases h0 : a0.data = b0.data <;> by_cases h1 : a1 = b1 <;> by_cases h2 : a2 = b2 <;> simp [eqCs, eqC, ByteArray.toList_eq, *])
theorem Tryd.tk110 : tk Tryd.prog 110 = 1 := by kernel_rfl
theorem Tryd.co110 : Tryd.prog.cellsOf 110 = 1 := by kernel_rfl
theorem Tryd.us110 : (Tryd.prog.underlying 110).isSome = true := by kernel_rfl
theorem Tryd.ik110 : ikind Tryd.prog 110 = some .u64 := by kernel_rfl
theorem Tryd.zc110 : zcells Tryd.prog 110 = some [.int .u64 0] := by kernel_rfl
theorem Tryd.tk112 : tk Tryd.prog 112 = 4 := by kernel_rfl
theorem Tryd.co112 : Tryd.prog.cellsOf 112 = 2 := by kernel_rfl
theorem Tryd.fo112_0 : foff Tryd.prog 112 0 = some 0 := by kernel_rfl
theorem Tryd.ff112_0 : ffld Tryd.prog 112 0 = some (0, 1) := by kernel_rfl
theorem Tryd.fo112_1 : foff Tryd.prog 112 1 = some 1 := by kernel_rfl
theorem Tryd.ff112_1 : ffld Tryd.prog 112 1 = some (1, 1) := by kernel_rfl
theorem Tryd.bz112 : bz Tryd.prog 112 = some ([.int .u8 0, .int .u8 0], [(0, 1), (1, 1)]) := by kernel_rfl
theorem Tryd.zc112 : zcells Tryd.prog 112 = some [.int .u8 0, .int .u8 0] := by kernel_rfl
theorem Tryd.tk115 : tk Tryd.prog 115 = 1 := by kernel_rfl
theorem Tryd.co115 : Tryd.prog.cellsOf 115 = 1 := by kernel_rfl
theorem Tryd.us115 : (Tryd.prog.underlying 115).isSome = true := by kernel_rfl
theorem Tryd.ik115 : ikind Tryd.prog 115 = some .u32 := by kernel_rfl
theorem Tryd.zc115 : zcells Tryd.prog 115 = some [.int .u32 0] := by kernel_rfl
theorem Tryd.tk119 : tk Tryd.prog 119 = 6 := by kernel_rfl
theorem Tryd.co119 : Tryd.prog.cellsOf 119 = 4 := by kernel_rfl
theorem Tryd.fo119_0 : foff Tryd.prog 119 0 = some 0 := by kernel_rfl
theorem Tryd.ff119_0 : ffld Tryd.prog 119 0 = some (0, 1) := by kernel_rfl
theorem Tryd.fo119_1 : foff Tryd.prog 119 1 = some 1 := by kernel_rfl
theorem Tryd.ff119_1 : ffld Tryd.prog 119 1 = some (1, 1) := by kernel_rfl
theorem Tryd.fo119_2 : foff Tryd.prog 119 2 = some 2 := by kernel_rfl
theorem Tryd.ff119_2 : ffld Tryd.prog 119 2 = some (2, 1) := by kernel_rfl
theorem Tryd.fo119_3 : foff Tryd.prog 119 3 = some 3 := by kernel_rfl
theorem Tryd.ff119_3 : ffld Tryd.prog 119 3 = some (3, 1) := by kernel_rfl
theorem Tryd.bz119 : bz Tryd.prog 119 = some ([.pointer none, .pointer none, .pointer none, .string ⟨#[]⟩], [(0, 1), (1, 1), (2, 1), (3, 1)]) := by kernel_rfl
theorem Tryd.zc119 : zcells Tryd.prog 119 = some [.pointer none, .pointer none, .pointer none, .string ⟨#[]⟩] := by kernel_rfl
theorem Tryd.tk122 : tk Tryd.prog 122 = 2 := by kernel_rfl
theorem Tryd.co122 : Tryd.prog.cellsOf 122 = 0 := by kernel_rfl
theorem Tryd.ff122_0 : ffld Tryd.prog 122 0 = some (0, 2) := by kernel_rfl
theorem Tryd.bz122 : bz Tryd.prog 122 = some ([], [(0, 0)]) := by kernel_rfl
theorem Tryd.zc122 : zcells Tryd.prog 122 = some [] := by kernel_rfl
theorem Tryd.tk128 : tk Tryd.prog 128 = 1 := by kernel_rfl
theorem Tryd.co128 : Tryd.prog.cellsOf 128 = 1 := by kernel_rfl
theorem Tryd.zc128 : zcells Tryd.prog 128 = some [.pointer none] := by kernel_rfl
theorem Tryd.tk131 : tk Tryd.prog 131 = 13 := by kernel_rfl
theorem Tryd.co131 : Tryd.prog.cellsOf 131 = 11 := by kernel_rfl
theorem Tryd.fo131_0 : foff Tryd.prog 131 0 = some 0 := by kernel_rfl
theorem Tryd.ff131_0 : ffld Tryd.prog 131 0 = some (0, 1) := by kernel_rfl
theorem Tryd.fo131_1 : foff Tryd.prog 131 1 = some 1 := by kernel_rfl
theorem Tryd.ff131_1 : ffld Tryd.prog 131 1 = some (1, 1) := by kernel_rfl
theorem Tryd.fo131_2 : foff Tryd.prog 131 2 = some 2 := by kernel_rfl
theorem Tryd.ff131_2 : ffld Tryd.prog 131 2 = some (2, 1) := by kernel_rfl
theorem Tryd.fo131_3 : foff Tryd.prog 131 3 = some 3 := by kernel_rfl
theorem Tryd.ff131_3 : ffld Tryd.prog 131 3 = some (3, 1) := by kernel_rfl
theorem Tryd.fo131_4 : foff Tryd.prog 131 4 = some 4 := by kernel_rfl
theorem Tryd.ff131_4 : ffld Tryd.prog 131 4 = some (4, 1) := by kernel_rfl
theorem Tryd.fo131_5 : foff Tryd.prog 131 5 = some 5 := by kernel_rfl
theorem Tryd.ff131_5 : ffld Tryd.prog 131 5 = some (5, 1) := by kernel_rfl
theorem Tryd.fo131_6 : foff Tryd.prog 131 6 = some 6 := by kernel_rfl
theorem Tryd.ff131_6 : ffld Tryd.prog 131 6 = some (6, 1) := by kernel_rfl
theorem Tryd.fo131_8 : foff Tryd.prog 131 8 = some 8 := by kernel_rfl
theorem Tryd.ff131_8 : ffld Tryd.prog 131 8 = some (8, 1) := by kernel_rfl
theorem Tryd.fo131_9 : foff Tryd.prog 131 9 = some 9 := by kernel_rfl
theorem Tryd.ff131_9 : ffld Tryd.prog 131 9 = some (9, 1) := by kernel_rfl
theorem Tryd.fo131_10 : foff Tryd.prog 131 10 = some 10 := by kernel_rfl
theorem Tryd.ff131_10 : ffld Tryd.prog 131 10 = some (10, 1) := by kernel_rfl

attribute [push_cast] Tryd.tk2 Tryd.co2 Tryd.us2 Tryd.ik2 Tryd.zc2 Tryd.tk3 Tryd.co3 Tryd.us3 Tryd.ik3 Tryd.zc3 Tryd.tk4 Tryd.co4 Tryd.zc4 Tryd.tk5 Tryd.co5 Tryd.us5 Tryd.ik5 Tryd.zc5 Tryd.tk7 Tryd.co7 Tryd.fo7_0 Tryd.ff7_0 Tryd.fo7_1 Tryd.ff7_1 Tryd.fo7_2 Tryd.ff7_2 Tryd.fo7_3 Tryd.ff7_3 Tryd.bz7 Tryd.zc7 Tryd.tk9 Tryd.co9 Tryd.us9 Tryd.is9 Tryd.zc9 Tryd.tk12 Tryd.co12 Tryd.us12 Tryd.ik12 Tryd.zc12 Tryd.tk13 Tryd.co13 Tryd.fo13_0 Tryd.ff13_0 Tryd.fo13_1 Tryd.ff13_1 Tryd.bz13 Tryd.zc13 Tryd.tk15 Tryd.co15 Tryd.zc15 Tryd.tk16 Tryd.co16 Tryd.zc16 Tryd.tk17 Tryd.co17 Tryd.zc17 Tryd.tk18 Tryd.co18 Tryd.fo18_0 Tryd.ff18_0 Tryd.bz18 Tryd.zc18 Tryd.tk21 Tryd.co21 Tryd.us21 Tryd.ik21 Tryd.zc21 Tryd.tk22 Tryd.co22 Tryd.se22 Tryd.el22 Tryd.zc22 Tryd.tk23 Tryd.co23 Tryd.se23 Tryd.el23 Tryd.zc23 Tryd.tk27 Tryd.co27 Tryd.fo27_0 Tryd.ff27_0 Tryd.fo27_1 Tryd.ff27_1 Tryd.bz27 Tryd.zc27 Tryd.tk28 Tryd.co28 Tryd.fo28_0 Tryd.ff28_0 Tryd.fo28_1 Tryd.ff28_1 Tryd.bz28 Tryd.zc28 Tryd.eq28 Tryd.tk29 Tryd.co29 Tryd.fo29_0 Tryd.ff29_0 Tryd.fo29_1 Tryd.ff29_1 Tryd.fo29_2 Tryd.ff29_2 Tryd.bz29 Tryd.zc29 Tryd.tk30 Tryd.co30 Tryd.fo30_0 Tryd.ff30_0 Tryd.fo30_1 Tryd.ff30_1 Tryd.fo30_2 Tryd.ff30_2 Tryd.bz30 Tryd.zc30 Tryd.eq30 Tryd.tk41 Tryd.co41 Tryd.se41 Tryd.el41 Tryd.zc41 Tryd.tk44 Tryd.co44 Tryd.fo44_0 Tryd.ff44_0 Tryd.fo44_1 Tryd.ff44_1 Tryd.bz44 Tryd.zc44 Tryd.tk45 Tryd.co45 Tryd.fo45_0 Tryd.ff45_0 Tryd.fo45_1 Tryd.ff45_1 Tryd.bz45 Tryd.zc45 Tryd.eq45 Tryd.tk48 Tryd.co48 Tryd.zc48 Tryd.tk50 Tryd.co50 Tryd.se50 Tryd.el50 Tryd.zc50 Tryd.tk61 Tryd.co61 Tryd.se61 Tryd.el61 Tryd.zc61 Tryd.tk68 Tryd.co68 Tryd.fo68_0 Tryd.ff68_0 Tryd.fo68_1 Tryd.ff68_1 Tryd.bz68 Tryd.zc68 Tryd.tk69 Tryd.co69 Tryd.fo69_0 Tryd.ff69_0 Tryd.fo69_1 Tryd.ff69_1 Tryd.bz69 Tryd.zc69 Tryd.tk76 Tryd.co76 Tryd.se76 Tryd.el76 Tryd.zc76 Tryd.tk78 Tryd.co78 Tryd.mt78 Tryd.zc78 Tryd.tk93 Tryd.co93 Tryd.se93 Tryd.el93 Tryd.zc93 Tryd.tk98 Tryd.co98 Tryd.fo98_0 Tryd.ff98_0 Tryd.fo98_1 Tryd.ff98_1 Tryd.bz98 Tryd.zc98 Tryd.tk99 Tryd.co99 Tryd.fo99_0 Tryd.ff99_0 Tryd.fo99_1 Tryd.ff99_1 Tryd.bz99 Tryd.zc99 Tryd.eq99 Tryd.tk110 Tryd.co110 Tryd.us110 Tryd.ik110 Tryd.zc110 Tryd.tk112 Tryd.co112 Tryd.fo112_0 Tryd.ff112_0 Tryd.fo112_1 Tryd.ff112_1 Tryd.bz112 Tryd.zc112 Tryd.tk115 Tryd.co115 Tryd.us115 Tryd.ik115 Tryd.zc115 Tryd.tk119 Tryd.co119 Tryd.fo119_0 Tryd.ff119_0 Tryd.fo119_1 Tryd.ff119_1 Tryd.fo119_2 Tryd.ff119_2 Tryd.fo119_3 Tryd.ff119_3 Tryd.bz119 Tryd.zc119 Tryd.tk122 Tryd.co122 Tryd.ff122_0 Tryd.bz122 Tryd.zc122 Tryd.tk128 Tryd.co128 Tryd.zc128 Tryd.tk131 Tryd.co131 Tryd.fo131_0 Tryd.ff131_0 Tryd.fo131_1 Tryd.ff131_1 Tryd.fo131_2 Tryd.ff131_2 Tryd.fo131_3 Tryd.ff131_3 Tryd.fo131_4 Tryd.ff131_4 Tryd.fo131_5 Tryd.ff131_5 Tryd.fo131_6 Tryd.ff131_6 Tryd.fo131_8 Tryd.ff131_8 Tryd.fo131_9 Tryd.ff131_9 Tryd.fo131_10 Tryd.ff131_10 Tryd.underlying4 Tryd.results3 Tryd.results4 Tryd.results5 Tryd.results6 Tryd.results7 Tryd.results8 Tryd.results9 Tryd.results10 Tryd.results11 Tryd.results12 Tryd.results13 Tryd.results14 Tryd.results15 Tryd.results16 Tryd.results17 Tryd.results18 Tryd.results19 Tryd.results20 Tryd.results21 Tryd.results22 Tryd.results23 Tryd.results24 Tryd.results25 Tryd.results26 Tryd.results27 Tryd.results28 Tryd.results29 Tryd.results30 Tryd.results31 Tryd.results32 Tryd.results33 Tryd.results34 Tryd.results35 Tryd.results36 Tryd.results37 Tryd.results38 Tryd.results39 Tryd.results40 Tryd.results41 Tryd.results42 Tryd.results43 Tryd.results44 Tryd.results45 Tryd.results46 Tryd.results47 Tryd.results48 Tryd.results49 Tryd.results50 Tryd.results51 Tryd.results52 Tryd.results53 Tryd.results54 Tryd.results55 Tryd.results56 Tryd.results57 Tryd.results58 Tryd.results59 Tryd.results60 Tryd.results61 Tryd.results62 Tryd.results63 Tryd.results64 Tryd.results65 Tryd.results66 Tryd.results67 Tryd.results68 Tryd.results69 Tryd.results70 Tryd.results71 Tryd.results72 Tryd.results73 Tryd.results74 Tryd.results75 Tryd.results76 Tryd.results77 Tryd.results78 Tryd.results79 Tryd.results80 Tryd.results81 Tryd.results82 Tryd.results83 Tryd.results84 Tryd.results85 Tryd.results86 Tryd.results87 Tryd.results88 Tryd.results89 Tryd.results90 Tryd.results91 Tryd.results92 Tryd.results93 Tryd.results94 Tryd.results95 Tryd.results96 Tryd.results97 Tryd.results98 Tryd.results99 Tryd.results100 Tryd.results101 Tryd.results102 Tryd.results103 Tryd.results104 Tryd.results105 Tryd.results106 Tryd.results107 Tryd.results108 Tryd.results109 Tryd.results110 Tryd.results111 Tryd.results112 Tryd.results113 Tryd.results114 Tryd.results115 Tryd.results116 Tryd.results117 Tryd.results118 Tryd.results119 Tryd.results120 Tryd.results121 Tryd.results122 Tryd.results123 Tryd.results124 Tryd.results125 Tryd.results126 Tryd.results127 Tryd.results128 Tryd.results129 Tryd.results130 Tryd.results131 Tryd.results132 Tryd.results133 Tryd.results134 Tryd.results135 Tryd.results136 Tryd.results149 Tryd.results150 Tryd.results151 Tryd.results152 Tryd.results153 Tryd.results154 Tryd.results155 Tryd.results156 Tryd.results157

end Go.Proofs.YtempabacnellaaaDoor
