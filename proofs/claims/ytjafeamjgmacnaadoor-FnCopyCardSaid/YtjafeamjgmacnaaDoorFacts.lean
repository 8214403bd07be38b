/-
  The closed facts on the types of this seat (printed by facts.py): tk, foff, ffld, bz, zcells, elemT, EqT and their kin. Conditions: none.
-/
import Derived.Test.YtjafeamjgmacnaaDoorCoreB
import Derived.Test.YtjafeamjgmacnaaDoorRows
set_option linter.unusedSimpArgs false
set_option linter.unusedVariables false
namespace Go.Proofs.YtjafeamjgmacnaaDoor
open Go Go.RowKit

theorem kind_1 {x : Value} (h : kindOf x = 1) : ∃ a, x = .int .i64 a := by
  unfold kindOf at h
  split at h <;> first | exact ⟨_, rfl⟩ | (simp at h)
theorem kind_2 {x : Value} (h : kindOf x = 2) : ∃ a, x = .string a := by
  unfold kindOf at h
  split at h <;> first | exact ⟨_, rfl⟩ | (simp at h)

theorem cells_11 {xs : Array Value} (h : xs.toList.map kindOf = [1, 1]) : ∃ (a0 : Int) (a1 : Int), xs = #[.int .i64 a0, .int .i64 a1] := by
  obtain ⟨l⟩ := xs
  simp only at h
  rcases l with _ | ⟨x0, l⟩
  · simp at h
  rcases l with _ | ⟨x1, l⟩
  · simp at h
  rcases l with _ | ⟨y, l⟩
  rotate_left
  · simp at h
  simp only [List.map_cons, List.map_nil, List.cons.injEq, and_true] at h
  obtain ⟨h0, h1⟩ := h
  obtain ⟨a0, rfl⟩ := kind_1 h0
  obtain ⟨a1, rfl⟩ := kind_1 h1
  exact ⟨a0, a1, rfl⟩

theorem cells_211 {xs : Array Value} (h : xs.toList.map kindOf = [2, 1, 1]) : ∃ (a0 : ByteArray) (a1 : Int) (a2 : Int), xs = #[.string a0, .int .i64 a1, .int .i64 a2] := by
  obtain ⟨l⟩ := xs
  simp only at h
  rcases l with _ | ⟨x0, l⟩
  · simp at h
  rcases l with _ | ⟨x1, l⟩
  · simp at h
  rcases l with _ | ⟨x2, l⟩
  · simp at h
  rcases l with _ | ⟨y, l⟩
  rotate_left
  · simp at h
  simp only [List.map_cons, List.map_nil, List.cons.injEq, and_true] at h
  obtain ⟨h0, h1, h2⟩ := h
  obtain ⟨a0, rfl⟩ := kind_2 h0
  obtain ⟨a1, rfl⟩ := kind_1 h1
  obtain ⟨a2, rfl⟩ := kind_1 h2
  exact ⟨a0, a1, a2, rfl⟩

theorem cells_21111 {xs : Array Value} (h : xs.toList.map kindOf = [2, 1, 1, 1, 1]) : ∃ (a0 : ByteArray) (a1 : Int) (a2 : Int) (a3 : Int) (a4 : Int), xs = #[.string a0, .int .i64 a1, .int .i64 a2, .int .i64 a3, .int .i64 a4] := by
  obtain ⟨l⟩ := xs
  simp only at h
  rcases l with _ | ⟨x0, l⟩
  · simp at h
  rcases l with _ | ⟨x1, l⟩
  · simp at h
  rcases l with _ | ⟨x2, l⟩
  · simp at h
  rcases l with _ | ⟨x3, l⟩
  · simp at h
  rcases l with _ | ⟨x4, l⟩
  · simp at h
  rcases l with _ | ⟨y, l⟩
  rotate_left
  · simp at h
  simp only [List.map_cons, List.map_nil, List.cons.injEq, and_true] at h
  obtain ⟨h0, h1, h2, h3, h4⟩ := h
  obtain ⟨a0, rfl⟩ := kind_2 h0
  obtain ⟨a1, rfl⟩ := kind_1 h1
  obtain ⟨a2, rfl⟩ := kind_1 h2
  obtain ⟨a3, rfl⟩ := kind_1 h3
  obtain ⟨a4, rfl⟩ := kind_1 h4
  exact ⟨a0, a1, a2, a3, a4, rfl⟩

theorem Tryd.tk2 : tk Tryd.prog 2 = 1 := by kernel_rfl
theorem Tryd.co2 : Tryd.prog.cellsOf 2 = 1 := by kernel_rfl
theorem Tryd.us2 : (Tryd.prog.underlying 2).isSome = true := by kernel_rfl
theorem Tryd.ik2 : ikind Tryd.prog 2 = some .i64 := by kernel_rfl
theorem Tryd.zc2 : zcells Tryd.prog 2 = some [.int .i64 0] := by kernel_rfl
theorem Tryd.tk3 : tk Tryd.prog 3 = 1 := by kernel_rfl
theorem Tryd.co3 : Tryd.prog.cellsOf 3 = 1 := by kernel_rfl
theorem Tryd.us3 : (Tryd.prog.underlying 3).isSome = true := by kernel_rfl
theorem Tryd.ik3 : ikind Tryd.prog 3 = some .i64 := by kernel_rfl
theorem Tryd.zc3 : zcells Tryd.prog 3 = some [.int .i64 0] := by kernel_rfl
theorem Tryd.tk4 : tk Tryd.prog 4 = 1 := by kernel_rfl
theorem Tryd.co4 : Tryd.prog.cellsOf 4 = 1 := by kernel_rfl
theorem Tryd.zc4 : zcells Tryd.prog 4 = some [.bool false] := by kernel_rfl
theorem Tryd.tk5 : tk Tryd.prog 5 = 1 := by kernel_rfl
theorem Tryd.co5 : Tryd.prog.cellsOf 5 = 1 := by kernel_rfl
theorem Tryd.us5 : (Tryd.prog.underlying 5).isSome = true := by kernel_rfl
theorem Tryd.ik5 : ikind Tryd.prog 5 = some .u8 := by kernel_rfl
theorem Tryd.zc5 : zcells Tryd.prog 5 = some [.int .u8 0] := by kernel_rfl
theorem Tryd.tk7 : tk Tryd.prog 7 = 6 := by kernel_rfl
theorem Tryd.co7 : Tryd.prog.cellsOf 7 = 4 := by kernel_rfl
theorem Tryd.fo7_0 : foff Tryd.prog 7 0 = some 0 := by kernel_rfl
theorem Tryd.ff7_0 : ffld Tryd.prog 7 0 = some (0, 1) := by kernel_rfl
theorem Tryd.fo7_1 : foff Tryd.prog 7 1 = some 1 := by kernel_rfl
theorem Tryd.ff7_1 : ffld Tryd.prog 7 1 = some (1, 1) := by kernel_rfl
theorem Tryd.fo7_2 : foff Tryd.prog 7 2 = some 2 := by kernel_rfl
theorem Tryd.ff7_2 : ffld Tryd.prog 7 2 = some (2, 1) := by kernel_rfl
theorem Tryd.fo7_3 : foff Tryd.prog 7 3 = some 3 := by kernel_rfl
theorem Tryd.ff7_3 : ffld Tryd.prog 7 3 = some (3, 1) := by kernel_rfl
theorem Tryd.bz7 : bz Tryd.prog 7 = some ([.int .i64 0, .int .i64 0, .bool false, .int .u8 0], [(0, 1), (1, 1), (2, 1), (3, 1)]) := by kernel_rfl
theorem Tryd.zc7 : zcells Tryd.prog 7 = some [.int .i64 0, .int .i64 0, .bool false, .int .u8 0] := by kernel_rfl
theorem Tryd.tk9 : tk Tryd.prog 9 = 1 := by kernel_rfl
theorem Tryd.co9 : Tryd.prog.cellsOf 9 = 1 := by kernel_rfl
theorem Tryd.us9 : (Tryd.prog.underlying 9).isSome = true := by kernel_rfl
theorem Tryd.is9 : isStr Tryd.prog 9 = true := by kernel_rfl
theorem Tryd.zc9 : zcells Tryd.prog 9 = some [.string ⟨#[]⟩] := by kernel_rfl
theorem Tryd.tk12 : tk Tryd.prog 12 = 1 := by kernel_rfl
theorem Tryd.co12 : Tryd.prog.cellsOf 12 = 1 := by kernel_rfl
theorem Tryd.us12 : (Tryd.prog.underlying 12).isSome = true := by kernel_rfl
theorem Tryd.ik12 : ikind Tryd.prog 12 = some .u64 := by kernel_rfl
theorem Tryd.zc12 : zcells Tryd.prog 12 = some [.int .u64 0] := by kernel_rfl
theorem Tryd.tk13 : tk Tryd.prog 13 = 4 := by kernel_rfl
theorem Tryd.co13 : Tryd.prog.cellsOf 13 = 2 := by kernel_rfl
theorem Tryd.fo13_0 : foff Tryd.prog 13 0 = some 0 := by kernel_rfl
theorem Tryd.ff13_0 : ffld Tryd.prog 13 0 = some (0, 1) := by kernel_rfl
theorem Tryd.fo13_1 : foff Tryd.prog 13 1 = some 1 := by kernel_rfl
theorem Tryd.ff13_1 : ffld Tryd.prog 13 1 = some (1, 1) := by kernel_rfl
theorem Tryd.bz13 : bz Tryd.prog 13 = some ([.string ⟨#[]⟩, .int .u64 0], [(0, 1), (1, 1)]) := by kernel_rfl
theorem Tryd.zc13 : zcells Tryd.prog 13 = some [.string ⟨#[]⟩, .int .u64 0] := by kernel_rfl
theorem Tryd.tk15 : tk Tryd.prog 15 = 1 := by kernel_rfl
theorem Tryd.co15 : Tryd.prog.cellsOf 15 = 1 := by kernel_rfl
theorem Tryd.zc15 : zcells Tryd.prog 15 = some [.pointer none] := by kernel_rfl
theorem Tryd.tk16 : tk Tryd.prog 16 = 1 := by kernel_rfl
theorem Tryd.co16 : Tryd.prog.cellsOf 16 = 1 := by kernel_rfl
theorem Tryd.zc16 : zcells Tryd.prog 16 = some [.pointer none] := by kernel_rfl
theorem Tryd.tk17 : tk Tryd.prog 17 = 1 := by kernel_rfl
theorem Tryd.co17 : Tryd.prog.cellsOf 17 = 1 := by kernel_rfl
theorem Tryd.zc17 : zcells Tryd.prog 17 = some [.pointer none] := by kernel_rfl
theorem Tryd.tk18 : tk Tryd.prog 18 = 3 := by kernel_rfl
theorem Tryd.co18 : Tryd.prog.cellsOf 18 = 1 := by kernel_rfl
theorem Tryd.fo18_0 : foff Tryd.prog 18 0 = some 0 := by kernel_rfl
theorem Tryd.ff18_0 : ffld Tryd.prog 18 0 = some (0, 1) := by kernel_rfl
theorem Tryd.bz18 : bz Tryd.prog 18 = some ([.pointer none], [(0, 1)]) := by kernel_rfl
theorem Tryd.zc18 : zcells Tryd.prog 18 = some [.pointer none] := by kernel_rfl
theorem Tryd.tk21 : tk Tryd.prog 21 = 1 := by kernel_rfl
theorem Tryd.co21 : Tryd.prog.cellsOf 21 = 1 := by kernel_rfl
theorem Tryd.us21 : (Tryd.prog.underlying 21).isSome = true := by kernel_rfl
theorem Tryd.ik21 : ikind Tryd.prog 21 = some .i32 := by kernel_rfl
theorem Tryd.zc21 : zcells Tryd.prog 21 = some [.int .i32 0] := by kernel_rfl
theorem Tryd.tk22 : tk Tryd.prog 22 = 1 := by kernel_rfl
theorem Tryd.co22 : Tryd.prog.cellsOf 22 = 1 := by kernel_rfl
theorem Tryd.se22 : selt Tryd.prog 22 = some 1 := by kernel_rfl
theorem Tryd.el22 : elemT Tryd.prog 22 = some (5, 1, 1) := by kernel_rfl
theorem Tryd.zc22 : zcells Tryd.prog 22 = some [.slice none 0 0] := by kernel_rfl
theorem Tryd.tk23 : tk Tryd.prog 23 = 1 := by kernel_rfl
theorem Tryd.co23 : Tryd.prog.cellsOf 23 = 1 := by kernel_rfl
theorem Tryd.se23 : selt Tryd.prog 23 = some 3 := by kernel_rfl
theorem Tryd.el23 : elemT Tryd.prog 23 = some (53, 3, 32) := by kernel_rfl
theorem Tryd.zc23 : zcells Tryd.prog 23 = some [.slice none 0 0] := by kernel_rfl
theorem Tryd.tk24 : tk Tryd.prog 24 = 1 := by kernel_rfl
theorem Tryd.co24 : Tryd.prog.cellsOf 24 = 1 := by kernel_rfl
theorem Tryd.se24 : selt Tryd.prog 24 = some 5 := by kernel_rfl
theorem Tryd.el24 : elemT Tryd.prog 24 = some (35, 5, 48) := by kernel_rfl
theorem Tryd.zc24 : zcells Tryd.prog 24 = some [.slice none 0 0] := by kernel_rfl
theorem Tryd.tk30 : tk Tryd.prog 30 = 1 := by kernel_rfl
theorem Tryd.co30 : Tryd.prog.cellsOf 30 = 1 := by kernel_rfl
theorem Tryd.se30 : selt Tryd.prog 30 = some 1 := by kernel_rfl
theorem Tryd.el30 : elemT Tryd.prog 30 = some (9, 1, 16) := by kernel_rfl
theorem Tryd.zc30 : zcells Tryd.prog 30 = some [.slice none 0 0] := by kernel_rfl
theorem Tryd.tk32 : tk Tryd.prog 32 = 4 := by kernel_rfl
theorem Tryd.co32 : Tryd.prog.cellsOf 32 = 2 := by kernel_rfl
theorem Tryd.fo32_0 : foff Tryd.prog 32 0 = some 0 := by kernel_rfl
theorem Tryd.ff32_0 : ffld Tryd.prog 32 0 = some (0, 1) := by kernel_rfl
theorem Tryd.fo32_1 : foff Tryd.prog 32 1 = some 1 := by kernel_rfl
theorem Tryd.ff32_1 : ffld Tryd.prog 32 1 = some (1, 1) := by kernel_rfl
theorem Tryd.bz32 : bz Tryd.prog 32 = some ([.int .i64 0, .int .i64 0], [(0, 1), (1, 1)]) := by kernel_rfl
theorem Tryd.zc32 : zcells Tryd.prog 32 = some [.int .i64 0, .int .i64 0] := by kernel_rfl
theorem Tryd.tk33 : tk Tryd.prog 33 = 4 := by kernel_rfl
theorem Tryd.co33 : Tryd.prog.cellsOf 33 = 2 := by kernel_rfl
theorem Tryd.fo33_0 : foff Tryd.prog 33 0 = some 0 := by kernel_rfl
theorem Tryd.ff33_0 : ffld Tryd.prog 33 0 = some (0, 1) := by kernel_rfl
theorem Tryd.fo33_1 : foff Tryd.prog 33 1 = some 1 := by kernel_rfl
theorem Tryd.ff33_1 : ffld Tryd.prog 33 1 = some (1, 1) := by kernel_rfl
theorem Tryd.bz33 : bz Tryd.prog 33 = some ([.int .i64 0, .int .i64 0], [(0, 1), (1, 1)]) := by kernel_rfl
theorem Tryd.zc33 : zcells Tryd.prog 33 = some [.int .i64 0, .int .i64 0] := by kernel_rfl
theorem Tryd.eq33 : EqT Tryd.prog 33 [1, 1] := by
  intro xs ys x y w hx hy
  obtain ⟨a0, a1, rfl⟩ := cells_11 hx
  obtain ⟨b0, b1, rfl⟩ := cells_11 hy
  constructor <;> (go_simp; by_cases h0 : a0 = b0 <;> by_cases h1 : a1 = b1 <;> simp [eqCs, eqC, ByteArray.toList_eq, *])
theorem Tryd.tk34 : tk Tryd.prog 34 = 7 := by kernel_rfl
theorem Tryd.co34 : Tryd.prog.cellsOf 34 = 5 := by kernel_rfl
theorem Tryd.fo34_0 : foff Tryd.prog 34 0 = some 0 := by kernel_rfl
theorem Tryd.ff34_0 : ffld Tryd.prog 34 0 = some (0, 1) := by kernel_rfl
theorem Tryd.fo34_1 : foff Tryd.prog 34 1 = some 1 := by kernel_rfl
theorem Tryd.ff34_1 : ffld Tryd.prog 34 1 = some (1, 4) := by kernel_rfl
theorem Tryd.fo34_2 : foff Tryd.prog 34 2 = some 3 := by kernel_rfl
theorem Tryd.ff34_2 : ffld Tryd.prog 34 2 = some (3, 4) := by kernel_rfl
theorem Tryd.bz34 : bz Tryd.prog 34 = some ([.string ⟨#[]⟩, .int .i64 0, .int .i64 0, .int .i64 0, .int .i64 0], [(0, 1), (1, 2), (3, 2)]) := by kernel_rfl
theorem Tryd.zc34 : zcells Tryd.prog 34 = some [.string ⟨#[]⟩, .int .i64 0, .int .i64 0, .int .i64 0, .int .i64 0] := by kernel_rfl
theorem Tryd.tk35 : tk Tryd.prog 35 = 7 := by kernel_rfl
theorem Tryd.co35 : Tryd.prog.cellsOf 35 = 5 := by kernel_rfl
theorem Tryd.fo35_0 : foff Tryd.prog 35 0 = some 0 := by kernel_rfl
theorem Tryd.ff35_0 : ffld Tryd.prog 35 0 = some (0, 1) := by kernel_rfl
theorem Tryd.fo35_1 : foff Tryd.prog 35 1 = some 1 := by kernel_rfl
theorem Tryd.ff35_1 : ffld Tryd.prog 35 1 = some (1, 4) := by kernel_rfl
theorem Tryd.fo35_2 : foff Tryd.prog 35 2 = some 3 := by kernel_rfl
theorem Tryd.ff35_2 : ffld Tryd.prog 35 2 = some (3, 4) := by kernel_rfl
theorem Tryd.bz35 : bz Tryd.prog 35 = some ([.string ⟨#[]⟩, .int .i64 0, .int .i64 0, .int .i64 0, .int .i64 0], [(0, 1), (1, 2), (3, 2)]) := by kernel_rfl
theorem Tryd.zc35 : zcells Tryd.prog 35 = some [.string ⟨#[]⟩, .int .i64 0, .int .i64 0, .int .i64 0, .int .i64 0] := by kernel_rfl
theorem Tryd.eq35 : EqT Tryd.prog 35 [2, 1, 1, 1, 1] := by
  intro xs ys x y w hx hy
  obtain ⟨a0, a1, a2, a3, a4, rfl⟩ := cells_21111 hx
  obtain ⟨b0, b1, b2, b3, b4, rfl⟩ := cells_21111 hy
  constructor <;> (go_simp; by_cases h0 : a0.data = b0.data <;> by_cases h1 : a1 = b1 <;> by_cases h2 : a2 = b2 <;> by_cases h3 : a3 = b3 <;> by_cases h4 : a4 = b4 <;> simp [eqCs, eqC, ByteArray.toList_eq, *])
theorem Tryd.tk52 : tk Tryd.prog 52 = 5 := by kernel_rfl
theorem Tryd.co52 : Tryd.prog.cellsOf 52 = 3 := by kernel_rfl
theorem Tryd.fo52_0 : foff Tryd.prog 52 0 = some 0 := by kernel_rfl
theorem Tryd.ff52_0 : ffld Tryd.prog 52 0 = some (0, 1) := by kernel_rfl
theorem Tryd.fo52_1 : foff Tryd.prog 52 1 = some 1 := by kernel_rfl
theorem Tryd.ff52_1 : ffld Tryd.prog 52 1 = some (1, 4) := by kernel_rfl
theorem Tryd.bz52 : bz Tryd.prog 52 = some ([.string ⟨#[]⟩, .int .i64 0, .int .i64 0], [(0, 1), (1, 2)]) := by kernel_rfl
theorem Tryd.zc52 : zcells Tryd.prog 52 = some [.string ⟨#[]⟩, .int .i64 0, .int .i64 0] := by kernel_rfl
theorem Tryd.tk53 : tk Tryd.prog 53 = 5 := by kernel_rfl
theorem Tryd.co53 : Tryd.prog.cellsOf 53 = 3 := by kernel_rfl
theorem Tryd.fo53_0 : foff Tryd.prog 53 0 = some 0 := by kernel_rfl
theorem Tryd.ff53_0 : ffld Tryd.prog 53 0 = some (0, 1) := by kernel_rfl
theorem Tryd.fo53_1 : foff Tryd.prog 53 1 = some 1 := by kernel_rfl
theorem Tryd.ff53_1 : ffld Tryd.prog 53 1 = some (1, 4) := by kernel_rfl
theorem Tryd.bz53 : bz Tryd.prog 53 = some ([.string ⟨#[]⟩, .int .i64 0, .int .i64 0], [(0, 1), (1, 2)]) := by kernel_rfl
theorem Tryd.zc53 : zcells Tryd.prog 53 = some [.string ⟨#[]⟩, .int .i64 0, .int .i64 0] := by kernel_rfl
theorem Tryd.eq53 : EqT Tryd.prog 53 [2, 1, 1] := by
  intro xs ys x y w hx hy
  obtain ⟨a0, a1, a2, rfl⟩ := cells_211 hx
  obtain ⟨b0, b1, b2, rfl⟩ := cells_211 hy
  constructor <;> (go_simp; by_cases h0 : a0.data = b0.data <;> by_cases h1 : a1 = b1 <;> by_cases h2 : a2 = b2 <;> simp [eqCs, eqC, ByteArray.toList_eq, *])
theorem Tryd.tk54 : tk Tryd.prog 54 = 1 := by kernel_rfl
theorem Tryd.co54 : Tryd.prog.cellsOf 54 = 1 := by kernel_rfl
theorem Tryd.zc54 : zcells Tryd.prog 54 = some [.pointer none] := by kernel_rfl
theorem Tryd.tk78 : tk Tryd.prog 78 = 4 := by kernel_rfl
theorem Tryd.co78 : Tryd.prog.cellsOf 78 = 2 := by kernel_rfl
theorem Tryd.fo78_0 : foff Tryd.prog 78 0 = some 0 := by kernel_rfl
theorem Tryd.ff78_0 : ffld Tryd.prog 78 0 = some (0, 1) := by kernel_rfl
theorem Tryd.fo78_1 : foff Tryd.prog 78 1 = some 1 := by kernel_rfl
theorem Tryd.ff78_1 : ffld Tryd.prog 78 1 = some (1, 1) := by kernel_rfl
theorem Tryd.bz78 : bz Tryd.prog 78 = some ([.slice none 0 0, .int .i64 0], [(0, 1), (1, 1)]) := by kernel_rfl
theorem Tryd.zc78 : zcells Tryd.prog 78 = some [.slice none 0 0, .int .i64 0] := by kernel_rfl
theorem Tryd.tk79 : tk Tryd.prog 79 = 4 := by kernel_rfl
theorem Tryd.co79 : Tryd.prog.cellsOf 79 = 2 := by kernel_rfl
theorem Tryd.fo79_0 : foff Tryd.prog 79 0 = some 0 := by kernel_rfl
theorem Tryd.ff79_0 : ffld Tryd.prog 79 0 = some (0, 1) := by kernel_rfl
theorem Tryd.fo79_1 : foff Tryd.prog 79 1 = some 1 := by kernel_rfl
theorem Tryd.ff79_1 : ffld Tryd.prog 79 1 = some (1, 1) := by kernel_rfl
theorem Tryd.bz79 : bz Tryd.prog 79 = some ([.slice none 0 0, .int .i64 0], [(0, 1), (1, 1)]) := by kernel_rfl
theorem Tryd.zc79 : zcells Tryd.prog 79 = some [.slice none 0 0, .int .i64 0] := by kernel_rfl
theorem Tryd.tk86 : tk Tryd.prog 86 = 1 := by kernel_rfl
theorem Tryd.co86 : Tryd.prog.cellsOf 86 = 1 := by kernel_rfl
theorem Tryd.mt86 : mapT Tryd.prog 86 = true := by kernel_rfl
theorem Tryd.zc86 : zcells Tryd.prog 86 = some [.map none] := by kernel_rfl
theorem Tryd.tk91 : tk Tryd.prog 91 = 1 := by kernel_rfl
theorem Tryd.co91 : Tryd.prog.cellsOf 91 = 1 := by kernel_rfl
theorem Tryd.se91 : selt Tryd.prog 91 = some 1 := by kernel_rfl
theorem Tryd.el91 : elemT Tryd.prog 91 = some (3, 1, 8) := by kernel_rfl
theorem Tryd.zc91 : zcells Tryd.prog 91 = some [.slice none 0 0] := by kernel_rfl
theorem Tryd.tk107 : tk Tryd.prog 107 = 1 := by kernel_rfl
theorem Tryd.co107 : Tryd.prog.cellsOf 107 = 1 := by kernel_rfl
theorem Tryd.us107 : (Tryd.prog.underlying 107).isSome = true := by kernel_rfl
theorem Tryd.ik107 : ikind Tryd.prog 107 = some .u64 := by kernel_rfl
theorem Tryd.zc107 : zcells Tryd.prog 107 = some [.int .u64 0] := by kernel_rfl
theorem Tryd.tk109 : tk Tryd.prog 109 = 4 := by kernel_rfl
theorem Tryd.co109 : Tryd.prog.cellsOf 109 = 2 := by kernel_rfl
theorem Tryd.fo109_0 : foff Tryd.prog 109 0 = some 0 := by kernel_rfl
theorem Tryd.ff109_0 : ffld Tryd.prog 109 0 = some (0, 1) := by kernel_rfl
theorem Tryd.fo109_1 : foff Tryd.prog 109 1 = some 1 := by kernel_rfl
theorem Tryd.ff109_1 : ffld Tryd.prog 109 1 = some (1, 1) := by kernel_rfl
theorem Tryd.bz109 : bz Tryd.prog 109 = some ([.int .u8 0, .int .u8 0], [(0, 1), (1, 1)]) := by kernel_rfl
theorem Tryd.zc109 : zcells Tryd.prog 109 = some [.int .u8 0, .int .u8 0] := by kernel_rfl
theorem Tryd.tk112 : tk Tryd.prog 112 = 1 := by kernel_rfl
theorem Tryd.co112 : Tryd.prog.cellsOf 112 = 1 := by kernel_rfl
theorem Tryd.us112 : (Tryd.prog.underlying 112).isSome = true := by kernel_rfl
theorem Tryd.ik112 : ikind Tryd.prog 112 = some .u32 := by kernel_rfl
theorem Tryd.zc112 : zcells Tryd.prog 112 = some [.int .u32 0] := by kernel_rfl
theorem Tryd.tk116 : tk Tryd.prog 116 = 6 := by kernel_rfl
theorem Tryd.co116 : Tryd.prog.cellsOf 116 = 4 := by kernel_rfl
theorem Tryd.fo116_0 : foff Tryd.prog 116 0 = some 0 := by kernel_rfl
theorem Tryd.ff116_0 : ffld Tryd.prog 116 0 = some (0, 1) := by kernel_rfl
theorem Tryd.fo116_1 : foff Tryd.prog 116 1 = some 1 := by kernel_rfl
theorem Tryd.ff116_1 : ffld Tryd.prog 116 1 = some (1, 1) := by kernel_rfl
theorem Tryd.fo116_2 : foff Tryd.prog 116 2 = some 2 := by kernel_rfl
theorem Tryd.ff116_2 : ffld Tryd.prog 116 2 = some (2, 1) := by kernel_rfl
theorem Tryd.fo116_3 : foff Tryd.prog 116 3 = some 3 := by kernel_rfl
theorem Tryd.ff116_3 : ffld Tryd.prog 116 3 = some (3, 1) := by kernel_rfl
theorem Tryd.bz116 : bz Tryd.prog 116 = some ([.pointer none, .pointer none, .pointer none, .string ⟨#[]⟩], [(0, 1), (1, 1), (2, 1), (3, 1)]) := by kernel_rfl
theorem Tryd.zc116 : zcells Tryd.prog 116 = some [.pointer none, .pointer none, .pointer none, .string ⟨#[]⟩] := by kernel_rfl
theorem Tryd.tk119 : tk Tryd.prog 119 = 2 := by kernel_rfl
theorem Tryd.co119 : Tryd.prog.cellsOf 119 = 0 := by kernel_rfl
theorem Tryd.ff119_0 : ffld Tryd.prog 119 0 = some (0, 2) := by kernel_rfl
theorem Tryd.bz119 : bz Tryd.prog 119 = some ([], [(0, 0)]) := by kernel_rfl
theorem Tryd.zc119 : zcells Tryd.prog 119 = some [] := by kernel_rfl
theorem Tryd.tk125 : tk Tryd.prog 125 = 1 := by kernel_rfl
theorem Tryd.co125 : Tryd.prog.cellsOf 125 = 1 := by kernel_rfl
theorem Tryd.zc125 : zcells Tryd.prog 125 = some [.pointer none] := by kernel_rfl
theorem Tryd.tk128 : tk Tryd.prog 128 = 13 := by kernel_rfl
theorem Tryd.co128 : Tryd.prog.cellsOf 128 = 11 := by kernel_rfl
theorem Tryd.fo128_0 : foff Tryd.prog 128 0 = some 0 := by kernel_rfl
theorem Tryd.ff128_0 : ffld Tryd.prog 128 0 = some (0, 1) := by kernel_rfl
theorem Tryd.fo128_1 : foff Tryd.prog 128 1 = some 1 := by kernel_rfl
theorem Tryd.ff128_1 : ffld Tryd.prog 128 1 = some (1, 1) := by kernel_rfl
theorem Tryd.fo128_2 : foff Tryd.prog 128 2 = some 2 := by kernel_rfl
theorem Tryd.ff128_2 : ffld Tryd.prog 128 2 = some (2, 1) := by kernel_rfl
theorem Tryd.fo128_3 : foff Tryd.prog 128 3 = some 3 := by kernel_rfl
theorem Tryd.ff128_3 : ffld Tryd.prog 128 3 = some (3, 1) := by kernel_rfl
theorem Tryd.fo128_4 : foff Tryd.prog 128 4 = some 4 := by kernel_rfl
theorem Tryd.ff128_4 : ffld Tryd.prog 128 4 = some (4, 1) := by kernel_rfl
theorem Tryd.fo128_5 : foff Tryd.prog 128 5 = some 5 := by kernel_rfl
theorem Tryd.ff128_5 : ffld Tryd.prog 128 5 = some (5, 1) := by kernel_rfl
theorem Tryd.fo128_6 : foff Tryd.prog 128 6 = some 6 := by kernel_rfl
theorem Tryd.ff128_6 : ffld Tryd.prog 128 6 = some (6, 1) := by kernel_rfl
theorem Tryd.fo128_8 : foff Tryd.prog 128 8 = some 8 := by kernel_rfl
theorem Tryd.ff128_8 : ffld Tryd.prog 128 8 = some (8, 1) := by kernel_rfl
theorem Tryd.fo128_9 : foff Tryd.prog 128 9 = some 9 := by kernel_rfl
theorem Tryd.ff128_9 : ffld Tryd.prog 128 9 = some (9, 1) := by kernel_rfl
theorem Tryd.fo128_10 : foff Tryd.prog 128 10 = some 10 := by kernel_rfl
theorem Tryd.ff128_10 : ffld Tryd.prog 128 10 = some (10, 1) := by kernel_rfl

attribute [push_cast] Tryd.tk2 Tryd.co2 Tryd.us2 Tryd.ik2 Tryd.zc2 Tryd.tk3 Tryd.co3 Tryd.us3 Tryd.ik3 Tryd.zc3 Tryd.tk4 Tryd.co4 Tryd.zc4 Tryd.tk5 Tryd.co5 Tryd.us5 Tryd.ik5 Tryd.zc5 Tryd.tk7 Tryd.co7 Tryd.fo7_0 Tryd.ff7_0 Tryd.fo7_1 Tryd.ff7_1 Tryd.fo7_2 Tryd.ff7_2 Tryd.fo7_3 Tryd.ff7_3 Tryd.bz7 Tryd.zc7 Tryd.tk9 Tryd.co9 Tryd.us9 Tryd.is9 Tryd.zc9 Tryd.tk12 Tryd.co12 Tryd.us12 Tryd.ik12 Tryd.zc12 Tryd.tk13 Tryd.co13 Tryd.fo13_0 Tryd.ff13_0 Tryd.fo13_1 Tryd.ff13_1 Tryd.bz13 Tryd.zc13 Tryd.tk15 Tryd.co15 Tryd.zc15 Tryd.tk16 Tryd.co16 Tryd.zc16 Tryd.tk17 Tryd.co17 Tryd.zc17 Tryd.tk18 Tryd.co18 Tryd.fo18_0 Tryd.ff18_0 Tryd.bz18 Tryd.zc18 Tryd.tk21 Tryd.co21 Tryd.us21 Tryd.ik21 Tryd.zc21 Tryd.tk22 Tryd.co22 Tryd.se22 Tryd.el22 Tryd.zc22 Tryd.tk23 Tryd.co23 Tryd.se23 Tryd.el23 Tryd.zc23 Tryd.tk24 Tryd.co24 Tryd.se24 Tryd.el24 Tryd.zc24 Tryd.tk30 Tryd.co30 Tryd.se30 Tryd.el30 Tryd.zc30 Tryd.tk32 Tryd.co32 Tryd.fo32_0 Tryd.ff32_0 Tryd.fo32_1 Tryd.ff32_1 Tryd.bz32 Tryd.zc32 Tryd.tk33 Tryd.co33 Tryd.fo33_0 Tryd.ff33_0 Tryd.fo33_1 Tryd.ff33_1 Tryd.bz33 Tryd.zc33 Tryd.eq33 Tryd.tk34 Tryd.co34 Tryd.fo34_0 Tryd.ff34_0 Tryd.fo34_1 Tryd.ff34_1 Tryd.fo34_2 Tryd.ff34_2 Tryd.bz34 Tryd.zc34 Tryd.tk35 Tryd.co35 Tryd.fo35_0 Tryd.ff35_0 Tryd.fo35_1 Tryd.ff35_1 Tryd.fo35_2 Tryd.ff35_2 Tryd.bz35 Tryd.zc35 Tryd.eq35 Tryd.tk52 Tryd.co52 Tryd.fo52_0 Tryd.ff52_0 Tryd.fo52_1 Tryd.ff52_1 Tryd.bz52 Tryd.zc52 Tryd.tk53 Tryd.co53 Tryd.fo53_0 Tryd.ff53_0 Tryd.fo53_1 Tryd.ff53_1 Tryd.bz53 Tryd.zc53 Tryd.eq53 Tryd.tk54 Tryd.co54 Tryd.zc54 Tryd.tk78 Tryd.co78 Tryd.fo78_0 Tryd.ff78_0 Tryd.fo78_1 Tryd.ff78_1 Tryd.bz78 Tryd.zc78 Tryd.tk79 Tryd.co79 Tryd.fo79_0 Tryd.ff79_0 Tryd.fo79_1 Tryd.ff79_1 Tryd.bz79 Tryd.zc79 Tryd.tk86 Tryd.co86 Tryd.mt86 Tryd.zc86 Tryd.tk91 Tryd.co91 Tryd.se91 Tryd.el91 Tryd.zc91 Tryd.tk107 Tryd.co107 Tryd.us107 Tryd.ik107 Tryd.zc107 Tryd.tk109 Tryd.co109 Tryd.fo109_0 Tryd.ff109_0 Tryd.fo109_1 Tryd.ff109_1 Tryd.bz109 Tryd.zc109 Tryd.tk112 Tryd.co112 Tryd.us112 Tryd.ik112 Tryd.zc112 Tryd.tk116 Tryd.co116 Tryd.fo116_0 Tryd.ff116_0 Tryd.fo116_1 Tryd.ff116_1 Tryd.fo116_2 Tryd.ff116_2 Tryd.fo116_3 Tryd.ff116_3 Tryd.bz116 Tryd.zc116 Tryd.tk119 Tryd.co119 Tryd.ff119_0 Tryd.bz119 Tryd.zc119 Tryd.tk125 Tryd.co125 Tryd.zc125 Tryd.tk128 Tryd.co128 Tryd.fo128_0 Tryd.ff128_0 Tryd.fo128_1 Tryd.ff128_1 Tryd.fo128_2 Tryd.ff128_2 Tryd.fo128_3 Tryd.ff128_3 Tryd.fo128_4 Tryd.ff128_4 Tryd.fo128_5 Tryd.ff128_5 Tryd.fo128_6 Tryd.ff128_6 Tryd.fo128_8 Tryd.ff128_8 Tryd.fo128_9 Tryd.ff128_9 Tryd.fo128_10 Tryd.ff128_10 Tryd.underlying4 Tryd.results3 Tryd.results4 Tryd.results5 Tryd.results6 Tryd.results7 Tryd.results8 Tryd.results9 Tryd.results10 Tryd.results11 Tryd.results12 Tryd.results13 Tryd.results14 Tryd.results15 Tryd.results16 Tryd.results17 Tryd.results18 Tryd.results19 Tryd.results20 Tryd.results21 Tryd.results22 Tryd.results23 Tryd.results24 Tryd.results25 Tryd.results26 Tryd.results27 Tryd.results28 Tryd.results29 Tryd.results30 Tryd.results31 Tryd.results32 Tryd.results33 Tryd.results34 Tryd.results35 Tryd.results36 Tryd.results37 Tryd.results38 Tryd.results39 Tryd.results40 Tryd.results41 Tryd.results42 Tryd.results43 Tryd.results44 Tryd.results45 Tryd.results46 Tryd.results47 Tryd.results48 Tryd.results49 Tryd.results50 Tryd.results51 Tryd.results52 Tryd.results53 Tryd.results54 Tryd.results55 Tryd.results56 Tryd.results57 Tryd.results58 Tryd.results59 Tryd.results60 Tryd.results61 Tryd.results62 Tryd.results63 Tryd.results64 Tryd.results65 Tryd.results66 Tryd.results67 Tryd.results68 Tryd.results69 Tryd.results70 Tryd.results71 Tryd.results72 Tryd.results73 Tryd.results74 Tryd.results75 Tryd.results76 Tryd.results77 Tryd.results78 Tryd.results79 Tryd.results80 Tryd.results81 Tryd.results82 Tryd.results83 Tryd.results84 Tryd.results85 Tryd.results86 Tryd.results87 Tryd.results88 Tryd.results89 Tryd.results90 Tryd.results91 Tryd.results92 Tryd.results93 Tryd.results94 Tryd.results95 Tryd.results96 Tryd.results97 Tryd.results98 Tryd.results99 Tryd.results100 Tryd.results101 Tryd.results102 Tryd.results103 Tryd.results104 Tryd.results105 Tryd.results106 Tryd.results107 Tryd.results108 Tryd.results109 Tryd.results110 Tryd.results111 Tryd.results112 Tryd.results113 Tryd.results114 Tryd.results115 Tryd.results116 Tryd.results129 Tryd.results130 Tryd.results131 Tryd.results132 Tryd.results133 Tryd.results134 Tryd.results135 Tryd.results136 Tryd.results137 Tryd.results138

end Go.Proofs.YtjafeamjgmacnaaDoor
