/-
  The closed facts on the types of this seat (printed by facts.py): tk, foff, ffld, bz, zcells, elemT, EqT and their kin. Conditions: none.
-/
import Derived.Test.YtbkhnnohogcbjaaDoorCoreB
import Derived.Test.YtbkhnnohogcbjaaDoorRows
set_option linter.unusedSimpArgs false
set_option linter.unusedVariables false
namespace Go.Proofs.YtbkhnnohogcbjaaDoor
open Go Go.RowKit

theorem kind_1 {x : Value} (h : kindOf x = 1) : ∃ a, x = .int .i64 a := by
  unfold kindOf at h
  split at h <;> first | exact ⟨_, rfl⟩ | (simp at h)
theorem kind_2 {x : Value} (h : kindOf x = 2) : ∃ a, x = .string a := by
  unfold kindOf at h
  split at h <;> first | exact ⟨_, rfl⟩ | (simp at h)

theorem cells_11 {xs : Array Value} (h : xs.toList.map kindOf = [1, 1]) : ∃ (a0 : Int) (a1 : Int), xs = #[.int .i64 a0, .int .i64 a1] := by
  obtain ⟨l⟩ := xs
  simp only at h
  rcases l with _ | ⟨x0, l⟩
  · simp at h
  rcases l with _ | ⟨x1, l⟩
  · simp at h
  rcases l with _ | ⟨y, l⟩
  rotate_left
  · simp at h
  simp only [List.map_cons, List.map_nil, List.cons.injEq, and_true] at h
  obtain ⟨h0, h1⟩ := h
  obtain ⟨a0, rfl⟩ := kind_1 h0
  obtain ⟨a1, rfl⟩ := kind_1 h1
  exact ⟨a0, a1, rfl⟩

theorem cells_211 {xs : Array Value} (h : xs.toList.map kindOf = [2, 1, 1]) : ∃ (a0 : ByteArray) (a1 : Int) (a2 : Int), xs = #[.string a0, .int .i64 a1, .int .i64 a2] := by
  obtain ⟨l⟩ := xs
  simp only at h
  rcases l with _ | ⟨x0, l⟩
  · simp at h
  rcases l with _ | ⟨x1, l⟩
  · simp at h
  rcases l with _ | ⟨x2, l⟩
  · simp at h
  rcases l with _ | ⟨y, l⟩
  rotate_left
  · simp at h
  simp only [List.map_cons, List.map_nil, List.cons.injEq, and_true] at h
  obtain ⟨h0, h1, h2⟩ := h
  obtain ⟨a0, rfl⟩ := kind_2 h0
  obtain ⟨a1, rfl⟩ := kind_1 h1
  obtain ⟨a2, rfl⟩ := kind_1 h2
  exact ⟨a0, a1, a2, rfl⟩

theorem cells_21111 {xs : Array Value} (h : xs.toList.map kindOf = [2, 1, 1, 1, 1]) : ∃ (a0 : ByteArray) (a1 : Int) (a2 : Int) (a3 : Int) (a4 : Int), xs = #[.string a0, .int .i64 a1, .int .i64 a2, .int .i64 a3, .int .i64 a4] := by
  obtain ⟨l⟩ := xs
  simp only at h
  rcases l with _ | ⟨x0, l⟩
  · simp at h
  rcases l with _ | ⟨x1, l⟩
  · simp at h
  rcases l with _ | ⟨x2, l⟩
  · simp at h
  rcases l with _ | ⟨x3, l⟩
  · simp at h
  rcases l with _ | ⟨x4, l⟩
  · simp at h
  rcases l with _ | ⟨y, l⟩
  rotate_left
  · simp at h
  simp only [List.map_cons, List.map_nil, List.cons.injEq, and_true] at h
  obtain ⟨h0, h1, h2, h3, h4⟩ := h
  obtain ⟨a0, rfl⟩ := kind_2 h0
  obtain ⟨a1, rfl⟩ := kind_1 h1
  obtain ⟨a2, rfl⟩ := kind_1 h2
  obtain ⟨a3, rfl⟩ := kind_1 h3
  obtain ⟨a4, rfl⟩ := kind_1 h4
  exact ⟨a0, a1, a2, a3, a4, rfl⟩

theorem Tryd.tk2 : tk Tryd.prog 2 = 1 := by kernel_rfl
theorem Tryd.co2 : Tryd.prog.cellsOf 2 = 1 := by kernel_rfl
theorem Tryd.us2 : (Tryd.prog.underlying 2).isSome = true := by kernel_rfl
theorem Tryd.ik2 : ikind Tryd.prog 2 = some .i64 := by kernel_rfl
theorem Tryd.zc2 : zcells Tryd.prog 2 = some [.int .i64 0] := by kernel_rfl
theorem Tryd.tk3 : tk Tryd.prog 3 = 1 := by kernel_rfl
theorem Tryd.co3 : Tryd.prog.cellsOf 3 = 1 := by kernel_rfl
theorem Tryd.us3 : (Tryd.prog.underlying 3).isSome = true := by kernel_rfl
theorem Tryd.ik3 : ikind Tryd.prog 3 = some .i64 := by kernel_rfl
theorem Tryd.zc3 : zcells Tryd.prog 3 = some [.int .i64 0] := by kernel_rfl
theorem Tryd.tk4 : tk Tryd.prog 4 = 1 := by kernel_rfl
theorem Tryd.co4 : Tryd.prog.cellsOf 4 = 1 := by kernel_rfl
theorem Tryd.zc4 : zcells Tryd.prog 4 = some [.bool false] := by kernel_rfl
theorem Tryd.tk5 : tk Tryd.prog 5 = 1 := by kernel_rfl
theorem Tryd.co5 : Tryd.prog.cellsOf 5 = 1 := by kernel_rfl
theorem Tryd.us5 : (Tryd.prog.underlying 5).isSome = true := by kernel_rfl
theorem Tryd.ik5 : ikind Tryd.prog 5 = some .u8 := by kernel_rfl
theorem Tryd.zc5 : zcells Tryd.prog 5 = some [.int .u8 0] := by kernel_rfl
theorem Tryd.tk7 : tk Tryd.prog 7 = 6 := by kernel_rfl
theorem Tryd.co7 : Tryd.prog.cellsOf 7 = 4 := by kernel_rfl
theorem Tryd.fo7_0 : foff Tryd.prog 7 0 = some 0 := by kernel_rfl
theorem Tryd.ff7_0 : ffld Tryd.prog 7 0 = some (0, 1) := by kernel_rfl
theorem Tryd.fo7_1 : foff Tryd.prog 7 1 = some 1 := by kernel_rfl
theorem Tryd.ff7_1 : ffld Tryd.prog 7 1 = some (1, 1) := by kernel_rfl
theorem Tryd.fo7_2 : foff Tryd.prog 7 2 = some 2 := by kernel_rfl
theorem Tryd.ff7_2 : ffld Tryd.prog 7 2 = some (2, 1) := by kernel_rfl
theorem Tryd.fo7_3 : foff Tryd.prog 7 3 = some 3 := by kernel_rfl
theorem Tryd.ff7_3 : ffld Tryd.prog 7 3 = some (3, 1) := by kernel_rfl
theorem Tryd.bz7 : bz Tryd.prog 7 = some ([.int .i64 0, .int .i64 0, .bool false, .int .u8 0], [(0, 1), (1, 1), (2, 1), (3, 1)]) := by kernel_rfl
theorem Tryd.zc7 : zcells Tryd.prog 7 = some [.int .i64 0, .int .i64 0, .bool false, .int .u8 0] := by kernel_rfl
theorem Tryd.tk9 : tk Tryd.prog 9 = 1 := by kernel_rfl
theorem Tryd.co9 : Tryd.prog.cellsOf 9 = 1 := by kernel_rfl
theorem Tryd.us9 : (Tryd.prog.underlying 9).isSome = true := by kernel_rfl
theorem Tryd.is9 : isStr Tryd.prog 9 = true := by kernel_rfl
theorem Tryd.zc9 : zcells Tryd.prog 9 = some [.string ⟨#[]⟩] := by kernel_rfl
theorem Tryd.tk12 : tk Tryd.prog 12 = 1 := by kernel_rfl
theorem Tryd.co12 : Tryd.prog.cellsOf 12 = 1 := by kernel_rfl
theorem Tryd.us12 : (Tryd.prog.underlying 12).isSome = true := by kernel_rfl
theorem Tryd.ik12 : ikind Tryd.prog 12 = some .u64 := by kernel_rfl
theorem Tryd.zc12 : zcells Tryd.prog 12 = some [.int .u64 0] := by kernel_rfl
theorem Tryd.tk13 : tk Tryd.prog 13 = 4 := by kernel_rfl
theorem Tryd.co13 : Tryd.prog.cellsOf 13 = 2 := by kernel_rfl
theorem Tryd.fo13_0 : foff Tryd.prog 13 0 = some 0 := by kernel_rfl
theorem Tryd.ff13_0 : ffld Tryd.prog 13 0 = some (0, 1) := by kernel_rfl
theorem Tryd.fo13_1 : foff Tryd.prog 13 1 = some 1 := by kernel_rfl
theorem Tryd.ff13_1 : ffld Tryd.prog 13 1 = some (1, 1) := by kernel_rfl
theorem Tryd.bz13 : bz Tryd.prog 13 = some ([.string ⟨#[]⟩, .int .u64 0], [(0, 1), (1, 1)]) := by kernel_rfl
theorem Tryd.zc13 : zcells Tryd.prog 13 = some [.string ⟨#[]⟩, .int .u64 0] := by kernel_rfl
theorem Tryd.tk15 : tk Tryd.prog 15 = 1 := by kernel_rfl
theorem Tryd.co15 : Tryd.prog.cellsOf 15 = 1 := by kernel_rfl
theorem Tryd.zc15 : zcells Tryd.prog 15 = some [.pointer none] := by kernel_rfl
theorem Tryd.tk16 : tk Tryd.prog 16 = 1 := by kernel_rfl
theorem Tryd.co16 : Tryd.prog.cellsOf 16 = 1 := by kernel_rfl
theorem Tryd.zc16 : zcells Tryd.prog 16 = some [.pointer none] := by kernel_rfl
theorem Tryd.tk17 : tk Tryd.prog 17 = 1 := by kernel_rfl
theorem Tryd.co17 : Tryd.prog.cellsOf 17 = 1 := by kernel_rfl
theorem Tryd.zc17 : zcells Tryd.prog 17 = some [.pointer none] := by kernel_rfl
theorem Tryd.tk18 : tk Tryd.prog 18 = 3 := by kernel_rfl
theorem Tryd.co18 : Tryd.prog.cellsOf 18 = 1 := by kernel_rfl
theorem Tryd.fo18_0 : foff Tryd.prog 18 0 = some 0 := by kernel_rfl
theorem Tryd.ff18_0 : ffld Tryd.prog 18 0 = some (0, 1) := by kernel_rfl
theorem Tryd.bz18 : bz Tryd.prog 18 = some ([.pointer none], [(0, 1)]) := by kernel_rfl
theorem Tryd.zc18 : zcells Tryd.prog 18 = some [.pointer none] := by kernel_rfl
theorem Tryd.tk21 : tk Tryd.prog 21 = 1 := by kernel_rfl
theorem Tryd.co21 : Tryd.prog.cellsOf 21 = 1 := by kernel_rfl
theorem Tryd.us21 : (Tryd.prog.underlying 21).isSome = true := by kernel_rfl
theorem Tryd.ik21 : ikind Tryd.prog 21 = some .i32 := by kernel_rfl
theorem Tryd.zc21 : zcells Tryd.prog 21 = some [.int .i32 0] := by kernel_rfl
theorem Tryd.tk22 : tk Tryd.prog 22 = 1 := by kernel_rfl
theorem Tryd.co22 : Tryd.prog.cellsOf 22 = 1 := by kernel_rfl
theorem Tryd.se22 : selt Tryd.prog 22 = some 1 := by kernel_rfl
theorem Tryd.el22 : elemT Tryd.prog 22 = some (5, 1, 1) := by kernel_rfl
theorem Tryd.zc22 : zcells Tryd.prog 22 = some [.slice none 0 0] := by kernel_rfl
theorem Tryd.tk23 : tk Tryd.prog 23 = 1 := by kernel_rfl
theorem Tryd.co23 : Tryd.prog.cellsOf 23 = 1 := by kernel_rfl
theorem Tryd.se23 : selt Tryd.prog 23 = some 3 := by kernel_rfl
theorem Tryd.el23 : elemT Tryd.prog 23 = some (34, 3, 32) := by kernel_rfl
theorem Tryd.zc23 : zcells Tryd.prog 23 = some [.slice none 0 0] := by kernel_rfl
theorem Tryd.tk29 : tk Tryd.prog 29 = 4 := by kernel_rfl
theorem Tryd.co29 : Tryd.prog.cellsOf 29 = 2 := by kernel_rfl
theorem Tryd.fo29_0 : foff Tryd.prog 29 0 = some 0 := by kernel_rfl
theorem Tryd.ff29_0 : ffld Tryd.prog 29 0 = some (0, 1) := by kernel_rfl
theorem Tryd.fo29_1 : foff Tryd.prog 29 1 = some 1 := by kernel_rfl
theorem Tryd.ff29_1 : ffld Tryd.prog 29 1 = some (1, 1) := by kernel_rfl
theorem Tryd.bz29 : bz Tryd.prog 29 = some ([.int .i64 0, .int .i64 0], [(0, 1), (1, 1)]) := by kernel_rfl
theorem Tryd.zc29 : zcells Tryd.prog 29 = some [.int .i64 0, .int .i64 0] := by kernel_rfl
theorem Tryd.tk30 : tk Tryd.prog 30 = 4 := by kernel_rfl
theorem Tryd.co30 : Tryd.prog.cellsOf 30 = 2 := by kernel_rfl
theorem Tryd.fo30_0 : foff Tryd.prog 30 0 = some 0 := by kernel_rfl
theorem Tryd.ff30_0 : ffld Tryd.prog 30 0 = some (0, 1) := by kernel_rfl
theorem Tryd.fo30_1 : foff Tryd.prog 30 1 = some 1 := by kernel_rfl
theorem Tryd.ff30_1 : ffld Tryd.prog 30 1 = some (1, 1) := by kernel_rfl
theorem Tryd.bz30 : bz Tryd.prog 30 = some ([.int .i64 0, .int .i64 0], [(0, 1), (1, 1)]) := by kernel_rfl
theorem Tryd.zc30 : zcells Tryd.prog 30 = some [.int .i64 0, .int .i64 0] := by kernel_rfl
theorem Tryd.eq30 : EqT Tryd.prog 30 [1, 1] := by
  intro xs ys x y w hx hy
  obtain ⟨a0, a1, rfl⟩ := cells_11 hx
  obtain ⟨b0, b1, rfl⟩ := cells_11 hy
  constructor <;> (go_simp; by_cases h0 : a0 = b0 <;> by_cases h1 : a1 = b1 <;> simp [eqCs, eqC, ByteArray.toList_eq, *])
theorem Tryd.tk33 : tk Tryd.prog 33 = 5 := by kernel_rfl
theorem Tryd.co33 : Tryd.prog.cellsOf 33 = 3 := by kernel_rfl
theorem Tryd.fo33_0 : foff Tryd.prog 33 0 = some 0 := by kernel_rfl
theorem Tryd.ff33_0 : ffld Tryd.prog 33 0 = some (0, 1) := by kernel_rfl
theorem Tryd.fo33_1 : foff Tryd.prog 33 1 = some 1 := by kernel_rfl
theorem Tryd.ff33_1 : ffld Tryd.prog 33 1 = some (1, 4) := by kernel_rfl
theorem Tryd.bz33 : bz Tryd.prog 33 = some ([.string ⟨#[]⟩, .int .i64 0, .int .i64 0], [(0, 1), (1, 2)]) := by kernel_rfl
theorem Tryd.zc33 : zcells Tryd.prog 33 = some [.string ⟨#[]⟩, .int .i64 0, .int .i64 0] := by kernel_rfl
theorem Tryd.tk34 : tk Tryd.prog 34 = 5 := by kernel_rfl
theorem Tryd.co34 : Tryd.prog.cellsOf 34 = 3 := by kernel_rfl
theorem Tryd.fo34_0 : foff Tryd.prog 34 0 = some 0 := by kernel_rfl
theorem Tryd.ff34_0 : ffld Tryd.prog 34 0 = some (0, 1) := by kernel_rfl
theorem Tryd.fo34_1 : foff Tryd.prog 34 1 = some 1 := by kernel_rfl
theorem Tryd.ff34_1 : ffld Tryd.prog 34 1 = some (1, 4) := by kernel_rfl
theorem Tryd.bz34 : bz Tryd.prog 34 = some ([.string ⟨#[]⟩, .int .i64 0, .int .i64 0], [(0, 1), (1, 2)]) := by kernel_rfl
theorem Tryd.zc34 : zcells Tryd.prog 34 = some [.string ⟨#[]⟩, .int .i64 0, .int .i64 0] := by kernel_rfl
theorem Tryd.eq34 : EqT Tryd.prog 34 [2, 1, 1] := by
  intro xs ys x y w hx hy
  obtain ⟨a0, a1, a2, rfl⟩ := cells_211 hx
  obtain ⟨b0, b1, b2, rfl⟩ := cells_211 hy
  constructor <;> (go_simp; by_cases h0 : a0.data = b0.data <;> by_cases h1 : a1 = b1 <;> by_cases h2 : a2 = b2 <;> simp [eqCs, eqC, ByteArray.toList_eq, *])
theorem Tryd.tk37 : tk Tryd.prog 37 = 7 := by kernel_rfl
theorem Tryd.co37 : Tryd.prog.cellsOf 37 = 5 := by kernel_rfl
theorem Tryd.fo37_0 : foff Tryd.prog 37 0 = some 0 := by kernel_rfl
theorem Tryd.ff37_0 : ffld Tryd.prog 37 0 = some (0, 1) := by kernel_rfl
theorem Tryd.fo37_1 : foff Tryd.prog 37 1 = some 1 := by kernel_rfl
theorem Tryd.ff37_1 : ffld Tryd.prog 37 1 = some (1, 4) := by kernel_rfl
theorem Tryd.fo37_2 : foff Tryd.prog 37 2 = some 3 := by kernel_rfl
theorem Tryd.ff37_2 : ffld Tryd.prog 37 2 = some (3, 4) := by kernel_rfl
theorem Tryd.bz37 : bz Tryd.prog 37 = some ([.string ⟨#[]⟩, .int .i64 0, .int .i64 0, .int .i64 0, .int .i64 0], [(0, 1), (1, 2), (3, 2)]) := by kernel_rfl
theorem Tryd.zc37 : zcells Tryd.prog 37 = some [.string ⟨#[]⟩, .int .i64 0, .int .i64 0, .int .i64 0, .int .i64 0] := by kernel_rfl
theorem Tryd.tk38 : tk Tryd.prog 38 = 7 := by kernel_rfl
theorem Tryd.co38 : Tryd.prog.cellsOf 38 = 5 := by kernel_rfl
theorem Tryd.fo38_0 : foff Tryd.prog 38 0 = some 0 := by kernel_rfl
theorem Tryd.ff38_0 : ffld Tryd.prog 38 0 = some (0, 1) := by kernel_rfl
theorem Tryd.fo38_1 : foff Tryd.prog 38 1 = some 1 := by kernel_rfl
theorem Tryd.ff38_1 : ffld Tryd.prog 38 1 = some (1, 4) := by kernel_rfl
theorem Tryd.fo38_2 : foff Tryd.prog 38 2 = some 3 := by kernel_rfl
theorem Tryd.ff38_2 : ffld Tryd.prog 38 2 = some (3, 4) := by kernel_rfl
theorem Tryd.bz38 : bz Tryd.prog 38 = some ([.string ⟨#[]⟩, .int .i64 0, .int .i64 0, .int .i64 0, .int .i64 0], [(0, 1), (1, 2), (3, 2)]) := by kernel_rfl
theorem Tryd.zc38 : zcells Tryd.prog 38 = some [.string ⟨#[]⟩, .int .i64 0, .int .i64 0, .int .i64 0, .int .i64 0] := by kernel_rfl
theorem Tryd.eq38 : EqT Tryd.prog 38 [2, 1, 1, 1, 1] := by
  intro xs ys x y w hx hy
  obtain ⟨a0, a1, a2, a3, a4, rfl⟩ := cells_21111 hx
  obtain ⟨b0, b1, b2, b3, b4, rfl⟩ := cells_21111 hy
  constructor <;> (go_simp; by_cases h0 : a0.data = b0.data <;> by_cases h1 : a1 = b1 <;> by_cases h2 : a2 = b2 <;> by_cases h3 : a3 = b3 <;> by_cases h4 : a4 = b4 <;> simp [eqCs, eqC, ByteArray.toList_eq, *])
theorem Tryd.tk44 : tk Tryd.prog 44 = 1 := by kernel_rfl
theorem Tryd.co44 : Tryd.prog.cellsOf 44 = 1 := by kernel_rfl
theorem Tryd.se44 : selt Tryd.prog 44 = some 5 := by kernel_rfl
theorem Tryd.el44 : elemT Tryd.prog 44 = some (38, 5, 48) := by kernel_rfl
theorem Tryd.zc44 : zcells Tryd.prog 44 = some [.slice none 0 0] := by kernel_rfl
theorem Tryd.tk48 : tk Tryd.prog 48 = 1 := by kernel_rfl
theorem Tryd.co48 : Tryd.prog.cellsOf 48 = 1 := by kernel_rfl
theorem Tryd.se48 : selt Tryd.prog 48 = some 1 := by kernel_rfl
theorem Tryd.el48 : elemT Tryd.prog 48 = some (3, 1, 8) := by kernel_rfl
theorem Tryd.zc48 : zcells Tryd.prog 48 = some [.slice none 0 0] := by kernel_rfl
theorem Tryd.tk52 : tk Tryd.prog 52 = 1 := by kernel_rfl
theorem Tryd.co52 : Tryd.prog.cellsOf 52 = 1 := by kernel_rfl
theorem Tryd.se52 : selt Tryd.prog 52 = some 1 := by kernel_rfl
theorem Tryd.el52 : elemT Tryd.prog 52 = some (9, 1, 16) := by kernel_rfl
theorem Tryd.zc52 : zcells Tryd.prog 52 = some [.slice none 0 0] := by kernel_rfl
theorem Tryd.tk60 : tk Tryd.prog 60 = 1 := by kernel_rfl
theorem Tryd.co60 : Tryd.prog.cellsOf 60 = 1 := by kernel_rfl
theorem Tryd.zc60 : zcells Tryd.prog 60 = some [.pointer none] := by kernel_rfl
theorem Tryd.tk81 : tk Tryd.prog 81 = 4 := by kernel_rfl
theorem Tryd.co81 : Tryd.prog.cellsOf 81 = 2 := by kernel_rfl
theorem Tryd.fo81_0 : foff Tryd.prog 81 0 = some 0 := by kernel_rfl
theorem Tryd.ff81_0 : ffld Tryd.prog 81 0 = some (0, 1) := by kernel_rfl
theorem Tryd.fo81_1 : foff Tryd.prog 81 1 = some 1 := by kernel_rfl
theorem Tryd.ff81_1 : ffld Tryd.prog 81 1 = some (1, 1) := by kernel_rfl
theorem Tryd.bz81 : bz Tryd.prog 81 = some ([.slice none 0 0, .int .i64 0], [(0, 1), (1, 1)]) := by kernel_rfl
theorem Tryd.zc81 : zcells Tryd.prog 81 = some [.slice none 0 0, .int .i64 0] := by kernel_rfl
theorem Tryd.tk82 : tk Tryd.prog 82 = 4 := by kernel_rfl
theorem Tryd.co82 : Tryd.prog.cellsOf 82 = 2 := by kernel_rfl
theorem Tryd.fo82_0 : foff Tryd.prog 82 0 = some 0 := by kernel_rfl
theorem Tryd.ff82_0 : ffld Tryd.prog 82 0 = some (0, 1) := by kernel_rfl
theorem Tryd.fo82_1 : foff Tryd.prog 82 1 = some 1 := by kernel_rfl
theorem Tryd.ff82_1 : ffld Tryd.prog 82 1 = some (1, 1) := by kernel_rfl
theorem Tryd.bz82 : bz Tryd.prog 82 = some ([.slice none 0 0, .int .i64 0], [(0, 1), (1, 1)]) := by kernel_rfl
theorem Tryd.zc82 : zcells Tryd.prog 82 = some [.slice none 0 0, .int .i64 0] := by kernel_rfl
theorem Tryd.tk103 : tk Tryd.prog 103 = 1 := by kernel_rfl
theorem Tryd.co103 : Tryd.prog.cellsOf 103 = 1 := by kernel_rfl
theorem Tryd.us103 : (Tryd.prog.underlying 103).isSome = true := by kernel_rfl
theorem Tryd.ik103 : ikind Tryd.prog 103 = some .u64 := by kernel_rfl
theorem Tryd.zc103 : zcells Tryd.prog 103 = some [.int .u64 0] := by kernel_rfl
theorem Tryd.tk105 : tk Tryd.prog 105 = 4 := by kernel_rfl
theorem Tryd.co105 : Tryd.prog.cellsOf 105 = 2 := by kernel_rfl
theorem Tryd.fo105_0 : foff Tryd.prog 105 0 = some 0 := by kernel_rfl
theorem Tryd.ff105_0 : ffld Tryd.prog 105 0 = some (0, 1) := by kernel_rfl
theorem Tryd.fo105_1 : foff Tryd.prog 105 1 = some 1 := by kernel_rfl
theorem Tryd.ff105_1 : ffld Tryd.prog 105 1 = some (1, 1) := by kernel_rfl
theorem Tryd.bz105 : bz Tryd.prog 105 = some ([.int .u8 0, .int .u8 0], [(0, 1), (1, 1)]) := by kernel_rfl
theorem Tryd.zc105 : zcells Tryd.prog 105 = some [.int .u8 0, .int .u8 0] := by kernel_rfl
theorem Tryd.tk108 : tk Tryd.prog 108 = 1 := by kernel_rfl
theorem Tryd.co108 : Tryd.prog.cellsOf 108 = 1 := by kernel_rfl
theorem Tryd.us108 : (Tryd.prog.underlying 108).isSome = true := by kernel_rfl
theorem Tryd.ik108 : ikind Tryd.prog 108 = some .u32 := by kernel_rfl
theorem Tryd.zc108 : zcells Tryd.prog 108 = some [.int .u32 0] := by kernel_rfl
theorem Tryd.tk112 : tk Tryd.prog 112 = 6 := by kernel_rfl
theorem Tryd.co112 : Tryd.prog.cellsOf 112 = 4 := by kernel_rfl
theorem Tryd.fo112_0 : foff Tryd.prog 112 0 = some 0 := by kernel_rfl
theorem Tryd.ff112_0 : ffld Tryd.prog 112 0 = some (0, 1) := by kernel_rfl
theorem Tryd.fo112_1 : foff Tryd.prog 112 1 = some 1 := by kernel_rfl
theorem Tryd.ff112_1 : ffld Tryd.prog 112 1 = some (1, 1) := by kernel_rfl
theorem Tryd.fo112_2 : foff Tryd.prog 112 2 = some 2 := by kernel_rfl
theorem Tryd.ff112_2 : ffld Tryd.prog 112 2 = some (2, 1) := by kernel_rfl
theorem Tryd.fo112_3 : foff Tryd.prog 112 3 = some 3 := by kernel_rfl
theorem Tryd.ff112_3 : ffld Tryd.prog 112 3 = some (3, 1) := by kernel_rfl
theorem Tryd.bz112 : bz Tryd.prog 112 = some ([.pointer none, .pointer none, .pointer none, .string ⟨#[]⟩], [(0, 1), (1, 1), (2, 1), (3, 1)]) := by kernel_rfl
theorem Tryd.zc112 : zcells Tryd.prog 112 = some [.pointer none, .pointer none, .pointer none, .string ⟨#[]⟩] := by kernel_rfl
theorem Tryd.tk115 : tk Tryd.prog 115 = 2 := by kernel_rfl
theorem Tryd.co115 : Tryd.prog.cellsOf 115 = 0 := by kernel_rfl
theorem Tryd.ff115_0 : ffld Tryd.prog 115 0 = some (0, 2) := by kernel_rfl
theorem Tryd.bz115 : bz Tryd.prog 115 = some ([], [(0, 0)]) := by kernel_rfl
theorem Tryd.zc115 : zcells Tryd.prog 115 = some [] := by kernel_rfl
theorem Tryd.tk121 : tk Tryd.prog 121 = 1 := by kernel_rfl
theorem Tryd.co121 : Tryd.prog.cellsOf 121 = 1 := by kernel_rfl
theorem Tryd.zc121 : zcells Tryd.prog 121 = some [.pointer none] := by kernel_rfl
theorem Tryd.tk124 : tk Tryd.prog 124 = 13 := by kernel_rfl
theorem Tryd.co124 : Tryd.prog.cellsOf 124 = 11 := by kernel_rfl
theorem Tryd.fo124_0 : foff Tryd.prog 124 0 = some 0 := by kernel_rfl
theorem Tryd.ff124_0 : ffld Tryd.prog 124 0 = some (0, 1) := by kernel_rfl
theorem Tryd.fo124_1 : foff Tryd.prog 124 1 = some 1 := by kernel_rfl
theorem Tryd.ff124_1 : ffld Tryd.prog 124 1 = some (1, 1) := by kernel_rfl
theorem Tryd.fo124_2 : foff Tryd.prog 124 2 = some 2 := by kernel_rfl
theorem Tryd.ff124_2 : ffld Tryd.prog 124 2 = some (2, 1) := by kernel_rfl
theorem Tryd.fo124_3 : foff Tryd.prog 124 3 = some 3 := by kernel_rfl
theorem Tryd.ff124_3 : ffld Tryd.prog 124 3 = some (3, 1) := by kernel_rfl
theorem Tryd.fo124_4 : foff Tryd.prog 124 4 = some 4 := by kernel_rfl
theorem Tryd.ff124_4 : ffld Tryd.prog 124 4 = some (4, 1) := by kernel_rfl
theorem Tryd.fo124_5 : foff Tryd.prog 124 5 = some 5 := by kernel_rfl
theorem Tryd.ff124_5 : ffld Tryd.prog 124 5 = some (5, 1) := by kernel_rfl
theorem Tryd.fo124_6 : foff Tryd.prog 124 6 = some 6 := by kernel_rfl
theorem Tryd.ff124_6 : ffld Tryd.prog 124 6 = some (6, 1) := by kernel_rfl
theorem Tryd.fo124_8 : foff Tryd.prog 124 8 = some 8 := by kernel_rfl
theorem Tryd.ff124_8 : ffld Tryd.prog 124 8 = some (8, 1) := by kernel_rfl
theorem Tryd.fo124_9 : foff Tryd.prog 124 9 = some 9 := by kernel_rfl
theorem Tryd.ff124_9 : ffld Tryd.prog 124 9 = some (9, 1) := by kernel_rfl
theorem Tryd.fo124_10 : foff Tryd.prog 124 10 = some 10 := by kernel_rfl
theorem Tryd.ff124_10 : ffld Tryd.prog 124 10 = some (10, 1) := by kernel_rfl

attribute [push_cast] Tryd.tk2 Tryd.co2 Tryd.us2 Tryd.ik2 Tryd.zc2 Tryd.tk3 Tryd.co3 Tryd.us3 Tryd.ik3 Tryd.zc3 Tryd.tk4 Tryd.co4 Tryd.zc4 Tryd.tk5 Tryd.co5 Tryd.us5 Tryd.ik5 Tryd.zc5 Tryd.tk7 Tryd.co7 Tryd.fo7_0 Tryd.ff7_0 Tryd.fo7_1 Tryd.ff7_1 Tryd.fo7_2 Tryd.ff7_2 Tryd.fo7_3 Tryd.ff7_3 Tryd.bz7 Tryd.zc7 Tryd.tk9 Tryd.co9 Tryd.us9 Tryd.is9 Tryd.zc9 Tryd.tk12 Tryd.co12 Tryd.us12 Tryd.ik12 Tryd.zc12 Tryd.tk13 Tryd.co13 Tryd.fo13_0 Tryd.ff13_0 Tryd.fo13_1 Tryd.ff13_1 Tryd.bz13 Tryd.zc13 Tryd.tk15 Tryd.co15 Tryd.zc15 Tryd.tk16 Tryd.co16 Tryd.zc16 Tryd.tk17 Tryd.co17 Tryd.zc17 Tryd.tk18 Tryd.co18 Tryd.fo18_0 Tryd.ff18_0 Tryd.bz18 Tryd.zc18 Tryd.tk21 Tryd.co21 Tryd.us21 Tryd.ik21 Tryd.zc21 Tryd.tk22 Tryd.co22 Tryd.se22 Tryd.el22 Tryd.zc22 Tryd.tk23 Tryd.co23 Tryd.se23 Tryd.el23 Tryd.zc23 Tryd.tk29 Tryd.co29 Tryd.fo29_0 Tryd.ff29_0 Tryd.fo29_1 Tryd.ff29_1 Tryd.bz29 Tryd.zc29 Tryd.tk30 Tryd.co30 Tryd.fo30_0 Tryd.ff30_0 Tryd.fo30_1 Tryd.ff30_1 Tryd.bz30 Tryd.zc30 Tryd.eq30 Tryd.tk33 Tryd.co33 Tryd.fo33_0 Tryd.ff33_0 Tryd.fo33_1 Tryd.ff33_1 Tryd.bz33 Tryd.zc33 Tryd.tk34 Tryd.co34 Tryd.fo34_0 Tryd.ff34_0 Tryd.fo34_1 Tryd.ff34_1 Tryd.bz34 Tryd.zc34 Tryd.eq34 Tryd.tk37 Tryd.co37 Tryd.fo37_0 Tryd.ff37_0 Tryd.fo37_1 Tryd.ff37_1 Tryd.fo37_2 Tryd.ff37_2 Tryd.bz37 Tryd.zc37 Tryd.tk38 Tryd.co38 Tryd.fo38_0 Tryd.ff38_0 Tryd.fo38_1 Tryd.ff38_1 Tryd.fo38_2 Tryd.ff38_2 Tryd.bz38 Tryd.zc38 Tryd.eq38 Tryd.tk44 Tryd.co44 Tryd.se44 Tryd.el44 Tryd.zc44 Tryd.tk48 Tryd.co48 Tryd.se48 Tryd.el48 Tryd.zc48 Tryd.tk52 Tryd.co52 Tryd.se52 Tryd.el52 Tryd.zc52 Tryd.tk60 Tryd.co60 Tryd.zc60 Tryd.tk81 Tryd.co81 Tryd.fo81_0 Tryd.ff81_0 Tryd.fo81_1 Tryd.ff81_1 Tryd.bz81 Tryd.zc81 Tryd.tk82 Tryd.co82 Tryd.fo82_0 Tryd.ff82_0 Tryd.fo82_1 Tryd.ff82_1 Tryd.bz82 Tryd.zc82 Tryd.tk103 Tryd.co103 Tryd.us103 Tryd.ik103 Tryd.zc103 Tryd.tk105 Tryd.co105 Tryd.fo105_0 Tryd.ff105_0 Tryd.fo105_1 Tryd.ff105_1 Tryd.bz105 Tryd.zc105 Tryd.tk108 Tryd.co108 Tryd.us108 Tryd.ik108 Tryd.zc108 Tryd.tk112 Tryd.co112 Tryd.fo112_0 Tryd.ff112_0 Tryd.fo112_1 Tryd.ff112_1 Tryd.fo112_2 Tryd.ff112_2 Tryd.fo112_3 Tryd.ff112_3 Tryd.bz112 Tryd.zc112 Tryd.tk115 Tryd.co115 Tryd.ff115_0 Tryd.bz115 Tryd.zc115 Tryd.tk121 Tryd.co121 Tryd.zc121 Tryd.tk124 Tryd.co124 Tryd.fo124_0 Tryd.ff124_0 Tryd.fo124_1 Tryd.ff124_1 Tryd.fo124_2 Tryd.ff124_2 Tryd.fo124_3 Tryd.ff124_3 Tryd.fo124_4 Tryd.ff124_4 Tryd.fo124_5 Tryd.ff124_5 Tryd.fo124_6 Tryd.ff124_6 Tryd.fo124_8 Tryd.ff124_8 Tryd.fo124_9 Tryd.ff124_9 Tryd.fo124_10 Tryd.ff124_10 Tryd.underlying4 Tryd.results3 Tryd.results4 Tryd.results5 Tryd.results6 Tryd.results7 Tryd.results8 Tryd.results9 Tryd.results10 Tryd.results11 Tryd.results12 Tryd.results13 Tryd.results14 Tryd.results15 Tryd.results16 Tryd.results17 Tryd.results18 Tryd.results19 Tryd.results20 Tryd.results21 Tryd.results22 Tryd.results23 Tryd.results24 Tryd.results25 Tryd.results26 Tryd.results27 Tryd.results28 Tryd.results29 Tryd.results30 Tryd.results31 Tryd.results32 Tryd.results33 Tryd.results34 Tryd.results35 Tryd.results36 Tryd.results37 Tryd.results38 Tryd.results39 Tryd.results40 Tryd.results41 Tryd.results42 Tryd.results43 Tryd.results44 Tryd.results45 Tryd.results46 Tryd.results47 Tryd.results48 Tryd.results49 Tryd.results50 Tryd.results51 Tryd.results52 Tryd.results53 Tryd.results54 Tryd.results55 Tryd.results56 Tryd.results57 Tryd.results58 Tryd.results59 Tryd.results60 Tryd.results61 Tryd.results62 Tryd.results63 Tryd.results64 Tryd.results65 Tryd.results66 Tryd.results67 Tryd.results68 Tryd.results69 Tryd.results70 Tryd.results71 Tryd.results72 Tryd.results73 Tryd.results74 Tryd.results75 Tryd.results76 Tryd.results77 Tryd.results78 Tryd.results79 Tryd.results80 Tryd.results81 Tryd.results82 Tryd.results83 Tryd.results84 Tryd.results85 Tryd.results86 Tryd.results87 Tryd.results88 Tryd.results89 Tryd.results90 Tryd.results91 Tryd.results92 Tryd.results93 Tryd.results94 Tryd.results95 Tryd.results96 Tryd.results97 Tryd.results98 Tryd.results99 Tryd.results100 Tryd.results101 Tryd.results102 Tryd.results103 Tryd.results104 Tryd.results105 Tryd.results106 Tryd.results107 Tryd.results108 Tryd.results109 Tryd.results110 Tryd.results111 Tryd.results112 Tryd.results113 Tryd.results114 Tryd.results115 Tryd.results128 Tryd.results129 Tryd.results130 Tryd.results131 Tryd.results132 Tryd.results133 Tryd.results134 Tryd.results135 Tryd.results136 Tryd.results137

end Go.Proofs.YtbkhnnohogcbjaaDoor
