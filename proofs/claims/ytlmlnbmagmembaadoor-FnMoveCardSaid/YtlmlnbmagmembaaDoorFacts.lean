/-
  The closed facts on the types of this seat (printed by facts.py): tk, foff, ffld, bz, zcells, elemT, EqT and their kin. Conditions: none.
-/
import Derived.Test.YtlmlnbmagmembaaDoorCoreB
import Derived.Test.YtlmlnbmagmembaaDoorRows
set_option linter.unusedSimpArgs false
set_option linter.unusedVariables false
namespace Go.Proofs.YtlmlnbmagmembaaDoor
open Go Go.RowKit

theorem kind_1 {x : Value} (h : kindOf x = 1) : ∃ a, x = .int .i64 a := by
  unfold kindOf at h
  split at h <;> first | exact ⟨_, rfl⟩ | (simp at h)
theorem kind_2 {x : Value} (h : kindOf x = 2) : ∃ a, x = .string a := by
  unfold kindOf at h
  split at h <;> first | exact ⟨_, rfl⟩ | (simp at h)

theorem cells_11 {xs : Array Value} (h : xs.toList.map kindOf = [1, 1]) : ∃ (a0 : Int) (a1 : Int), xs = #[.int .i64 a0, .int .i64 a1] := by
  obtain ⟨l⟩ := xs
  simp only at h
  rcases l with _ | ⟨x0, l⟩
  · simp at h
  rcases l with _ | ⟨x1, l⟩
  · simp at h
  rcases l with _ | ⟨y, l⟩
  rotate_left
  · simp at h
  simp only [List.map_cons, List.map_nil, List.cons.injEq, and_true] at h
  obtain ⟨h0, h1⟩ := h
  obtain ⟨a0, rfl⟩ := kind_1 h0
  obtain ⟨a1, rfl⟩ := kind_1 h1
  exact ⟨a0, a1, rfl⟩

theorem cells_211 {xs : Array Value} (h : xs.toList.map kindOf = [2, 1, 1]) : ∃ (a0 : ByteArray) (a1 : Int) (a2 : Int), xs = #[.string a0, .int .i64 a1, .int .i64 a2] := by
  obtain ⟨l⟩ := xs
  simp only at h
  rcases l with _ | ⟨x0, l⟩
  · simp at h
  rcases l with _ | ⟨x1, l⟩
  · simp at h
  rcases l with _ | ⟨x2, l⟩
  · simp at h
  rcases l with _ | ⟨y, l⟩
  rotate_left
  · simp at h
  simp only [List.map_cons, List.map_nil, List.cons.injEq, and_true] at h
  obtain ⟨h0, h1, h2⟩ := h
  obtain ⟨a0, rfl⟩ := kind_2 h0
  obtain ⟨a1, rfl⟩ := kind_1 h1
  obtain ⟨a2, rfl⟩ := kind_1 h2
  exact ⟨a0, a1, a2, rfl⟩

theorem cells_21111 {xs : Array Value} (h : xs.toList.map kindOf = [2, 1, 1, 1, 1]) : ∃ (a0 : ByteArray) (a1 : Int) (a2 : Int) (a3 : Int) (a4 : Int), xs = #[.string a0, .int .i64 a1, .int .i64 a2, .int .i64 a3, .int .i64 a4] := by
  obtain ⟨l⟩ := xs
  simp only at h
  rcases l with _ | ⟨x0, l⟩
  · simp at h
  rcases l with _ | ⟨x1, l⟩
  · simp at h
  rcases l with _ | ⟨x2, l⟩
  · simp at h
  rcases l with _ | ⟨x3, l⟩
  · simp at h
  rcases l with _ | ⟨x4, l⟩
  · simp at h
  rcases l with _ | ⟨y, l⟩
  rotate_left
  · simp at h
  simp only [List.map_cons, List.map_nil, List.cons.injEq, and_true] at h
  obtain ⟨h0, h1, h2, h3, h4⟩ := h
  obtain ⟨a0, rfl⟩ := kind_2 h0
  obtain ⟨a1, rfl⟩ := kind_1 h1
  obtain ⟨a2, rfl⟩ := kind_1 h2
  obtain ⟨a3, rfl⟩ := kind_1 h3
  obtain ⟨a4, rfl⟩ := kind_1 h4
  exact ⟨a0, a1, a2, a3, a4, rfl⟩

theorem Tryd.tk2 : tk Tryd.prog 2 = 1 := by kernel_rfl
theorem Tryd.co2 : Tryd.prog.cellsOf 2 = 1 := by kernel_rfl
theorem Tryd.us2 : (Tryd.prog.underlying 2).isSome = true := by kernel_rfl
theorem Tryd.ik2 : ikind Tryd.prog 2 = some .i64 := by kernel_rfl
theorem Tryd.zc2 : zcells Tryd.prog 2 = some [.int .i64 0] := by kernel_rfl
theorem Tryd.tk3 : tk Tryd.prog 3 = 1 := by kernel_rfl
theorem Tryd.co3 : Tryd.prog.cellsOf 3 = 1 := by kernel_rfl
theorem Tryd.us3 : (Tryd.prog.underlying 3).isSome = true := by kernel_rfl
theorem Tryd.ik3 : ikind Tryd.prog 3 = some .i64 := by kernel_rfl
theorem Tryd.zc3 : zcells Tryd.prog 3 = some [.int .i64 0] := by kernel_rfl
theorem Tryd.tk4 : tk Tryd.prog 4 = 1 := by kernel_rfl
theorem Tryd.co4 : Tryd.prog.cellsOf 4 = 1 := by kernel_rfl
theorem Tryd.zc4 : zcells Tryd.prog 4 = some [.bool false] := by kernel_rfl
theorem Tryd.tk5 : tk Tryd.prog 5 = 1 := by kernel_rfl
theorem Tryd.co5 : Tryd.prog.cellsOf 5 = 1 := by kernel_rfl
theorem Tryd.us5 : (Tryd.prog.underlying 5).isSome = true := by kernel_rfl
theorem Tryd.ik5 : ikind Tryd.prog 5 = some .u8 := by kernel_rfl
theorem Tryd.zc5 : zcells Tryd.prog 5 = some [.int .u8 0] := by kernel_rfl
theorem Tryd.tk7 : tk Tryd.prog 7 = 6 := by kernel_rfl
theorem Tryd.co7 : Tryd.prog.cellsOf 7 = 4 := by kernel_rfl
theorem Tryd.fo7_0 : foff Tryd.prog 7 0 = some 0 := by kernel_rfl
theorem Tryd.ff7_0 : ffld Tryd.prog 7 0 = some (0, 1) := by kernel_rfl
theorem Tryd.fo7_1 : foff Tryd.prog 7 1 = some 1 := by kernel_rfl
theorem Tryd.ff7_1 : ffld Tryd.prog 7 1 = some (1, 1) := by kernel_rfl
theorem Tryd.fo7_2 : foff Tryd.prog 7 2 = some 2 := by kernel_rfl
theorem Tryd.ff7_2 : ffld Tryd.prog 7 2 = some (2, 1) := by kernel_rfl
theorem Tryd.fo7_3 : foff Tryd.prog 7 3 = some 3 := by kernel_rfl
theorem Tryd.ff7_3 : ffld Tryd.prog 7 3 = some (3, 1) := by kernel_rfl
theorem Tryd.bz7 : bz Tryd.prog 7 = some ([.int .i64 0, .int .i64 0, .bool false, .int .u8 0], [(0, 1), (1, 1), (2, 1), (3, 1)]) := by kernel_rfl
theorem Tryd.zc7 : zcells Tryd.prog 7 = some [.int .i64 0, .int .i64 0, .bool false, .int .u8 0] := by kernel_rfl
theorem Tryd.tk9 : tk Tryd.prog 9 = 1 := by kernel_rfl
theorem Tryd.co9 : Tryd.prog.cellsOf 9 = 1 := by kernel_rfl
theorem Tryd.us9 : (Tryd.prog.underlying 9).isSome = true := by kernel_rfl
theorem Tryd.is9 : isStr Tryd.prog 9 = true := by kernel_rfl
theorem Tryd.zc9 : zcells Tryd.prog 9 = some [.string ⟨#[]⟩] := by kernel_rfl
theorem Tryd.tk12 : tk Tryd.prog 12 = 1 := by kernel_rfl
theorem Tryd.co12 : Tryd.prog.cellsOf 12 = 1 := by kernel_rfl
theorem Tryd.us12 : (Tryd.prog.underlying 12).isSome = true := by kernel_rfl
theorem Tryd.ik12 : ikind Tryd.prog 12 = some .u64 := by kernel_rfl
theorem Tryd.zc12 : zcells Tryd.prog 12 = some [.int .u64 0] := by kernel_rfl
theorem Tryd.tk13 : tk Tryd.prog 13 = 4 := by kernel_rfl
theorem Tryd.co13 : Tryd.prog.cellsOf 13 = 2 := by kernel_rfl
theorem Tryd.fo13_0 : foff Tryd.prog 13 0 = some 0 := by kernel_rfl
theorem Tryd.ff13_0 : ffld Tryd.prog 13 0 = some (0, 1) := by kernel_rfl
theorem Tryd.fo13_1 : foff Tryd.prog 13 1 = some 1 := by kernel_rfl
theorem Tryd.ff13_1 : ffld Tryd.prog 13 1 = some (1, 1) := by kernel_rfl
theorem Tryd.bz13 : bz Tryd.prog 13 = some ([.string ⟨#[]⟩, .int .u64 0], [(0, 1), (1, 1)]) := by kernel_rfl
theorem Tryd.zc13 : zcells Tryd.prog 13 = some [.string ⟨#[]⟩, .int .u64 0] := by kernel_rfl
theorem Tryd.tk15 : tk Tryd.prog 15 = 1 := by kernel_rfl
theorem Tryd.co15 : Tryd.prog.cellsOf 15 = 1 := by kernel_rfl
theorem Tryd.zc15 : zcells Tryd.prog 15 = some [.pointer none] := by kernel_rfl
theorem Tryd.tk16 : tk Tryd.prog 16 = 1 := by kernel_rfl
theorem Tryd.co16 : Tryd.prog.cellsOf 16 = 1 := by kernel_rfl
theorem Tryd.zc16 : zcells Tryd.prog 16 = some [.pointer none] := by kernel_rfl
theorem Tryd.tk17 : tk Tryd.prog 17 = 1 := by kernel_rfl
theorem Tryd.co17 : Tryd.prog.cellsOf 17 = 1 := by kernel_rfl
theorem Tryd.zc17 : zcells Tryd.prog 17 = some [.pointer none] := by kernel_rfl
theorem Tryd.tk18 : tk Tryd.prog 18 = 3 := by kernel_rfl
theorem Tryd.co18 : Tryd.prog.cellsOf 18 = 1 := by kernel_rfl
theorem Tryd.fo18_0 : foff Tryd.prog 18 0 = some 0 := by kernel_rfl
theorem Tryd.ff18_0 : ffld Tryd.prog 18 0 = some (0, 1) := by kernel_rfl
theorem Tryd.bz18 : bz Tryd.prog 18 = some ([.pointer none], [(0, 1)]) := by kernel_rfl
theorem Tryd.zc18 : zcells Tryd.prog 18 = some [.pointer none] := by kernel_rfl
theorem Tryd.tk21 : tk Tryd.prog 21 = 1 := by kernel_rfl
theorem Tryd.co21 : Tryd.prog.cellsOf 21 = 1 := by kernel_rfl
theorem Tryd.us21 : (Tryd.prog.underlying 21).isSome = true := by kernel_rfl
theorem Tryd.ik21 : ikind Tryd.prog 21 = some .i32 := by kernel_rfl
theorem Tryd.zc21 : zcells Tryd.prog 21 = some [.int .i32 0] := by kernel_rfl
theorem Tryd.tk22 : tk Tryd.prog 22 = 1 := by kernel_rfl
theorem Tryd.co22 : Tryd.prog.cellsOf 22 = 1 := by kernel_rfl
theorem Tryd.se22 : selt Tryd.prog 22 = some 1 := by kernel_rfl
theorem Tryd.el22 : elemT Tryd.prog 22 = some (5, 1, 1) := by kernel_rfl
theorem Tryd.zc22 : zcells Tryd.prog 22 = some [.slice none 0 0] := by kernel_rfl
theorem Tryd.tk23 : tk Tryd.prog 23 = 1 := by kernel_rfl
theorem Tryd.co23 : Tryd.prog.cellsOf 23 = 1 := by kernel_rfl
theorem Tryd.se23 : selt Tryd.prog 23 = some 3 := by kernel_rfl
theorem Tryd.el23 : elemT Tryd.prog 23 = some (33, 3, 32) := by kernel_rfl
theorem Tryd.zc23 : zcells Tryd.prog 23 = some [.slice none 0 0] := by kernel_rfl
theorem Tryd.tk25 : tk Tryd.prog 25 = 1 := by kernel_rfl
theorem Tryd.co25 : Tryd.prog.cellsOf 25 = 1 := by kernel_rfl
theorem Tryd.se25 : selt Tryd.prog 25 = some 1 := by kernel_rfl
theorem Tryd.el25 : elemT Tryd.prog 25 = some (3, 1, 8) := by kernel_rfl
theorem Tryd.zc25 : zcells Tryd.prog 25 = some [.slice none 0 0] := by kernel_rfl
theorem Tryd.tk30 : tk Tryd.prog 30 = 4 := by kernel_rfl
theorem Tryd.co30 : Tryd.prog.cellsOf 30 = 2 := by kernel_rfl
theorem Tryd.fo30_0 : foff Tryd.prog 30 0 = some 0 := by kernel_rfl
theorem Tryd.ff30_0 : ffld Tryd.prog 30 0 = some (0, 1) := by kernel_rfl
theorem Tryd.fo30_1 : foff Tryd.prog 30 1 = some 1 := by kernel_rfl
theorem Tryd.ff30_1 : ffld Tryd.prog 30 1 = some (1, 1) := by kernel_rfl
theorem Tryd.bz30 : bz Tryd.prog 30 = some ([.int .i64 0, .int .i64 0], [(0, 1), (1, 1)]) := by kernel_rfl
theorem Tryd.zc30 : zcells Tryd.prog 30 = some [.int .i64 0, .int .i64 0] := by kernel_rfl
theorem Tryd.tk31 : tk Tryd.prog 31 = 4 := by kernel_rfl
theorem Tryd.co31 : Tryd.prog.cellsOf 31 = 2 := by kernel_rfl
theorem Tryd.fo31_0 : foff Tryd.prog 31 0 = some 0 := by kernel_rfl
theorem Tryd.ff31_0 : ffld Tryd.prog 31 0 = some (0, 1) := by kernel_rfl
theorem Tryd.fo31_1 : foff Tryd.prog 31 1 = some 1 := by kernel_rfl
theorem Tryd.ff31_1 : ffld Tryd.prog 31 1 = some (1, 1) := by kernel_rfl
theorem Tryd.bz31 : bz Tryd.prog 31 = some ([.int .i64 0, .int .i64 0], [(0, 1), (1, 1)]) := by kernel_rfl
theorem Tryd.zc31 : zcells Tryd.prog 31 = some [.int .i64 0, .int .i64 0] := by kernel_rfl
theorem Tryd.eq31 : EqT Tryd.prog 31 [1, 1] := by
  intro xs ys x y w hx hy
  obtain ⟨a0, a1, rfl⟩ := cells_11 hx
  obtain ⟨b0, b1, rfl⟩ := cells_11 hy
  constructor <;> (go_simp; by_cases h0 : a0 = b0 <;> by_cases h1 : a1 = b1 <;> simp [eqCs, eqC, ByteArray.toList_eq, *])
theorem Tryd.tk32 : tk Tryd.prog 32 = 5 := by kernel_rfl
theorem Tryd.co32 : Tryd.prog.cellsOf 32 = 3 := by kernel_rfl
theorem Tryd.fo32_0 : foff Tryd.prog 32 0 = some 0 := by kernel_rfl
theorem Tryd.ff32_0 : ffld Tryd.prog 32 0 = some (0, 1) := by kernel_rfl
theorem Tryd.fo32_1 : foff Tryd.prog 32 1 = some 1 := by kernel_rfl
theorem Tryd.ff32_1 : ffld Tryd.prog 32 1 = some (1, 4) := by kernel_rfl
theorem Tryd.bz32 : bz Tryd.prog 32 = some ([.string ⟨#[]⟩, .int .i64 0, .int .i64 0], [(0, 1), (1, 2)]) := by kernel_rfl
theorem Tryd.zc32 : zcells Tryd.prog 32 = some [.string ⟨#[]⟩, .int .i64 0, .int .i64 0] := by kernel_rfl
theorem Tryd.tk33 : tk Tryd.prog 33 = 5 := by kernel_rfl
theorem Tryd.co33 : Tryd.prog.cellsOf 33 = 3 := by kernel_rfl
theorem Tryd.fo33_0 : foff Tryd.prog 33 0 = some 0 := by kernel_rfl
theorem Tryd.ff33_0 : ffld Tryd.prog 33 0 = some (0, 1) := by kernel_rfl
theorem Tryd.fo33_1 : foff Tryd.prog 33 1 = some 1 := by kernel_rfl
theorem Tryd.ff33_1 : ffld Tryd.prog 33 1 = some (1, 4) := by kernel_rfl
theorem Tryd.bz33 : bz Tryd.prog 33 = some ([.string ⟨#[]⟩, .int .i64 0, .int .i64 0], [(0, 1), (1, 2)]) := by kernel_rfl
theorem Tryd.zc33 : zcells Tryd.prog 33 = some [.string ⟨#[]⟩, .int .i64 0, .int .i64 0] := by kernel_rfl
theorem Tryd.eq33 : EqT Tryd.prog 33 [2, 1, 1] := by
  intro xs ys x y w hx hy
  obtain ⟨a0, a1, a2, rfl⟩ := cells_211 hx
  obtain ⟨b0, b1, b2, rfl⟩ := cells_211 hy
  constructor <;> (go_simp; by_cases h0 : a0.data = b0.data <;> by_cases h1 : a1 = b1 <;> by_cases h2 : a2 = b2 <;> simp [eqCs, eqC, ByteArray.toList_eq, *])
theorem Tryd.tk35 : tk Tryd.prog 35 = 1 := by kernel_rfl
theorem Tryd.co35 : Tryd.prog.cellsOf 35 = 1 := by kernel_rfl
theorem Tryd.se35 : selt Tryd.prog 35 = some 5 := by kernel_rfl
theorem Tryd.el35 : elemT Tryd.prog 35 = some (45, 5, 48) := by kernel_rfl
theorem Tryd.zc35 : zcells Tryd.prog 35 = some [.slice none 0 0] := by kernel_rfl
theorem Tryd.tk44 : tk Tryd.prog 44 = 7 := by kernel_rfl
theorem Tryd.co44 : Tryd.prog.cellsOf 44 = 5 := by kernel_rfl
theorem Tryd.fo44_0 : foff Tryd.prog 44 0 = some 0 := by kernel_rfl
theorem Tryd.ff44_0 : ffld Tryd.prog 44 0 = some (0, 1) := by kernel_rfl
theorem Tryd.fo44_1 : foff Tryd.prog 44 1 = some 1 := by kernel_rfl
theorem Tryd.ff44_1 : ffld Tryd.prog 44 1 = some (1, 4) := by kernel_rfl
theorem Tryd.fo44_2 : foff Tryd.prog 44 2 = some 3 := by kernel_rfl
theorem Tryd.ff44_2 : ffld Tryd.prog 44 2 = some (3, 4) := by kernel_rfl
theorem Tryd.bz44 : bz Tryd.prog 44 = some ([.string ⟨#[]⟩, .int .i64 0, .int .i64 0, .int .i64 0, .int .i64 0], [(0, 1), (1, 2), (3, 2)]) := by kernel_rfl
theorem Tryd.zc44 : zcells Tryd.prog 44 = some [.string ⟨#[]⟩, .int .i64 0, .int .i64 0, .int .i64 0, .int .i64 0] := by kernel_rfl
theorem Tryd.tk45 : tk Tryd.prog 45 = 7 := by kernel_rfl
theorem Tryd.co45 : Tryd.prog.cellsOf 45 = 5 := by kernel_rfl
theorem Tryd.fo45_0 : foff Tryd.prog 45 0 = some 0 := by kernel_rfl
theorem Tryd.ff45_0 : ffld Tryd.prog 45 0 = some (0, 1) := by kernel_rfl
theorem Tryd.fo45_1 : foff Tryd.prog 45 1 = some 1 := by kernel_rfl
theorem Tryd.ff45_1 : ffld Tryd.prog 45 1 = some (1, 4) := by kernel_rfl
theorem Tryd.fo45_2 : foff Tryd.prog 45 2 = some 3 := by kernel_rfl
theorem Tryd.ff45_2 : ffld Tryd.prog 45 2 = some (3, 4) := by kernel_rfl
theorem Tryd.bz45 : bz Tryd.prog 45 = some ([.string ⟨#[]⟩, .int .i64 0, .int .i64 0, .int .i64 0, .int .i64 0], [(0, 1), (1, 2), (3, 2)]) := by kernel_rfl
theorem Tryd.zc45 : zcells Tryd.prog 45 = some [.string ⟨#[]⟩, .int .i64 0, .int .i64 0, .int .i64 0, .int .i64 0] := by kernel_rfl
theorem Tryd.eq45 : EqT Tryd.prog 45 [2, 1, 1, 1, 1] := by
  intro xs ys x y w hx hy
  obtain ⟨a0, a1, a2, a3, a4, rfl⟩ := cells_21111 hx
  obtain ⟨b0, b1, b2, b3, b4, rfl⟩ := cells_21111 hy
  constructor <;> (go_simp; by_cases h0 : a0.data = b0.data <;> by_cases h1 : a1 = b1 <;> by_cases h2 : a2 = b2 <;> by_cases h3 : a3 = b3 <;> by_cases h4 : a4 = b4 <;> simp [eqCs, eqC, ByteArray.toList_eq, *])
theorem Tryd.tk47 : tk Tryd.prog 47 = 1 := by kernel_rfl
theorem Tryd.co47 : Tryd.prog.cellsOf 47 = 1 := by kernel_rfl
theorem Tryd.se47 : selt Tryd.prog 47 = some 1 := by kernel_rfl
theorem Tryd.el47 : elemT Tryd.prog 47 = some (9, 1, 16) := by kernel_rfl
theorem Tryd.zc47 : zcells Tryd.prog 47 = some [.slice none 0 0] := by kernel_rfl
theorem Tryd.tk68 : tk Tryd.prog 68 = 1 := by kernel_rfl
theorem Tryd.co68 : Tryd.prog.cellsOf 68 = 1 := by kernel_rfl
theorem Tryd.zc68 : zcells Tryd.prog 68 = some [.pointer none] := by kernel_rfl
theorem Tryd.tk90 : tk Tryd.prog 90 = 1 := by kernel_rfl
theorem Tryd.co90 : Tryd.prog.cellsOf 90 = 1 := by kernel_rfl
theorem Tryd.se90 : selt Tryd.prog 90 = some 1 := by kernel_rfl
theorem Tryd.el90 : elemT Tryd.prog 90 = some (4, 1, 1) := by kernel_rfl
theorem Tryd.zc90 : zcells Tryd.prog 90 = some [.slice none 0 0] := by kernel_rfl
theorem Tryd.tk96 : tk Tryd.prog 96 = 4 := by kernel_rfl
theorem Tryd.co96 : Tryd.prog.cellsOf 96 = 2 := by kernel_rfl
theorem Tryd.fo96_0 : foff Tryd.prog 96 0 = some 0 := by kernel_rfl
theorem Tryd.ff96_0 : ffld Tryd.prog 96 0 = some (0, 1) := by kernel_rfl
theorem Tryd.fo96_1 : foff Tryd.prog 96 1 = some 1 := by kernel_rfl
theorem Tryd.ff96_1 : ffld Tryd.prog 96 1 = some (1, 1) := by kernel_rfl
theorem Tryd.bz96 : bz Tryd.prog 96 = some ([.slice none 0 0, .int .i64 0], [(0, 1), (1, 1)]) := by kernel_rfl
theorem Tryd.zc96 : zcells Tryd.prog 96 = some [.slice none 0 0, .int .i64 0] := by kernel_rfl
theorem Tryd.tk97 : tk Tryd.prog 97 = 4 := by kernel_rfl
theorem Tryd.co97 : Tryd.prog.cellsOf 97 = 2 := by kernel_rfl
theorem Tryd.fo97_0 : foff Tryd.prog 97 0 = some 0 := by kernel_rfl
theorem Tryd.ff97_0 : ffld Tryd.prog 97 0 = some (0, 1) := by kernel_rfl
theorem Tryd.fo97_1 : foff Tryd.prog 97 1 = some 1 := by kernel_rfl
theorem Tryd.ff97_1 : ffld Tryd.prog 97 1 = some (1, 1) := by kernel_rfl
theorem Tryd.bz97 : bz Tryd.prog 97 = some ([.slice none 0 0, .int .i64 0], [(0, 1), (1, 1)]) := by kernel_rfl
theorem Tryd.zc97 : zcells Tryd.prog 97 = some [.slice none 0 0, .int .i64 0] := by kernel_rfl
theorem Tryd.tk110 : tk Tryd.prog 110 = 1 := by kernel_rfl
theorem Tryd.co110 : Tryd.prog.cellsOf 110 = 1 := by kernel_rfl
theorem Tryd.mt110 : mapT Tryd.prog 110 = true := by kernel_rfl
theorem Tryd.zc110 : zcells Tryd.prog 110 = some [.map none] := by kernel_rfl
theorem Tryd.tk131 : tk Tryd.prog 131 = 1 := by kernel_rfl
theorem Tryd.co131 : Tryd.prog.cellsOf 131 = 1 := by kernel_rfl
theorem Tryd.us131 : (Tryd.prog.underlying 131).isSome = true := by kernel_rfl
theorem Tryd.ik131 : ikind Tryd.prog 131 = some .u64 := by kernel_rfl
theorem Tryd.zc131 : zcells Tryd.prog 131 = some [.int .u64 0] := by kernel_rfl
theorem Tryd.tk133 : tk Tryd.prog 133 = 4 := by kernel_rfl
theorem Tryd.co133 : Tryd.prog.cellsOf 133 = 2 := by kernel_rfl
theorem Tryd.fo133_0 : foff Tryd.prog 133 0 = some 0 := by kernel_rfl
theorem Tryd.ff133_0 : ffld Tryd.prog 133 0 = some (0, 1) := by kernel_rfl
theorem Tryd.fo133_1 : foff Tryd.prog 133 1 = some 1 := by kernel_rfl
theorem Tryd.ff133_1 : ffld Tryd.prog 133 1 = some (1, 1) := by kernel_rfl
theorem Tryd.bz133 : bz Tryd.prog 133 = some ([.int .u8 0, .int .u8 0], [(0, 1), (1, 1)]) := by kernel_rfl
theorem Tryd.zc133 : zcells Tryd.prog 133 = some [.int .u8 0, .int .u8 0] := by kernel_rfl
theorem Tryd.tk136 : tk Tryd.prog 136 = 1 := by kernel_rfl
theorem Tryd.co136 : Tryd.prog.cellsOf 136 = 1 := by kernel_rfl
theorem Tryd.us136 : (Tryd.prog.underlying 136).isSome = true := by kernel_rfl
theorem Tryd.ik136 : ikind Tryd.prog 136 = some .u32 := by kernel_rfl
theorem Tryd.zc136 : zcells Tryd.prog 136 = some [.int .u32 0] := by kernel_rfl
theorem Tryd.tk140 : tk Tryd.prog 140 = 6 := by kernel_rfl
theorem Tryd.co140 : Tryd.prog.cellsOf 140 = 4 := by kernel_rfl
theorem Tryd.fo140_0 : foff Tryd.prog 140 0 = some 0 := by kernel_rfl
theorem Tryd.ff140_0 : ffld Tryd.prog 140 0 = some (0, 1) := by kernel_rfl
theorem Tryd.fo140_1 : foff Tryd.prog 140 1 = some 1 := by kernel_rfl
theorem Tryd.ff140_1 : ffld Tryd.prog 140 1 = some (1, 1) := by kernel_rfl
theorem Tryd.fo140_2 : foff Tryd.prog 140 2 = some 2 := by kernel_rfl
theorem Tryd.ff140_2 : ffld Tryd.prog 140 2 = some (2, 1) := by kernel_rfl
theorem Tryd.fo140_3 : foff Tryd.prog 140 3 = some 3 := by kernel_rfl
theorem Tryd.ff140_3 : ffld Tryd.prog 140 3 = some (3, 1) := by kernel_rfl
theorem Tryd.bz140 : bz Tryd.prog 140 = some ([.pointer none, .pointer none, .pointer none, .string ⟨#[]⟩], [(0, 1), (1, 1), (2, 1), (3, 1)]) := by kernel_rfl
theorem Tryd.zc140 : zcells Tryd.prog 140 = some [.pointer none, .pointer none, .pointer none, .string ⟨#[]⟩] := by kernel_rfl
theorem Tryd.tk143 : tk Tryd.prog 143 = 2 := by kernel_rfl
theorem Tryd.co143 : Tryd.prog.cellsOf 143 = 0 := by kernel_rfl
theorem Tryd.ff143_0 : ffld Tryd.prog 143 0 = some (0, 2) := by kernel_rfl
theorem Tryd.bz143 : bz Tryd.prog 143 = some ([], [(0, 0)]) := by kernel_rfl
theorem Tryd.zc143 : zcells Tryd.prog 143 = some [] := by kernel_rfl
theorem Tryd.tk149 : tk Tryd.prog 149 = 1 := by kernel_rfl
theorem Tryd.co149 : Tryd.prog.cellsOf 149 = 1 := by kernel_rfl
theorem Tryd.zc149 : zcells Tryd.prog 149 = some [.pointer none] := by kernel_rfl
theorem Tryd.tk152 : tk Tryd.prog 152 = 13 := by kernel_rfl
theorem Tryd.co152 : Tryd.prog.cellsOf 152 = 11 := by kernel_rfl
theorem Tryd.fo152_0 : foff Tryd.prog 152 0 = some 0 := by kernel_rfl
theorem Tryd.ff152_0 : ffld Tryd.prog 152 0 = some (0, 1) := by kernel_rfl
theorem Tryd.fo152_1 : foff Tryd.prog 152 1 = some 1 := by kernel_rfl
theorem Tryd.ff152_1 : ffld Tryd.prog 152 1 = some (1, 1) := by kernel_rfl
theorem Tryd.fo152_2 : foff Tryd.prog 152 2 = some 2 := by kernel_rfl
theorem Tryd.ff152_2 : ffld Tryd.prog 152 2 = some (2, 1) := by kernel_rfl
theorem Tryd.fo152_3 : foff Tryd.prog 152 3 = some 3 := by kernel_rfl
theorem Tryd.ff152_3 : ffld Tryd.prog 152 3 = some (3, 1) := by kernel_rfl
theorem Tryd.fo152_4 : foff Tryd.prog 152 4 = some 4 := by kernel_rfl
theorem Tryd.ff152_4 : ffld Tryd.prog 152 4 = some (4, 1) := by kernel_rfl
theorem Tryd.fo152_5 : foff Tryd.prog 152 5 = some 5 := by kernel_rfl
theorem Tryd.ff152_5 : ffld Tryd.prog 152 5 = some (5, 1) := by kernel_rfl
theorem Tryd.fo152_6 : foff Tryd.prog 152 6 = some 6 := by kernel_rfl
theorem Tryd.ff152_6 : ffld Tryd.prog 152 6 = some (6, 1) := by kernel_rfl
theorem Tryd.fo152_8 : foff Tryd.prog 152 8 = some 8 := by kernel_rfl
theorem Tryd.ff152_8 : ffld Tryd.prog 152 8 = some (8, 1) := by kernel_rfl
theorem Tryd.fo152_9 : foff Tryd.prog 152 9 = some 9 := by kernel_rfl
theorem Tryd.ff152_9 : ffld Tryd.prog 152 9 = some (9, 1) := by kernel_rfl
theorem Tryd.fo152_10 : foff Tryd.prog 152 10 = some 10 := by kernel_rfl
theorem Tryd.ff152_10 : ffld Tryd.prog 152 10 = some (10, 1) := by kernel_rfl

attribute [push_cast] Tryd.tk2 Tryd.co2 Tryd.us2 Tryd.ik2 Tryd.zc2 Tryd.tk3 Tryd.co3 Tryd.us3 Tryd.ik3 Tryd.zc3 Tryd.tk4 Tryd.co4 Tryd.zc4 Tryd.tk5 Tryd.co5 Tryd.us5 Tryd.ik5 Tryd.zc5 Tryd.tk7 Tryd.co7 Tryd.fo7_0 Tryd.ff7_0 Tryd.fo7_1 Tryd.ff7_1 Tryd.fo7_2 Tryd.ff7_2 Tryd.fo7_3 Tryd.ff7_3 Tryd.bz7 Tryd.zc7 Tryd.tk9 Tryd.co9 Tryd.us9 Tryd.is9 Tryd.zc9 Tryd.tk12 Tryd.co12 Tryd.us12 Tryd.ik12 Tryd.zc12 Tryd.tk13 Tryd.co13 Tryd.fo13_0 Tryd.ff13_0 Tryd.fo13_1 Tryd.ff13_1 Tryd.bz13 Tryd.zc13 Tryd.tk15 Tryd.co15 Tryd.zc15 Tryd.tk16 Tryd.co16 Tryd.zc16 Tryd.tk17 Tryd.co17 Tryd.zc17 Tryd.tk18 Tryd.co18 Tryd.fo18_0 Tryd.ff18_0 Tryd.bz18 Tryd.zc18 Tryd.tk21 Tryd.co21 Tryd.us21 Tryd.ik21 Tryd.zc21 Tryd.tk22 Tryd.co22 Tryd.se22 Tryd.el22 Tryd.zc22 Tryd.tk23 Tryd.co23 Tryd.se23 Tryd.el23 Tryd.zc23 Tryd.tk25 Tryd.co25 Tryd.se25 Tryd.el25 Tryd.zc25 Tryd.tk30 Tryd.co30 Tryd.fo30_0 Tryd.ff30_0 Tryd.fo30_1 Tryd.ff30_1 Tryd.bz30 Tryd.zc30 Tryd.tk31 Tryd.co31 Tryd.fo31_0 Tryd.ff31_0 Tryd.fo31_1 Tryd.ff31_1 Tryd.bz31 Tryd.zc31 Tryd.eq31 Tryd.tk32 Tryd.co32 Tryd.fo32_0 Tryd.ff32_0 Tryd.fo32_1 Tryd.ff32_1 Tryd.bz32 Tryd.zc32 Tryd.tk33 Tryd.co33 Tryd.fo33_0 Tryd.ff33_0 Tryd.fo33_1 Tryd.ff33_1 Tryd.bz33 Tryd.zc33 Tryd.eq33 Tryd.tk35 Tryd.co35 Tryd.se35 Tryd.el35 Tryd.zc35 Tryd.tk44 Tryd.co44 Tryd.fo44_0 Tryd.ff44_0 Tryd.fo44_1 Tryd.ff44_1 Tryd.fo44_2 Tryd.ff44_2 Tryd.bz44 Tryd.zc44 Tryd.tk45 Tryd.co45 Tryd.fo45_0 Tryd.ff45_0 Tryd.fo45_1 Tryd.ff45_1 Tryd.fo45_2 Tryd.ff45_2 Tryd.bz45 Tryd.zc45 Tryd.eq45 Tryd.tk47 Tryd.co47 Tryd.se47 Tryd.el47 Tryd.zc47 Tryd.tk68 Tryd.co68 Tryd.zc68 Tryd.tk90 Tryd.co90 Tryd.se90 Tryd.el90 Tryd.zc90 Tryd.tk96 Tryd.co96 Tryd.fo96_0 Tryd.ff96_0 Tryd.fo96_1 Tryd.ff96_1 Tryd.bz96 Tryd.zc96 Tryd.tk97 Tryd.co97 Tryd.fo97_0 Tryd.ff97_0 Tryd.fo97_1 Tryd.ff97_1 Tryd.bz97 Tryd.zc97 Tryd.tk110 Tryd.co110 Tryd.mt110 Tryd.zc110 Tryd.tk131 Tryd.co131 Tryd.us131 Tryd.ik131 Tryd.zc131 Tryd.tk133 Tryd.co133 Tryd.fo133_0 Tryd.ff133_0 Tryd.fo133_1 Tryd.ff133_1 Tryd.bz133 Tryd.zc133 Tryd.tk136 Tryd.co136 Tryd.us136 Tryd.ik136 Tryd.zc136 Tryd.tk140 Tryd.co140 Tryd.fo140_0 Tryd.ff140_0 Tryd.fo140_1 Tryd.ff140_1 Tryd.fo140_2 Tryd.ff140_2 Tryd.fo140_3 Tryd.ff140_3 Tryd.bz140 Tryd.zc140 Tryd.tk143 Tryd.co143 Tryd.ff143_0 Tryd.bz143 Tryd.zc143 Tryd.tk149 Tryd.co149 Tryd.zc149 Tryd.tk152 Tryd.co152 Tryd.fo152_0 Tryd.ff152_0 Tryd.fo152_1 Tryd.ff152_1 Tryd.fo152_2 Tryd.ff152_2 Tryd.fo152_3 Tryd.ff152_3 Tryd.fo152_4 Tryd.ff152_4 Tryd.fo152_5 Tryd.ff152_5 Tryd.fo152_6 Tryd.ff152_6 Tryd.fo152_8 Tryd.ff152_8 Tryd.fo152_9 Tryd.ff152_9 Tryd.fo152_10 Tryd.ff152_10 Tryd.underlying4 Tryd.results3 Tryd.results4 Tryd.results5 Tryd.results6 Tryd.results7 Tryd.results8 Tryd.results9 Tryd.results10 Tryd.results11 Tryd.results12 Tryd.results13 Tryd.results14 Tryd.results15 Tryd.results16 Tryd.results17 Tryd.results18 Tryd.results19 Tryd.results20 Tryd.results21 Tryd.results22 Tryd.results23 Tryd.results24 Tryd.results25 Tryd.results26 Tryd.results27 Tryd.results28 Tryd.results29 Tryd.results30 Tryd.results31 Tryd.results32 Tryd.results33 Tryd.results34 Tryd.results35 Tryd.results36 Tryd.results37 Tryd.results38 Tryd.results39 Tryd.results40 Tryd.results41 Tryd.results42 Tryd.results43 Tryd.results44 Tryd.results45 Tryd.results46 Tryd.results47 Tryd.results48 Tryd.results49 Tryd.results50 Tryd.results51 Tryd.results52 Tryd.results53 Tryd.results54 Tryd.results55 Tryd.results56 Tryd.results57 Tryd.results58 Tryd.results59 Tryd.results60 Tryd.results61 Tryd.results62 Tryd.results63 Tryd.results64 Tryd.results65 Tryd.results66 Tryd.results67 Tryd.results68 Tryd.results69 Tryd.results70 Tryd.results71 Tryd.results72 Tryd.results73 Tryd.results74 Tryd.results75 Tryd.results76 Tryd.results77 Tryd.results78 Tryd.results79 Tryd.results80 Tryd.results81 Tryd.results82 Tryd.results83 Tryd.results84 Tryd.results85 Tryd.results86 Tryd.results87 Tryd.results88 Tryd.results89 Tryd.results90 Tryd.results91 Tryd.results92 Tryd.results93 Tryd.results94 Tryd.results95 Tryd.results96 Tryd.results97 Tryd.results98 Tryd.results99 Tryd.results100 Tryd.results101 Tryd.results102 Tryd.results103 Tryd.results104 Tryd.results105 Tryd.results106 Tryd.results107 Tryd.results108 Tryd.results109 Tryd.results110 Tryd.results111 Tryd.results112 Tryd.results113 Tryd.results114 Tryd.results115 Tryd.results116 Tryd.results117 Tryd.results118 Tryd.results119 Tryd.results120 Tryd.results121 Tryd.results122 Tryd.results123 Tryd.results124 Tryd.results125 Tryd.results126 Tryd.results127 Tryd.results128 Tryd.results129 Tryd.results130 Tryd.results131 Tryd.results132 Tryd.results133 Tryd.results134 Tryd.results135 Tryd.results136 Tryd.results137 Tryd.results138 Tryd.results139 Tryd.results140 Tryd.results141 Tryd.results142 Tryd.results143 Tryd.results144 Tryd.results145 Tryd.results146 Tryd.results147 Tryd.results148 Tryd.results149 Tryd.results150 Tryd.results151 Tryd.results152 Tryd.results153 Tryd.results154 Tryd.results155 Tryd.results156 Tryd.results157 Tryd.results158 Tryd.results159 Tryd.results172 Tryd.results173 Tryd.results174 Tryd.results175 Tryd.results176 Tryd.results177 Tryd.results178 Tryd.results179 Tryd.results180 Tryd.results181

end Go.Proofs.YtlmlnbmagmembaaDoor
