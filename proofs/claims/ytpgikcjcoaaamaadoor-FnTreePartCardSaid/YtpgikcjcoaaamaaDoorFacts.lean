/-
  The closed facts on the types of this seat (printed by facts.py): tk, foff, ffld, bz, zcells, elemT, EqT and their kin. Conditions: none.
-/
import Derived.Test.YtpgikcjcoaaamaaDoorCoreB
import Derived.Test.YtpgikcjcoaaamaaDoorRows
set_option linter.unusedSimpArgs false
set_option linter.unusedVariables false
namespace Go.Proofs.YtpgikcjcoaaamaaDoor
open Go Go.RowKit

theorem kind_1 {x : Value} (h : kindOf x = 1) : ∃ a, x = .int .i64 a := by
  unfold kindOf at h
  split at h <;> first | exact ⟨_, rfl⟩ | (simp at h)
theorem kind_2 {x : Value} (h : kindOf x = 2) : ∃ a, x = .string a := by
  unfold kindOf at h
  split at h <;> first | exact ⟨_, rfl⟩ | (simp at h)

theorem cells_11 {xs : Array Value} (h : xs.toList.map kindOf = [1, 1]) : ∃ (a0 : Int) (a1 : Int), xs = #[.int .i64 a0, .int .i64 a1] := by
  obtain ⟨l⟩ := xs
  simp only at h
  rcases l with _ | ⟨x0, l⟩
  · simp at h
  rcases l with _ | ⟨x1, l⟩
  · simp at h
  rcases l with _ | ⟨y, l⟩
  rotate_left
  · simp at h
  simp only [List.map_cons, List.map_nil, List.cons.injEq, and_true] at h
  obtain ⟨h0, h1⟩ := h
  obtain ⟨a0, rfl⟩ := kind_1 h0
  obtain ⟨a1, rfl⟩ := kind_1 h1
  exact ⟨a0, a1, rfl⟩

theorem cells_211 {xs : Array Value} (h : xs.toList.map kindOf = [2, 1, 1]) : ∃ (a0 : ByteArray) (a1 : Int) (a2 : Int), xs = #[.string a0, .int .i64 a1, .int .i64 a2] := by
  obtain ⟨l⟩ := xs
  simp only at h
  rcases l with _ | ⟨x0, l⟩
  · simp at h
  rcases l with _ | ⟨x1, l⟩
  · simp at h
  rcases l with _ | ⟨x2, l⟩
  · simp at h
  rcases l with _ | ⟨y, l⟩
  rotate_left
  · simp at h
  simp only [List.map_cons, List.map_nil, List.cons.injEq, and_true] at h
  obtain ⟨h0, h1, h2⟩ := h
  obtain ⟨a0, rfl⟩ := kind_2 h0
  obtain ⟨a1, rfl⟩ := kind_1 h1
  obtain ⟨a2, rfl⟩ := kind_1 h2
  exact ⟨a0, a1, a2, rfl⟩

theorem cells_21111 {xs : Array Value} (h : xs.toList.map kindOf = [2, 1, 1, 1, 1]) : ∃ (a0 : ByteArray) (a1 : Int) (a2 : Int) (a3 : Int) (a4 : Int), xs = #[.string a0, .int .i64 a1, .int .i64 a2, .int .i64 a3, .int .i64 a4] := by
  obtain ⟨l⟩ := xs
  simp only at h
  rcases l with _ | ⟨x0, l⟩
  · simp at h
  rcases l with _ | ⟨x1, l⟩
  · simp at h
  rcases l with _ | ⟨x2, l⟩
  · simp at h
  rcases l with _ | ⟨x3, l⟩
  · simp at h
  rcases l with _ | ⟨x4, l⟩
  · simp at h
  rcases l with _ | ⟨y, l⟩
  rotate_left
  · simp at h
  simp only [List.map_cons, List.map_nil, List.cons.injEq, and_true] at h
  obtain ⟨h0, h1, h2, h3, h4⟩ := h
  obtain ⟨a0, rfl⟩ := kind_2 h0
  obtain ⟨a1, rfl⟩ := kind_1 h1
  obtain ⟨a2, rfl⟩ := kind_1 h2
  obtain ⟨a3, rfl⟩ := kind_1 h3
  obtain ⟨a4, rfl⟩ := kind_1 h4
  exact ⟨a0, a1, a2, a3, a4, rfl⟩

theorem Tryd.tk2 : tk Tryd.prog 2 = 1 := by kernel_rfl
theorem Tryd.co2 : Tryd.prog.cellsOf 2 = 1 := by kernel_rfl
theorem Tryd.us2 : (Tryd.prog.underlying 2).isSome = true := by kernel_rfl
theorem Tryd.ik2 : ikind Tryd.prog 2 = some .i64 := by kernel_rfl
theorem Tryd.zc2 : zcells Tryd.prog 2 = some [.int .i64 0] := by kernel_rfl
theorem Tryd.tk3 : tk Tryd.prog 3 = 1 := by kernel_rfl
theorem Tryd.co3 : Tryd.prog.cellsOf 3 = 1 := by kernel_rfl
theorem Tryd.us3 : (Tryd.prog.underlying 3).isSome = true := by kernel_rfl
theorem Tryd.ik3 : ikind Tryd.prog 3 = some .i64 := by kernel_rfl
theorem Tryd.zc3 : zcells Tryd.prog 3 = some [.int .i64 0] := by kernel_rfl
theorem Tryd.tk4 : tk Tryd.prog 4 = 1 := by kernel_rfl
theorem Tryd.co4 : Tryd.prog.cellsOf 4 = 1 := by kernel_rfl
theorem Tryd.zc4 : zcells Tryd.prog 4 = some [.bool false] := by kernel_rfl
theorem Tryd.tk5 : tk Tryd.prog 5 = 1 := by kernel_rfl
theorem Tryd.co5 : Tryd.prog.cellsOf 5 = 1 := by kernel_rfl
theorem Tryd.us5 : (Tryd.prog.underlying 5).isSome = true := by kernel_rfl
theorem Tryd.ik5 : ikind Tryd.prog 5 = some .u8 := by kernel_rfl
theorem Tryd.zc5 : zcells Tryd.prog 5 = some [.int .u8 0] := by kernel_rfl
theorem Tryd.tk7 : tk Tryd.prog 7 = 6 := by kernel_rfl
theorem Tryd.co7 : Tryd.prog.cellsOf 7 = 4 := by kernel_rfl
theorem Tryd.fo7_0 : foff Tryd.prog 7 0 = some 0 := by kernel_rfl
theorem Tryd.ff7_0 : ffld Tryd.prog 7 0 = some (0, 1) := by kernel_rfl
theorem Tryd.fo7_1 : foff Tryd.prog 7 1 = some 1 := by kernel_rfl
theorem Tryd.ff7_1 : ffld Tryd.prog 7 1 = some (1, 1) := by kernel_rfl
theorem Tryd.fo7_2 : foff Tryd.prog 7 2 = some 2 := by kernel_rfl
theorem Tryd.ff7_2 : ffld Tryd.prog 7 2 = some (2, 1) := by kernel_rfl
theorem Tryd.fo7_3 : foff Tryd.prog 7 3 = some 3 := by kernel_rfl
theorem Tryd.ff7_3 : ffld Tryd.prog 7 3 = some (3, 1) := by kernel_rfl
theorem Tryd.bz7 : bz Tryd.prog 7 = some ([.int .i64 0, .int .i64 0, .bool false, .int .u8 0], [(0, 1), (1, 1), (2, 1), (3, 1)]) := by kernel_rfl
theorem Tryd.zc7 : zcells Tryd.prog 7 = some [.int .i64 0, .int .i64 0, .bool false, .int .u8 0] := by kernel_rfl
theorem Tryd.tk9 : tk Tryd.prog 9 = 1 := by kernel_rfl
theorem Tryd.co9 : Tryd.prog.cellsOf 9 = 1 := by kernel_rfl
theorem Tryd.us9 : (Tryd.prog.underlying 9).isSome = true := by kernel_rfl
theorem Tryd.is9 : isStr Tryd.prog 9 = true := by kernel_rfl
theorem Tryd.zc9 : zcells Tryd.prog 9 = some [.string ⟨#[]⟩] := by kernel_rfl
theorem Tryd.tk12 : tk Tryd.prog 12 = 1 := by kernel_rfl
theorem Tryd.co12 : Tryd.prog.cellsOf 12 = 1 := by kernel_rfl
theorem Tryd.us12 : (Tryd.prog.underlying 12).isSome = true := by kernel_rfl
theorem Tryd.ik12 : ikind Tryd.prog 12 = some .u64 := by kernel_rfl
theorem Tryd.zc12 : zcells Tryd.prog 12 = some [.int .u64 0] := by kernel_rfl
theorem Tryd.tk13 : tk Tryd.prog 13 = 4 := by kernel_rfl
theorem Tryd.co13 : Tryd.prog.cellsOf 13 = 2 := by kernel_rfl
theorem Tryd.fo13_0 : foff Tryd.prog 13 0 = some 0 := by kernel_rfl
theorem Tryd.ff13_0 : ffld Tryd.prog 13 0 = some (0, 1) := by kernel_rfl
theorem Tryd.fo13_1 : foff Tryd.prog 13 1 = some 1 := by kernel_rfl
theorem Tryd.ff13_1 : ffld Tryd.prog 13 1 = some (1, 1) := by kernel_rfl
theorem Tryd.bz13 : bz Tryd.prog 13 = some ([.string ⟨#[]⟩, .int .u64 0], [(0, 1), (1, 1)]) := by kernel_rfl
theorem Tryd.zc13 : zcells Tryd.prog 13 = some [.string ⟨#[]⟩, .int .u64 0] := by kernel_rfl
theorem Tryd.tk15 : tk Tryd.prog 15 = 1 := by kernel_rfl
theorem Tryd.co15 : Tryd.prog.cellsOf 15 = 1 := by kernel_rfl
theorem Tryd.zc15 : zcells Tryd.prog 15 = some [.pointer none] := by kernel_rfl
theorem Tryd.tk16 : tk Tryd.prog 16 = 1 := by kernel_rfl
theorem Tryd.co16 : Tryd.prog.cellsOf 16 = 1 := by kernel_rfl
theorem Tryd.zc16 : zcells Tryd.prog 16 = some [.pointer none] := by kernel_rfl
theorem Tryd.tk17 : tk Tryd.prog 17 = 1 := by kernel_rfl
theorem Tryd.co17 : Tryd.prog.cellsOf 17 = 1 := by kernel_rfl
theorem Tryd.zc17 : zcells Tryd.prog 17 = some [.pointer none] := by kernel_rfl
theorem Tryd.tk18 : tk Tryd.prog 18 = 3 := by kernel_rfl
theorem Tryd.co18 : Tryd.prog.cellsOf 18 = 1 := by kernel_rfl
theorem Tryd.fo18_0 : foff Tryd.prog 18 0 = some 0 := by kernel_rfl
theorem Tryd.ff18_0 : ffld Tryd.prog 18 0 = some (0, 1) := by kernel_rfl
theorem Tryd.bz18 : bz Tryd.prog 18 = some ([.pointer none], [(0, 1)]) := by kernel_rfl
theorem Tryd.zc18 : zcells Tryd.prog 18 = some [.pointer none] := by kernel_rfl
theorem Tryd.tk21 : tk Tryd.prog 21 = 1 := by kernel_rfl
theorem Tryd.co21 : Tryd.prog.cellsOf 21 = 1 := by kernel_rfl
theorem Tryd.us21 : (Tryd.prog.underlying 21).isSome = true := by kernel_rfl
theorem Tryd.ik21 : ikind Tryd.prog 21 = some .i32 := by kernel_rfl
theorem Tryd.zc21 : zcells Tryd.prog 21 = some [.int .i32 0] := by kernel_rfl
theorem Tryd.tk22 : tk Tryd.prog 22 = 1 := by kernel_rfl
theorem Tryd.co22 : Tryd.prog.cellsOf 22 = 1 := by kernel_rfl
theorem Tryd.se22 : selt Tryd.prog 22 = some 1 := by kernel_rfl
theorem Tryd.el22 : elemT Tryd.prog 22 = some (5, 1, 1) := by kernel_rfl
theorem Tryd.zc22 : zcells Tryd.prog 22 = some [.slice none 0 0] := by kernel_rfl
theorem Tryd.tk23 : tk Tryd.prog 23 = 4 := by kernel_rfl
theorem Tryd.co23 : Tryd.prog.cellsOf 23 = 2 := by kernel_rfl
theorem Tryd.fo23_0 : foff Tryd.prog 23 0 = some 0 := by kernel_rfl
theorem Tryd.ff23_0 : ffld Tryd.prog 23 0 = some (0, 1) := by kernel_rfl
theorem Tryd.fo23_1 : foff Tryd.prog 23 1 = some 1 := by kernel_rfl
theorem Tryd.ff23_1 : ffld Tryd.prog 23 1 = some (1, 1) := by kernel_rfl
theorem Tryd.bz23 : bz Tryd.prog 23 = some ([.int .i64 0, .int .i64 0], [(0, 1), (1, 1)]) := by kernel_rfl
theorem Tryd.zc23 : zcells Tryd.prog 23 = some [.int .i64 0, .int .i64 0] := by kernel_rfl
theorem Tryd.tk24 : tk Tryd.prog 24 = 4 := by kernel_rfl
theorem Tryd.co24 : Tryd.prog.cellsOf 24 = 2 := by kernel_rfl
theorem Tryd.fo24_0 : foff Tryd.prog 24 0 = some 0 := by kernel_rfl
theorem Tryd.ff24_0 : ffld Tryd.prog 24 0 = some (0, 1) := by kernel_rfl
theorem Tryd.fo24_1 : foff Tryd.prog 24 1 = some 1 := by kernel_rfl
theorem Tryd.ff24_1 : ffld Tryd.prog 24 1 = some (1, 1) := by kernel_rfl
theorem Tryd.bz24 : bz Tryd.prog 24 = some ([.int .i64 0, .int .i64 0], [(0, 1), (1, 1)]) := by kernel_rfl
theorem Tryd.zc24 : zcells Tryd.prog 24 = some [.int .i64 0, .int .i64 0] := by kernel_rfl
theorem Tryd.eq24 : EqT Tryd.prog 24 [1, 1] := by
  intro xs ys x y w hx hy
  obtain ⟨a0, a1, rfl⟩ := cells_11 hx
  obtain ⟨b0, b1, rfl⟩ := cells_11 hy
  constructor <;> (go_simp; by_cases h0 : a0 = b0 <;> by_cases h1 : a1 = b1 <;> simp [eqCs, eqC, ByteArray.toList_eq, *])
theorem Tryd.tk25 : tk Tryd.prog 25 = 7 := by kernel_rfl
theorem Tryd.co25 : Tryd.prog.cellsOf 25 = 5 := by kernel_rfl
theorem Tryd.fo25_0 : foff Tryd.prog 25 0 = some 0 := by kernel_rfl
theorem Tryd.ff25_0 : ffld Tryd.prog 25 0 = some (0, 1) := by kernel_rfl
theorem Tryd.fo25_1 : foff Tryd.prog 25 1 = some 1 := by kernel_rfl
theorem Tryd.ff25_1 : ffld Tryd.prog 25 1 = some (1, 4) := by kernel_rfl
theorem Tryd.fo25_2 : foff Tryd.prog 25 2 = some 3 := by kernel_rfl
theorem Tryd.ff25_2 : ffld Tryd.prog 25 2 = some (3, 4) := by kernel_rfl
theorem Tryd.bz25 : bz Tryd.prog 25 = some ([.string ⟨#[]⟩, .int .i64 0, .int .i64 0, .int .i64 0, .int .i64 0], [(0, 1), (1, 2), (3, 2)]) := by kernel_rfl
theorem Tryd.zc25 : zcells Tryd.prog 25 = some [.string ⟨#[]⟩, .int .i64 0, .int .i64 0, .int .i64 0, .int .i64 0] := by kernel_rfl
theorem Tryd.tk26 : tk Tryd.prog 26 = 7 := by kernel_rfl
theorem Tryd.co26 : Tryd.prog.cellsOf 26 = 5 := by kernel_rfl
theorem Tryd.fo26_0 : foff Tryd.prog 26 0 = some 0 := by kernel_rfl
theorem Tryd.ff26_0 : ffld Tryd.prog 26 0 = some (0, 1) := by kernel_rfl
theorem Tryd.fo26_1 : foff Tryd.prog 26 1 = some 1 := by kernel_rfl
theorem Tryd.ff26_1 : ffld Tryd.prog 26 1 = some (1, 4) := by kernel_rfl
theorem Tryd.fo26_2 : foff Tryd.prog 26 2 = some 3 := by kernel_rfl
theorem Tryd.ff26_2 : ffld Tryd.prog 26 2 = some (3, 4) := by kernel_rfl
theorem Tryd.bz26 : bz Tryd.prog 26 = some ([.string ⟨#[]⟩, .int .i64 0, .int .i64 0, .int .i64 0, .int .i64 0], [(0, 1), (1, 2), (3, 2)]) := by kernel_rfl
theorem Tryd.zc26 : zcells Tryd.prog 26 = some [.string ⟨#[]⟩, .int .i64 0, .int .i64 0, .int .i64 0, .int .i64 0] := by kernel_rfl
theorem Tryd.eq26 : EqT Tryd.prog 26 [2, 1, 1, 1, 1] := by
  intro xs ys x y w hx hy
  obtain ⟨a0, a1, a2, a3, a4, rfl⟩ := cells_21111 hx
  obtain ⟨b0, b1, b2, b3, b4, rfl⟩ := cells_21111 hy
  constructor <;> (go_simp; by_cases h0 : a0.data = b0.data <;> by_cases h1 : a1 = b1 <;> by_cases h2 : a2 = b2 <;> by_cases h3 : a3 = b3 <;> by_cases h4 : a4 = b4 <;> simp [eqCs, eqC, ByteArray.toList_eq, *])
theorem Tryd.tk31 : tk Tryd.prog 31 = 1 := by kernel_rfl
theorem Tryd.co31 : Tryd.prog.cellsOf 31 = 1 := by kernel_rfl
theorem Tryd.se31 : selt Tryd.prog 31 = some 3 := by kernel_rfl
theorem Tryd.el31 : elemT Tryd.prog 31 = some (35, 3, 32) := by kernel_rfl
theorem Tryd.zc31 : zcells Tryd.prog 31 = some [.slice none 0 0] := by kernel_rfl
theorem Tryd.tk34 : tk Tryd.prog 34 = 5 := by kernel_rfl
theorem Tryd.co34 : Tryd.prog.cellsOf 34 = 3 := by kernel_rfl
theorem Tryd.fo34_0 : foff Tryd.prog 34 0 = some 0 := by kernel_rfl
theorem Tryd.ff34_0 : ffld Tryd.prog 34 0 = some (0, 1) := by kernel_rfl
theorem Tryd.fo34_1 : foff Tryd.prog 34 1 = some 1 := by kernel_rfl
theorem Tryd.ff34_1 : ffld Tryd.prog 34 1 = some (1, 4) := by kernel_rfl
theorem Tryd.bz34 : bz Tryd.prog 34 = some ([.string ⟨#[]⟩, .int .i64 0, .int .i64 0], [(0, 1), (1, 2)]) := by kernel_rfl
theorem Tryd.zc34 : zcells Tryd.prog 34 = some [.string ⟨#[]⟩, .int .i64 0, .int .i64 0] := by kernel_rfl
theorem Tryd.tk35 : tk Tryd.prog 35 = 5 := by kernel_rfl
theorem Tryd.co35 : Tryd.prog.cellsOf 35 = 3 := by kernel_rfl
theorem Tryd.fo35_0 : foff Tryd.prog 35 0 = some 0 := by kernel_rfl
theorem Tryd.ff35_0 : ffld Tryd.prog 35 0 = some (0, 1) := by kernel_rfl
theorem Tryd.fo35_1 : foff Tryd.prog 35 1 = some 1 := by kernel_rfl
theorem Tryd.ff35_1 : ffld Tryd.prog 35 1 = some (1, 4) := by kernel_rfl
theorem Tryd.bz35 : bz Tryd.prog 35 = some ([.string ⟨#[]⟩, .int .i64 0, .int .i64 0], [(0, 1), (1, 2)]) := by kernel_rfl
theorem Tryd.zc35 : zcells Tryd.prog 35 = some [.string ⟨#[]⟩, .int .i64 0, .int .i64 0] := by kernel_rfl
theorem Tryd.eq35 : EqT Tryd.prog 35 [2, 1, 1] := by
  intro xs ys x y w hx hy
  obtain ⟨a0, a1, a2, rfl⟩ := cells_211 hx
  obtain ⟨b0, b1, b2, rfl⟩ := cells_211 hy
  constructor <;> (go_simp; by_cases h0 : a0.data = b0.data <;> by_cases h1 : a1 = b1 <;> by_cases h2 : a2 = b2 <;> simp [eqCs, eqC, ByteArray.toList_eq, *])
theorem Tryd.tk40 : tk Tryd.prog 40 = 1 := by kernel_rfl
theorem Tryd.co40 : Tryd.prog.cellsOf 40 = 1 := by kernel_rfl
theorem Tryd.zc40 : zcells Tryd.prog 40 = some [.pointer none] := by kernel_rfl
theorem Tryd.tk49 : tk Tryd.prog 49 = 1 := by kernel_rfl
theorem Tryd.co49 : Tryd.prog.cellsOf 49 = 1 := by kernel_rfl
theorem Tryd.se49 : selt Tryd.prog 49 = some 1 := by kernel_rfl
theorem Tryd.el49 : elemT Tryd.prog 49 = some (9, 1, 16) := by kernel_rfl
theorem Tryd.zc49 : zcells Tryd.prog 49 = some [.slice none 0 0] := by kernel_rfl
theorem Tryd.tk52 : tk Tryd.prog 52 = 4 := by kernel_rfl
theorem Tryd.co52 : Tryd.prog.cellsOf 52 = 2 := by kernel_rfl
theorem Tryd.fo52_0 : foff Tryd.prog 52 0 = some 0 := by kernel_rfl
theorem Tryd.ff52_0 : ffld Tryd.prog 52 0 = some (0, 1) := by kernel_rfl
theorem Tryd.fo52_1 : foff Tryd.prog 52 1 = some 1 := by kernel_rfl
theorem Tryd.ff52_1 : ffld Tryd.prog 52 1 = some (1, 1) := by kernel_rfl
theorem Tryd.bz52 : bz Tryd.prog 52 = some ([.slice none 0 0, .int .i64 0], [(0, 1), (1, 1)]) := by kernel_rfl
theorem Tryd.zc52 : zcells Tryd.prog 52 = some [.slice none 0 0, .int .i64 0] := by kernel_rfl
theorem Tryd.tk53 : tk Tryd.prog 53 = 4 := by kernel_rfl
theorem Tryd.co53 : Tryd.prog.cellsOf 53 = 2 := by kernel_rfl
theorem Tryd.fo53_0 : foff Tryd.prog 53 0 = some 0 := by kernel_rfl
theorem Tryd.ff53_0 : ffld Tryd.prog 53 0 = some (0, 1) := by kernel_rfl
theorem Tryd.fo53_1 : foff Tryd.prog 53 1 = some 1 := by kernel_rfl
theorem Tryd.ff53_1 : ffld Tryd.prog 53 1 = some (1, 1) := by kernel_rfl
theorem Tryd.bz53 : bz Tryd.prog 53 = some ([.slice none 0 0, .int .i64 0], [(0, 1), (1, 1)]) := by kernel_rfl
theorem Tryd.zc53 : zcells Tryd.prog 53 = some [.slice none 0 0, .int .i64 0] := by kernel_rfl
theorem Tryd.tk64 : tk Tryd.prog 64 = 1 := by kernel_rfl
theorem Tryd.co64 : Tryd.prog.cellsOf 64 = 1 := by kernel_rfl
theorem Tryd.se64 : selt Tryd.prog 64 = some 1 := by kernel_rfl
theorem Tryd.el64 : elemT Tryd.prog 64 = some (3, 1, 8) := by kernel_rfl
theorem Tryd.zc64 : zcells Tryd.prog 64 = some [.slice none 0 0] := by kernel_rfl
theorem Tryd.tk71 : tk Tryd.prog 71 = 1 := by kernel_rfl
theorem Tryd.co71 : Tryd.prog.cellsOf 71 = 1 := by kernel_rfl
theorem Tryd.us71 : (Tryd.prog.underlying 71).isSome = true := by kernel_rfl
theorem Tryd.ik71 : ikind Tryd.prog 71 = some .u64 := by kernel_rfl
theorem Tryd.zc71 : zcells Tryd.prog 71 = some [.int .u64 0] := by kernel_rfl
theorem Tryd.tk73 : tk Tryd.prog 73 = 4 := by kernel_rfl
theorem Tryd.co73 : Tryd.prog.cellsOf 73 = 2 := by kernel_rfl
theorem Tryd.fo73_0 : foff Tryd.prog 73 0 = some 0 := by kernel_rfl
theorem Tryd.ff73_0 : ffld Tryd.prog 73 0 = some (0, 1) := by kernel_rfl
theorem Tryd.fo73_1 : foff Tryd.prog 73 1 = some 1 := by kernel_rfl
theorem Tryd.ff73_1 : ffld Tryd.prog 73 1 = some (1, 1) := by kernel_rfl
theorem Tryd.bz73 : bz Tryd.prog 73 = some ([.int .u8 0, .int .u8 0], [(0, 1), (1, 1)]) := by kernel_rfl
theorem Tryd.zc73 : zcells Tryd.prog 73 = some [.int .u8 0, .int .u8 0] := by kernel_rfl
theorem Tryd.tk76 : tk Tryd.prog 76 = 1 := by kernel_rfl
theorem Tryd.co76 : Tryd.prog.cellsOf 76 = 1 := by kernel_rfl
theorem Tryd.us76 : (Tryd.prog.underlying 76).isSome = true := by kernel_rfl
theorem Tryd.ik76 : ikind Tryd.prog 76 = some .u32 := by kernel_rfl
theorem Tryd.zc76 : zcells Tryd.prog 76 = some [.int .u32 0] := by kernel_rfl
theorem Tryd.tk80 : tk Tryd.prog 80 = 6 := by kernel_rfl
theorem Tryd.co80 : Tryd.prog.cellsOf 80 = 4 := by kernel_rfl
theorem Tryd.fo80_0 : foff Tryd.prog 80 0 = some 0 := by kernel_rfl
theorem Tryd.ff80_0 : ffld Tryd.prog 80 0 = some (0, 1) := by kernel_rfl
theorem Tryd.fo80_1 : foff Tryd.prog 80 1 = some 1 := by kernel_rfl
theorem Tryd.ff80_1 : ffld Tryd.prog 80 1 = some (1, 1) := by kernel_rfl
theorem Tryd.fo80_2 : foff Tryd.prog 80 2 = some 2 := by kernel_rfl
theorem Tryd.ff80_2 : ffld Tryd.prog 80 2 = some (2, 1) := by kernel_rfl
theorem Tryd.fo80_3 : foff Tryd.prog 80 3 = some 3 := by kernel_rfl
theorem Tryd.ff80_3 : ffld Tryd.prog 80 3 = some (3, 1) := by kernel_rfl
theorem Tryd.bz80 : bz Tryd.prog 80 = some ([.pointer none, .pointer none, .pointer none, .string ⟨#[]⟩], [(0, 1), (1, 1), (2, 1), (3, 1)]) := by kernel_rfl
theorem Tryd.zc80 : zcells Tryd.prog 80 = some [.pointer none, .pointer none, .pointer none, .string ⟨#[]⟩] := by kernel_rfl
theorem Tryd.tk83 : tk Tryd.prog 83 = 2 := by kernel_rfl
theorem Tryd.co83 : Tryd.prog.cellsOf 83 = 0 := by kernel_rfl
theorem Tryd.ff83_0 : ffld Tryd.prog 83 0 = some (0, 2) := by kernel_rfl
theorem Tryd.bz83 : bz Tryd.prog 83 = some ([], [(0, 0)]) := by kernel_rfl
theorem Tryd.zc83 : zcells Tryd.prog 83 = some [] := by kernel_rfl
theorem Tryd.tk89 : tk Tryd.prog 89 = 1 := by kernel_rfl
theorem Tryd.co89 : Tryd.prog.cellsOf 89 = 1 := by kernel_rfl
theorem Tryd.zc89 : zcells Tryd.prog 89 = some [.pointer none] := by kernel_rfl
theorem Tryd.tk92 : tk Tryd.prog 92 = 13 := by kernel_rfl
theorem Tryd.co92 : Tryd.prog.cellsOf 92 = 11 := by kernel_rfl
theorem Tryd.fo92_0 : foff Tryd.prog 92 0 = some 0 := by kernel_rfl
theorem Tryd.ff92_0 : ffld Tryd.prog 92 0 = some (0, 1) := by kernel_rfl
theorem Tryd.fo92_1 : foff Tryd.prog 92 1 = some 1 := by kernel_rfl
theorem Tryd.ff92_1 : ffld Tryd.prog 92 1 = some (1, 1) := by kernel_rfl
theorem Tryd.fo92_2 : foff Tryd.prog 92 2 = some 2 := by kernel_rfl
theorem Tryd.ff92_2 : ffld Tryd.prog 92 2 = some (2, 1) := by kernel_rfl
theorem Tryd.fo92_3 : foff Tryd.prog 92 3 = some 3 := by kernel_rfl
theorem Tryd.ff92_3 : ffld Tryd.prog 92 3 = some (3, 1) := by kernel_rfl
theorem Tryd.fo92_4 : foff Tryd.prog 92 4 = some 4 := by kernel_rfl
theorem Tryd.ff92_4 : ffld Tryd.prog 92 4 = some (4, 1) := by kernel_rfl
theorem Tryd.fo92_5 : foff Tryd.prog 92 5 = some 5 := by kernel_rfl
theorem Tryd.ff92_5 : ffld Tryd.prog 92 5 = some (5, 1) := by kernel_rfl
theorem Tryd.fo92_6 : foff Tryd.prog 92 6 = some 6 := by kernel_rfl
theorem Tryd.ff92_6 : ffld Tryd.prog 92 6 = some (6, 1) := by kernel_rfl
theorem Tryd.fo92_8 : foff Tryd.prog 92 8 = some 8 := by kernel_rfl
theorem Tryd.ff92_8 : ffld Tryd.prog 92 8 = some (8, 1) := by kernel_rfl
theorem Tryd.fo92_9 : foff Tryd.prog 92 9 = some 9 := by kernel_rfl
theorem Tryd.ff92_9 : ffld Tryd.prog 92 9 = some (9, 1) := by kernel_rfl
theorem Tryd.fo92_10 : foff Tryd.prog 92 10 = some 10 := by kernel_rfl
theorem Tryd.ff92_10 : ffld Tryd.prog 92 10 = some (10, 1) := by kernel_rfl

attribute [push_cast] Tryd.tk2 Tryd.co2 Tryd.us2 Tryd.ik2 Tryd.zc2 Tryd.tk3 Tryd.co3 Tryd.us3 Tryd.ik3 Tryd.zc3 Tryd.tk4 Tryd.co4 Tryd.zc4 Tryd.tk5 Tryd.co5 Tryd.us5 Tryd.ik5 Tryd.zc5 Tryd.tk7 Tryd.co7 Tryd.fo7_0 Tryd.ff7_0 Tryd.fo7_1 Tryd.ff7_1 Tryd.fo7_2 Tryd.ff7_2 Tryd.fo7_3 Tryd.ff7_3 Tryd.bz7 Tryd.zc7 Tryd.tk9 Tryd.co9 Tryd.us9 Tryd.is9 Tryd.zc9 Tryd.tk12 Tryd.co12 Tryd.us12 Tryd.ik12 Tryd.zc12 Tryd.tk13 Tryd.co13 Tryd.fo13_0 Tryd.ff13_0 Tryd.fo13_1 Tryd.ff13_1 Tryd.bz13 Tryd.zc13 Tryd.tk15 Tryd.co15 Tryd.zc15 Tryd.tk16 Tryd.co16 Tryd.zc16 Tryd.tk17 Tryd.co17 Tryd.zc17 Tryd.tk18 Tryd.co18 Tryd.fo18_0 Tryd.ff18_0 Tryd.bz18 Tryd.zc18 Tryd.tk21 Tryd.co21 Tryd.us21 Tryd.ik21 Tryd.zc21 Tryd.tk22 Tryd.co22 Tryd.se22 Tryd.el22 Tryd.zc22 Tryd.tk23 Tryd.co23 Tryd.fo23_0 Tryd.ff23_0 Tryd.fo23_1 Tryd.ff23_1 Tryd.bz23 Tryd.zc23 Tryd.tk24 Tryd.co24 Tryd.fo24_0 Tryd.ff24_0 Tryd.fo24_1 Tryd.ff24_1 Tryd.bz24 Tryd.zc24 Tryd.eq24 Tryd.tk25 Tryd.co25 Tryd.fo25_0 Tryd.ff25_0 Tryd.fo25_1 Tryd.ff25_1 Tryd.fo25_2 Tryd.ff25_2 Tryd.bz25 Tryd.zc25 Tryd.tk26 Tryd.co26 Tryd.fo26_0 Tryd.ff26_0 Tryd.fo26_1 Tryd.ff26_1 Tryd.fo26_2 Tryd.ff26_2 Tryd.bz26 Tryd.zc26 Tryd.eq26 Tryd.tk31 Tryd.co31 Tryd.se31 Tryd.el31 Tryd.zc31 Tryd.tk34 Tryd.co34 Tryd.fo34_0 Tryd.ff34_0 Tryd.fo34_1 Tryd.ff34_1 Tryd.bz34 Tryd.zc34 Tryd.tk35 Tryd.co35 Tryd.fo35_0 Tryd.ff35_0 Tryd.fo35_1 Tryd.ff35_1 Tryd.bz35 Tryd.zc35 Tryd.eq35 Tryd.tk40 Tryd.co40 Tryd.zc40 Tryd.tk49 Tryd.co49 Tryd.se49 Tryd.el49 Tryd.zc49 Tryd.tk52 Tryd.co52 Tryd.fo52_0 Tryd.ff52_0 Tryd.fo52_1 Tryd.ff52_1 Tryd.bz52 Tryd.zc52 Tryd.tk53 Tryd.co53 Tryd.fo53_0 Tryd.ff53_0 Tryd.fo53_1 Tryd.ff53_1 Tryd.bz53 Tryd.zc53 Tryd.tk64 Tryd.co64 Tryd.se64 Tryd.el64 Tryd.zc64 Tryd.tk71 Tryd.co71 Tryd.us71 Tryd.ik71 Tryd.zc71 Tryd.tk73 Tryd.co73 Tryd.fo73_0 Tryd.ff73_0 Tryd.fo73_1 Tryd.ff73_1 Tryd.bz73 Tryd.zc73 Tryd.tk76 Tryd.co76 Tryd.us76 Tryd.ik76 Tryd.zc76 Tryd.tk80 Tryd.co80 Tryd.fo80_0 Tryd.ff80_0 Tryd.fo80_1 Tryd.ff80_1 Tryd.fo80_2 Tryd.ff80_2 Tryd.fo80_3 Tryd.ff80_3 Tryd.bz80 Tryd.zc80 Tryd.tk83 Tryd.co83 Tryd.ff83_0 Tryd.bz83 Tryd.zc83 Tryd.tk89 Tryd.co89 Tryd.zc89 Tryd.tk92 Tryd.co92 Tryd.fo92_0 Tryd.ff92_0 Tryd.fo92_1 Tryd.ff92_1 Tryd.fo92_2 Tryd.ff92_2 Tryd.fo92_3 Tryd.ff92_3 Tryd.fo92_4 Tryd.ff92_4 Tryd.fo92_5 Tryd.ff92_5 Tryd.fo92_6 Tryd.ff92_6 Tryd.fo92_8 Tryd.ff92_8 Tryd.fo92_9 Tryd.ff92_9 Tryd.fo92_10 Tryd.ff92_10 Tryd.underlying4 Tryd.results3 Tryd.results4 Tryd.results5 Tryd.results6 Tryd.results7 Tryd.results8 Tryd.results9 Tryd.results10 Tryd.results11 Tryd.results12 Tryd.results13 Tryd.results14 Tryd.results15 Tryd.results16 Tryd.results17 Tryd.results18 Tryd.results19 Tryd.results20 Tryd.results21 Tryd.results22 Tryd.results23 Tryd.results24 Tryd.results25 Tryd.results26 Tryd.results27 Tryd.results28 Tryd.results29 Tryd.results30 Tryd.results31 Tryd.results32 Tryd.results33 Tryd.results34 Tryd.results35 Tryd.results36 Tryd.results37 Tryd.results38 Tryd.results39 Tryd.results40 Tryd.results41 Tryd.results42 Tryd.results43 Tryd.results44 Tryd.results45 Tryd.results46 Tryd.results47 Tryd.results48 Tryd.results49 Tryd.results50 Tryd.results51 Tryd.results52 Tryd.results53 Tryd.results54 Tryd.results55 Tryd.results56 Tryd.results57 Tryd.results58 Tryd.results59 Tryd.results72 Tryd.results73 Tryd.results74 Tryd.results75 Tryd.results76 Tryd.results77 Tryd.results78 Tryd.results79 Tryd.results80 Tryd.results81

end Go.Proofs.YtpgikcjcoaaamaaDoor
