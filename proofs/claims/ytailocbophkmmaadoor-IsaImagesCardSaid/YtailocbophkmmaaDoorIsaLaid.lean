/-
  What the four laws' rows of package isa list: the tables hold what the walks read.
-/
import Derived.Test.YtailocbophkmmaaDoorIsaNames
import Derived.Test.YtailocbophkmmaaDoorLaidKit
set_option maxRecDepth 100000
namespace Go.Proofs.YtailocbophkmmaaDoor.IsaLaid
open Go.ChangeShapes Go.WideShapes Go.ChangeAt Go.RowKit Go.WideElems Go.Deep FP

theorem lm {W : World} (h : laidMetH Tryd.prog Rows.isaBackRow.laid W) : laidMet Tryd.prog [("math/bits.deBruijn32tab", Rows.laid_math_bits_deBruijn32tab), ("math/bits.deBruijn64tab", Rows.laid_math_bits_deBruijn64tab), ("internal/strconv.uint64pow10", Rows.laid_internal_strconv_uint64pow10), ("tenement/alu.shapes", Rows.laid_tenement_alu_shapes), ("tenement/isa.words", Rows.laid_tenement_isa_words), ("tenement/isa.masks", Rows.laid_tenement_isa_masks), ("tenement/isa.names", Rows.laid_tenement_isa_names)] W := h
theorem glob0 : Tryd.prog.globalNamed "math/bits.deBruijn32tab" = some 6 := by kernel_rfl
theorem tab0 {W : World} (h : laidMetH Tryd.prog Rows.isaBackRow.laid W) : Lib.TabIs Tryd.prog W "math/bits.deBruijn32tab" .u8 [0, 1, 28, 2, 29, 14, 24, 3, 30, 22, 20, 15, 25, 17, 4, 8, 31, 27, 13, 23, 21, 19, 16, 7, 26, 12, 18, 6, 11, 5, 10, 9] :=
  have h' : laidMet Tryd.prog (("math/bits.deBruijn32tab", Lib.tabData .u8 [0, 1, 28, 2, 29, 14, 24, 3, 30, 22, 20, 15, 25, 17, 4, 8, 31, 27, 13, 23, 21, 19, 16, 7, 26, 12, 18, 6, 11, 5, 10, 9]) :: _) W := (lm h)
  Lib.tabIs_of_head glob0 (show (Tryd.prog.globals[6]?).map (·.type) = some 129 by kernel_rfl) (show Tryd.prog.underlying 129 = some (.array 32 5) by kernel_rfl) (show Tryd.prog.underlying 5 = some (.int .u8) by kernel_rfl) (by kernel_rfl) (by kernel_rfl) h'
theorem glob1 : Tryd.prog.globalNamed "math/bits.deBruijn64tab" = some 7 := by kernel_rfl
theorem tab1 {W : World} (h : laidMetH Tryd.prog Rows.isaBackRow.laid W) : Lib.TabIs Tryd.prog W "math/bits.deBruijn64tab" .u8 [0, 1, 56, 2, 57, 49, 28, 3, 61, 58, 42, 50, 38, 29, 17, 4, 62, 47, 59, 36, 45, 43, 51, 22, 53, 39, 33, 30, 24, 18, 12, 5, 63, 55, 48, 27, 60, 41, 37, 16, 46, 35, 44, 21, 52, 32, 23, 11, 54, 26, 40, 15, 34, 20, 31, 10, 25, 14, 19, 9, 13, 8, 7, 6] :=
  have h' : laidMet Tryd.prog (("math/bits.deBruijn64tab", Lib.tabData .u8 [0, 1, 56, 2, 57, 49, 28, 3, 61, 58, 42, 50, 38, 29, 17, 4, 62, 47, 59, 36, 45, 43, 51, 22, 53, 39, 33, 30, 24, 18, 12, 5, 63, 55, 48, 27, 60, 41, 37, 16, 46, 35, 44, 21, 52, 32, 23, 11, 54, 26, 40, 15, 34, 20, 31, 10, 25, 14, 19, 9, 13, 8, 7, 6]) :: _) W := (laidMet.tail (lm h))
  Lib.tabIs_of_head glob1 (show (Tryd.prog.globals[7]?).map (·.type) = some 130 by kernel_rfl) (show Tryd.prog.underlying 130 = some (.array 64 5) by kernel_rfl) (show Tryd.prog.underlying 5 = some (.int .u8) by kernel_rfl) (by kernel_rfl) (by kernel_rfl) h'
theorem glob2 : Tryd.prog.globalNamed "internal/strconv.uint64pow10" = some 5 := by kernel_rfl
theorem tab2 {W : World} (h : laidMetH Tryd.prog Rows.isaBackRow.laid W) : Lib.TabIs Tryd.prog W "internal/strconv.uint64pow10" .u64 [1, 10, 100, 1000, 10000, 100000, 1000000, 10000000, 100000000, 1000000000, 10000000000, 100000000000, 1000000000000, 10000000000000, 100000000000000, 1000000000000000, 10000000000000000, 100000000000000000, 1000000000000000000, 10000000000000000000] :=
  have h' : laidMet Tryd.prog (("internal/strconv.uint64pow10", Lib.tabData .u64 [1, 10, 100, 1000, 10000, 100000, 1000000, 10000000, 100000000, 1000000000, 10000000000, 100000000000, 1000000000000, 10000000000000, 100000000000000, 1000000000000000, 10000000000000000, 100000000000000000, 1000000000000000000, 10000000000000000000]) :: _) W := (laidMet.tail (laidMet.tail (lm h)))
  Lib.tabIs_of_head glob2 (show (Tryd.prog.globals[5]?).map (·.type) = some 117 by kernel_rfl) (show Tryd.prog.underlying 117 = some (.array 20 22) by kernel_rfl) (show Tryd.prog.underlying 22 = some (.int .u64) by kernel_rfl) (by kernel_rfl) (by kernel_rfl) h'
theorem glob4 : Tryd.prog.globalNamed "tenement/isa.words" = some 1 := by kernel_rfl
theorem tab4 {W : World} (h : laidMetH Tryd.prog Rows.isaBackRow.laid W) : Lib.TabIs Tryd.prog W "tenement/isa.words" .u32 [3573751839, 3531603968, 2332033024, 3405774848, 2315255808, 2852126720, 3388997632, 2432696320, 4181721088, 4177526784, 3361700864, 3355474944, 3365927936, 3573759935, 335544320, 3019898880, 3036676096, 3556769793, 0] :=
  have h' : laidMet Tryd.prog (("tenement/isa.words", Lib.tabData .u32 [3573751839, 3531603968, 2332033024, 3405774848, 2315255808, 2852126720, 3388997632, 2432696320, 4181721088, 4177526784, 3361700864, 3355474944, 3365927936, 3573759935, 335544320, 3019898880, 3036676096, 3556769793, 0]) :: _) W := (laidMet.tail (laidMet.tail (laidMet.tail (laidMet.tail (lm h)))))
  Lib.tabIs_of_head glob4 (show (Tryd.prog.globals[1]?).map (·.type) = some 81 by kernel_rfl) (show Tryd.prog.underlying 81 = some (.array 19 34) by kernel_rfl) (show Tryd.prog.underlying 34 = some (.int .u32) by kernel_rfl) (by kernel_rfl) (by kernel_rfl) h'
theorem glob5 : Tryd.prog.globalNamed "tenement/isa.masks" = some 4 := by kernel_rfl
theorem tab5 {W : World} (h : laidMetH Tryd.prog Rows.isaBackRow.laid W) : Lib.TabIs Tryd.prog W "tenement/isa.masks" .u32 [4294967295, 4292870144, 4292934656, 4292934656, 4292934656, 4292934656, 4292934656, 4290772992, 4294966272, 4294966272, 4294966272, 4292934656, 4294966272, 4294967295, 4227858432, 4278190080, 4278190080, 4294967295] :=
  have h' : laidMet Tryd.prog (("tenement/isa.masks", Lib.tabData .u32 [4294967295, 4292870144, 4292934656, 4292934656, 4292934656, 4292934656, 4292934656, 4290772992, 4294966272, 4294966272, 4294966272, 4292934656, 4294966272, 4294967295, 4227858432, 4278190080, 4278190080, 4294967295]) :: _) W := (laidMet.tail (laidMet.tail (laidMet.tail (laidMet.tail (laidMet.tail (lm h))))))
  Lib.tabIs_of_head glob5 (show (Tryd.prog.globals[4]?).map (·.type) = some 100 by kernel_rfl) (show Tryd.prog.underlying 100 = some (.array 18 34) by kernel_rfl) (show Tryd.prog.underlying 34 = some (.int .u32) by kernel_rfl) (by kernel_rfl) (by kernel_rfl) h'

theorem words {W : World} (h : laidMetH Tryd.prog Rows.isaBackRow.laid W) : Words W := fun n hn => by
  rw [(tab4 h).cell glob4 n (by simpa using hn)]
  have : ∀ n, n < 19 → ([3573751839, 3531603968, 2332033024, 3405774848, 2315255808, 2852126720, 3388997632, 2432696320, 4181721088, 4177526784, 3361700864, 3355474944, 3365927936, 3573759935, 335544320, 3019898880, 3036676096, 3556769793, 0] : List Int).getD n 0 = wordI n := by decide
  exact congrArg (fun z => some (Value.int .u32 z)) (this n hn)
theorem masks {W : World} (h : laidMetH Tryd.prog Rows.isaBackRow.laid W) : Masks W := fun n hn => by
  rw [(tab5 h).cell glob5 n (by simpa using hn)]
  have : ∀ n, n < 18 → ([4294967295, 4292870144, 4292934656, 4292934656, 4292934656, 4292934656, 4292934656, 4290772992, 4294966272, 4294966272, 4294966272, 4292934656, 4294966272, 4294967295, 4227858432, 4278190080, 4278190080, 4294967295] : List Int).getD n 0 = maskI n := by decide
  exact congrArg (fun z => some (Value.int .u32 z)) (this n hn)
theorem globS : Tryd.prog.globalNamed "tenement/alu.shapes" = some 3 := by kernel_rfl
theorem globN : Tryd.prog.globalNamed "tenement/isa.names" = some 2 := by kernel_rfl
theorem tyS : (Tryd.prog.globals[3]?).map (·.type) = some 90 := by kernel_rfl
theorem tyN : (Tryd.prog.globals[2]?).map (·.type) = some 86 := by kernel_rfl
theorem cellsS : Tryd.prog.cellsOf 89 = 5 := by kernel_rfl
def shapeD (n : Nat) : DataW Unit := .agg [.lit (.bool (hasD n)), .lit (.bool (hasN n)), .lit (.bool (hasM n)), .lit (.int .i64 (leastI n)), .lit (.int .i64 (mostI n))]
theorem shapesAre : (Rows.laid_tenement_alu_shapes : DataW Unit) = .agg ((List.range 19).map shapeD) := by kernel_rfl
theorem namesAre : (Rows.laid_tenement_isa_names : DataW Unit) = .agg ((List.range 19).map fun n => .lit (.string (nameL n))) := by kernel_rfl
theorem shapes {W : World} (h : laidMetH Tryd.prog Rows.isaBackRow.laid W) : Shapes W := fun n hn => by
  have h3 := (laidMet.tail (laidMet.tail (laidMet.tail (lm h))))
  rw [shapesAre] at h3
  have hd : ((List.range 19).map shapeD)[n]? = some (shapeD n) := by simp [hn]
  have key := fun (j : Nat) (l : Lit) (f : Field) => laid_str (f := f) globS tyS Tryd.underlying90 Tryd.underlying89 h3 n j l hd
  rw [cellsS] at key
  refine ⟨?_, ?_, ?_, ?_, ?_⟩
  · exact key 0 _ _ rfl (by kernel_rfl) rfl
  · exact key 1 _ _ rfl (by kernel_rfl) rfl
  · exact key 2 _ _ rfl (by kernel_rfl) rfl
  · exact key 3 _ _ rfl (by kernel_rfl) rfl
  · exact key 4 _ _ rfl (by kernel_rfl) rfl
theorem names {W : World} (h : laidMetH Tryd.prog Rows.isaBackRow.laid W) : Names W := fun n hn => by
  have h3 := (laidMet.tail (laidMet.tail (laidMet.tail (laidMet.tail (laidMet.tail (laidMet.tail (lm h)))))))
  rw [namesAre] at h3
  exact laid_arr globN tyN Tryd.underlying86 (by kernel_rfl) (by kernel_rfl) h3 n (.string (nameL n)) (by simp [hn])
end Go.Proofs.YtailocbophkmmaaDoor.IsaLaid
