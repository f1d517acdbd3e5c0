/-
  The law SyndromeBack of package syndrome returns true for every two words and every two syndromes, and leaves its arguments as they were. Its conditions: the four listed tables (two of math/bits, one of strconv, the classes' numbers) hold what the program's text lays; the given card ties them.
-/
import Derived.Test.YtailocbophkmmaaDoorSynDiff
import Derived.Test.YtailocbophkmmaaDoorRowKit
set_option maxRecDepth 100000
namespace Go.Proofs.YtailocbophkmmaaDoor.SyndromeBack
open Go.ChangeShapes Go.WideShapes Go.ChangeAt Go.RowKit Go.WideElems Go.Deep

theorem lm {W : World} (h : laidMetH Tryd.prog Rows.syndromeBackRow.laid W) : laidMet Tryd.prog [("math/bits.deBruijn32tab", Rows.laid_math_bits_deBruijn32tab), ("math/bits.deBruijn64tab", Rows.laid_math_bits_deBruijn64tab), ("internal/strconv.uint64pow10", Rows.laid_internal_strconv_uint64pow10), ("tenement/syndrome.codes", Rows.laid_tenement_syndrome_codes)] W := h
theorem glob0 : Tryd.prog.globalNamed "math/bits.deBruijn32tab" = some 6 := by kernel_rfl
theorem tab0 {W : World} (h : laidMetH Tryd.prog Rows.syndromeBackRow.laid W) : Lib.TabIs Tryd.prog W "math/bits.deBruijn32tab" .u8 [0, 1, 28, 2, 29, 14, 24, 3, 30, 22, 20, 15, 25, 17, 4, 8, 31, 27, 13, 23, 21, 19, 16, 7, 26, 12, 18, 6, 11, 5, 10, 9] :=
  have h' : laidMet Tryd.prog (("math/bits.deBruijn32tab", Lib.tabData .u8 [0, 1, 28, 2, 29, 14, 24, 3, 30, 22, 20, 15, 25, 17, 4, 8, 31, 27, 13, 23, 21, 19, 16, 7, 26, 12, 18, 6, 11, 5, 10, 9]) :: _) W := (lm h)
  Lib.tabIs_of_head glob0 (show (Tryd.prog.globals[6]?).map (·.type) = some 129 by kernel_rfl) (show Tryd.prog.underlying 129 = some (.array 32 5) by kernel_rfl) (show Tryd.prog.underlying 5 = some (.int .u8) by kernel_rfl) (by kernel_rfl) (by kernel_rfl) h'
theorem glob1 : Tryd.prog.globalNamed "math/bits.deBruijn64tab" = some 7 := by kernel_rfl
theorem tab1 {W : World} (h : laidMetH Tryd.prog Rows.syndromeBackRow.laid W) : Lib.TabIs Tryd.prog W "math/bits.deBruijn64tab" .u8 [0, 1, 56, 2, 57, 49, 28, 3, 61, 58, 42, 50, 38, 29, 17, 4, 62, 47, 59, 36, 45, 43, 51, 22, 53, 39, 33, 30, 24, 18, 12, 5, 63, 55, 48, 27, 60, 41, 37, 16, 46, 35, 44, 21, 52, 32, 23, 11, 54, 26, 40, 15, 34, 20, 31, 10, 25, 14, 19, 9, 13, 8, 7, 6] :=
  have h' : laidMet Tryd.prog (("math/bits.deBruijn64tab", Lib.tabData .u8 [0, 1, 56, 2, 57, 49, 28, 3, 61, 58, 42, 50, 38, 29, 17, 4, 62, 47, 59, 36, 45, 43, 51, 22, 53, 39, 33, 30, 24, 18, 12, 5, 63, 55, 48, 27, 60, 41, 37, 16, 46, 35, 44, 21, 52, 32, 23, 11, 54, 26, 40, 15, 34, 20, 31, 10, 25, 14, 19, 9, 13, 8, 7, 6]) :: _) W := (laidMet.tail (lm h))
  Lib.tabIs_of_head glob1 (show (Tryd.prog.globals[7]?).map (·.type) = some 130 by kernel_rfl) (show Tryd.prog.underlying 130 = some (.array 64 5) by kernel_rfl) (show Tryd.prog.underlying 5 = some (.int .u8) by kernel_rfl) (by kernel_rfl) (by kernel_rfl) h'
theorem glob2 : Tryd.prog.globalNamed "internal/strconv.uint64pow10" = some 5 := by kernel_rfl
theorem tab2 {W : World} (h : laidMetH Tryd.prog Rows.syndromeBackRow.laid W) : Lib.TabIs Tryd.prog W "internal/strconv.uint64pow10" .u64 [1, 10, 100, 1000, 10000, 100000, 1000000, 10000000, 100000000, 1000000000, 10000000000, 100000000000, 1000000000000, 10000000000000, 100000000000000, 1000000000000000, 10000000000000000, 100000000000000000, 1000000000000000000, 10000000000000000000] :=
  have h' : laidMet Tryd.prog (("internal/strconv.uint64pow10", Lib.tabData .u64 [1, 10, 100, 1000, 10000, 100000, 1000000, 10000000, 100000000, 1000000000, 10000000000, 100000000000, 1000000000000, 10000000000000, 100000000000000, 1000000000000000, 10000000000000000, 100000000000000000, 1000000000000000000, 10000000000000000000]) :: _) W := (laidMet.tail (laidMet.tail (lm h)))
  Lib.tabIs_of_head glob2 (show (Tryd.prog.globals[5]?).map (·.type) = some 117 by kernel_rfl) (show Tryd.prog.underlying 117 = some (.array 20 22) by kernel_rfl) (show Tryd.prog.underlying 22 = some (.int .u64) by kernel_rfl) (by kernel_rfl) (by kernel_rfl) h'
theorem glob3 : Tryd.prog.globalNamed "tenement/syndrome.codes" = some 0 := by kernel_rfl
theorem tab3 {W : World} (h : laidMetH Tryd.prog Rows.syndromeBackRow.laid W) : Lib.TabIs Tryd.prog W "tenement/syndrome.codes" .u64 [63, 21, 36, 0, 62] :=
  have h' : laidMet Tryd.prog (("tenement/syndrome.codes", Lib.tabData .u64 [63, 21, 36, 0, 62]) :: _) W := (laidMet.tail (laidMet.tail (laidMet.tail (lm h))))
  Lib.tabIs_of_head glob3 (show (Tryd.prog.globals[0]?).map (·.type) = some 50 by kernel_rfl) (show Tryd.prog.underlying 50 = some (.array 5 22) by kernel_rfl) (show Tryd.prog.underlying 22 = some (.int .u64) by kernel_rfl) (by kernel_rfl) (by kernel_rfl) h'

theorem cellsSyn : Tryd.prog.cellsOf 25 = 5 := by kernel_rfl
theorem oneSyn (fs : Array Field) (h : Tryd.prog.underlying 25 = some (.struct fs)) : oneCellFields Tryd.prog fs = true := by
  rw [Tryd.underlying25] at h; injection h with h; injection h with h; subst h; kernel_rfl
theorem tab {W : World} (h : laidMetH Tryd.prog Rows.syndromeBackRow.laid W) : Tab64 W := (tab1 h).cell glob1 15 (by decide)
theorem codes {W : World} (h : laidMetH Tryd.prog Rows.syndromeBackRow.laid W) : Codes W :=
  ⟨(tab3 h).cell glob3 0 (by decide), (tab3 h).cell glob3 1 (by decide), (tab3 h).cell glob3 2 (by decide), (tab3 h).cell glob3 3 (by decide), (tab3 h).cell glob3 4 (by decide)⟩
/-- A syndrome that comes in. -/
theorem open_syn {H : Type} {enc : TypeId × Value → H} {W : World} {base : Nat} {v : Value} {d : DataW H} {p : List MemPlace} (hv : Value.okWide Tryd.prog W .any base 25 v) (h : DataW.Trod enc Tryd.prog W 0 (fun _ => true) true 25 v d p) :
    ∃ (c : Int) (s : Bool) (f l va : Int) (d0 d1 d2 d3 d4 : DataW H), v = .agg #[.int .i8 c, .bool s, .int .i8 f, .int .i8 l, .int .u64 va] ∧ d = .agg [d0, d1, d2, d3, d4] ∧ 0 ≤ va ∧ va < 18446744073709551616 := by
  obtain ⟨cs, ys, n, rfl, rfl, hc, hy, hf⟩ := open_struct Tryd.underlying25 (oneSyn _ Tryd.underlying25) cellsSyn hv h
  match cs, hc with
  | [c0, c1, c2, c3, c4], _ =>
    match ys, hy with
    | [y0, y1, y2, y3, y4], _ =>
      obtain ⟨_, _, _, e0, e1, e2, h0⟩ := hf 0 (by decide)
      simp at e0 e1 e2; subst e0 e1 e2
      obtain ⟨x0, k0, _, _⟩ := DataW.trod_int Tryd.underlying23 h0
      obtain ⟨_, _, _, e0, e1, e2, h1⟩ := hf 1 (by decide)
      simp at e0 e1 e2; subst e0 e1 e2
      obtain ⟨x1, k1, _⟩ := DataW.trod_bool Tryd.underlying4 h1
      obtain ⟨_, _, _, e0, e1, e2, h2⟩ := hf 2 (by decide)
      simp at e0 e1 e2; subst e0 e1 e2
      obtain ⟨x2, k2, _, _⟩ := DataW.trod_int Tryd.underlying23 h2
      obtain ⟨_, _, _, e0, e1, e2, h3⟩ := hf 3 (by decide)
      simp at e0 e1 e2; subst e0 e1 e2
      obtain ⟨x3, k3, _, _⟩ := DataW.trod_int Tryd.underlying23 h3
      obtain ⟨_, _, _, e0, e1, e2, h4⟩ := hf 4 (by decide)
      simp at e0 e1 e2; subst e0 e1 e2
      obtain ⟨x4, k4, _, w4⟩ := DataW.trod_int Tryd.underlying22 h4
      simp at k0 k1 k2 k3 k4; subst k0 k1 k2 k3 k4
      have := bounds_u64 w4
      exact ⟨x0, x1, x2, x3, x4, _, _, _, _, _, rfl, rfl, by omega, by omega⟩
theorem readable : ∀ t ∈ Tryd.f3.params.toList, Tryd.prog.readableRec t = true ∧ t < Tryd.prog.types.size := by
  have h : Tryd.f3.params.toList.all (fun t => Tryd.prog.readableRec t && decide (t < Tryd.prog.types.size)) = true := by kernel_rfl
  intro t ht
  have := List.all_eq_true.1 h t ht
  simpa using this

theorem contract (H : Type) (enc : TypeId × Value → H) (W : World) (base : Nat) (args : Array Value) (ds gs : List (DataW H)) (before : List MemPlace)
    (hval : ∀ (j : Nat) t v, Tryd.f3.params[j]? = some t → args[j]? = some v → Value.okWide Tryd.prog W .any base t v)
    (hW : DataW.Whole enc Tryd.prog Tryd.f3.params.toList Rows.syndromeBackSpec.vars false W args.toList ds gs before)
    (_hsz : (DataW.weightsEach Tryd.prog (Tryd.f3.params.toList ++ (OpenSpec.ofChange Rows.syndromeBackSpec).bare.plain.varTypes Tryd.prog) (ds ++ gs)).all (· ≤ reachBytes) = true)
    (hL : laidMetH Tryd.prog Rows.syndromeBackRow.laid W) :
    Calls Tryd.prog 3 args W fun e W' => ∃ v, e = .returned v ∧ Rows.syndromeBackSpec.post enc Tryd.prog Tryd.f3 false true false false W args v W' := by
  have hW' := hW
  obtain ⟨p, q, hA, hV, _, _, _⟩ := hW
  obtain ⟨rfl, rfl⟩ := trodVars_none hV
  rw [Tryd.params3] at hA hval
  obtain ⟨v0, vs0, d0, ds0, p0, q0, hargs, rfl, _, h0, r0⟩ := trodAll_cons hA
  obtain ⟨v1, vs1, d1, ds1, p1, q1, rfl, rfl, _, h1, r1⟩ := trodAll_cons r0
  obtain ⟨v2, vs2, d2, ds2, p2, q2, rfl, rfl, _, h2, r2⟩ := trodAll_cons r1
  obtain ⟨v3, vs3, d3, ds3, p3, q3, rfl, rfl, _, h3, r3⟩ := trodAll_cons r2
  obtain ⟨rfl, rfl, _⟩ := trodAll_nil r3
  obtain rfl : args = #[v0, v1, v2, v3] := by cases args; simp_all
  obtain ⟨x0, rfl, rfl, rfl, w0⟩ := open_int Tryd.underlying22 (hval 0 22 v0 rfl rfl) h0
  obtain ⟨x1, rfl, rfl, rfl, w1⟩ := open_int Tryd.underlying22 (hval 1 22 v1 rfl rfl) h1
  obtain ⟨c, s, f, l, va, _, _, _, _, _, rfl, rfl, b0, b1⟩ := open_syn (hval 2 25 v2 rfl rfl) h2
  obtain ⟨c', s', f', l', va', _, _, _, _, _, rfl, rfl, b0', b1'⟩ := open_syn (hval 3 25 v3 rfl rfl) h3
  have bx := bounds_u64 w0
  refine (law_all x0 x1 c s f l va c' s' f' l' va' W (by omega) (by omega) b0 b1 b0' b1' (codes hL) (tab hL)).mono fun e W' ⟨he, hb⟩ => ?_
  subst he
  exact ⟨_, rfl, law_post laidOutA Tryd.underlying4 rfl (by kernel_rfl) readable hW' ⟨rfl, rfl, rfl⟩ hb⟩

/-- A world for the witness: the listed variables hold what their initialisers lay. -/
noncomputable def laidWorld (os : Os) : World :=
  { World.holding Tryd.prog os ⟨#[], #[], []⟩ with heap := (((((World.holding Tryd.prog os ⟨#[], #[], []⟩).heap).modify 6 (laidCells #[.int .u8 0, .int .u8 1, .int .u8 28, .int .u8 2, .int .u8 29, .int .u8 14, .int .u8 24, .int .u8 3, .int .u8 30, .int .u8 22, .int .u8 20, .int .u8 15, .int .u8 25, .int .u8 17, .int .u8 4, .int .u8 8, .int .u8 31, .int .u8 27, .int .u8 13, .int .u8 23, .int .u8 21, .int .u8 19, .int .u8 16, .int .u8 7, .int .u8 26, .int .u8 12, .int .u8 18, .int .u8 6, .int .u8 11, .int .u8 5, .int .u8 10, .int .u8 9])).modify 7 (laidCells #[.int .u8 0, .int .u8 1, .int .u8 56, .int .u8 2, .int .u8 57, .int .u8 49, .int .u8 28, .int .u8 3, .int .u8 61, .int .u8 58, .int .u8 42, .int .u8 50, .int .u8 38, .int .u8 29, .int .u8 17, .int .u8 4, .int .u8 62, .int .u8 47, .int .u8 59, .int .u8 36, .int .u8 45, .int .u8 43, .int .u8 51, .int .u8 22, .int .u8 53, .int .u8 39, .int .u8 33, .int .u8 30, .int .u8 24, .int .u8 18, .int .u8 12, .int .u8 5, .int .u8 63, .int .u8 55, .int .u8 48, .int .u8 27, .int .u8 60, .int .u8 41, .int .u8 37, .int .u8 16, .int .u8 46, .int .u8 35, .int .u8 44, .int .u8 21, .int .u8 52, .int .u8 32, .int .u8 23, .int .u8 11, .int .u8 54, .int .u8 26, .int .u8 40, .int .u8 15, .int .u8 34, .int .u8 20, .int .u8 31, .int .u8 10, .int .u8 25, .int .u8 14, .int .u8 19, .int .u8 9, .int .u8 13, .int .u8 8, .int .u8 7, .int .u8 6])).modify 5 (laidCells #[.int .u64 1, .int .u64 10, .int .u64 100, .int .u64 1000, .int .u64 10000, .int .u64 100000, .int .u64 1000000, .int .u64 10000000, .int .u64 100000000, .int .u64 1000000000, .int .u64 10000000000, .int .u64 100000000000, .int .u64 1000000000000, .int .u64 10000000000000, .int .u64 100000000000000, .int .u64 1000000000000000, .int .u64 10000000000000000, .int .u64 100000000000000000, .int .u64 1000000000000000000, .int .u64 10000000000000000000])).modify 0 (laidCells #[.int .u64 63, .int .u64 21, .int .u64 36, .int .u64 0, .int .u64 62]) }
set_option maxRecDepth 100000 in
theorem laid_met (os : Os) : laidMet Tryd.prog Rows.syndromeBackRow.laid ((laidWorld os).forCall (fun _ _ => 0) ⟨#[], #[.int .u64 0, .int .u64 0, .agg #[.int .i8 0, .bool false, .int .i8 0, .int .i8 0, .int .u64 0], .agg #[.int .i8 0, .bool false, .int .i8 0, .int .i8 0, .int .u64 0]], []⟩).memory :=
  laidMet_of_run' 8 (by kernel_rfl) (by kernel_rfl)
theorem reads (os : Os) {H : Type} (enc : TypeId × Value → H) : ∃ places, DataW.whole enc Tryd.prog ((laidWorld os).forCall (fun _ _ => 0) ⟨#[], #[.int .u64 0, .int .u64 0, .agg #[.int .i8 0, .bool false, .int .i8 0, .int .i8 0, .int .u64 0], .agg #[.int .i8 0, .bool false, .int .i8 0, .int .i8 0, .int .u64 0]], []⟩).memory Tryd.f3.params.toList Rows.syndromeBackSpec.vars false (#[.int .u64 0, .int .u64 0, .agg #[.int .i8 0, .bool false, .int .i8 0, .int .i8 0, .int .u64 0], .agg #[.int .i8 0, .bool false, .int .i8 0, .int .i8 0, .int .u64 0]] : Array Value).toList 8 = some ([.lit (.int .u64 0), .lit (.int .u64 0), .agg [.lit (.int .i8 0), .lit (.bool false), .lit (.int .i8 0), .lit (.int .i8 0), .lit (.int .u64 0)], .agg [.lit (.int .i8 0), .lit (.bool false), .lit (.int .i8 0), .lit (.int .i8 0), .lit (.int .u64 0)]], [], places) :=
  ⟨[], by kernel_rfl⟩
set_option maxRecDepth 100000 in
theorem lifted (os : Os) (started : os.Started) (H : Type) (enc : TypeId × Value → H) (F : Stop.Interp) :
    ReturnsInHanded {} Tryd.checked os 3 .any ((OpenSpec.ofChange Rows.syndromeBackSpec).preRow enc Tryd.prog Tryd.f3 Rows.syndromeBackRow.domain false Rows.syndromeBackRow.laid) (((OpenSpec.ofChange Rows.syndromeBackSpec).at F).post enc Tryd.prog Tryd.f3 false true false false) := by
  obtain ⟨places, hx⟩ := reads os enc
  refine returnsInHanded_of_row (C := Tryd.checked) (s := OpenSpec.ofChange Rows.syndromeBackSpec) own started (by kernel_rfl) Tryd.func3
    (witness_row_at (enc := enc) (C := Tryd.checked) false (laidWorld os) #[.int .u64 0, .int .u64 0, .agg #[.int .i8 0, .bool false, .int .i8 0, .int .i8 0, .int .u64 0], .agg #[.int .i8 0, .bool false, .int .i8 0, .int .i8 0, .int .u64 0]] rfl (by kernel_rfl) (by kernel_rfl) (by kernel_rfl)
      (OpenSpec.preRow_of_cond 8 hx (by kernel_rfl) (fun k hk => by cases hk) (by kernel_rfl) (laid_met os))) ?_
  intro W base args ds gs before hval hW _ _ hsz hL _ _
  exact contract H enc W base args ds gs before hval hW hsz hL
theorem said : Rows.SyndromeBackSaid :=
  OpenClaim.holds_of_cond 3 Tryd.f3 rfl rfl rfl rfl rfl rfl rfl ⟨rfl, rfl, rfl, rfl, rfl⟩ rfl rfl rfl rfl rfl (by kernel_rfl) Tryd.func3 (by kernel_rfl)
    (of_decide_eq_true (by kernel_rfl)) (by unfold Func.isWrapper; first | (rw [if_pos (by decide +kernel)]; kernel_rfl) | (rw [if_neg (by decide +kernel)]; exact ⟨rfl, rfl⟩))
    (fun os started H enc _ F => by rw [OpenClaim.pre_eq_preRow]; exact lifted os started H enc F)
theorem plainParams : Tryd.f3.params.toList.all (fun t => !(Tryd.prog.wantsStandIn t)) = true := by kernel_rfl
theorem plain (f : FuncId) (fn : Func) (hf : Tryd.pinned.checked.prog.funcNamed "tenement/tenementlaw04.SyndromeBack" = some f) (hfn : Tryd.pinned.checked.prog.funcs[f]? = some fn) :
    false = Tryd.pinned.checked.prog.looks [] ∧ ∀ (j : Nat) t, fn.params[j]? = some t → Tryd.pinned.checked.prog.wantsStandIn t = false := by
  obtain rfl : f = 3 := Option.some.inj ((show Tryd.prog.funcNamed "tenement/tenementlaw04.SyndromeBack" = some 3 by kernel_rfl).symm.trans hf) |>.symm
  obtain rfl : fn = Tryd.f3 := (Option.some.inj (Tryd.func3.symm.trans hfn)).symm
  refine ⟨by kernel_rfl, fun j t ht => ?_⟩
  have h := List.all_eq_true.1 plainParams t (by simpa using Array.mem_of_getElem? ht)
  exact (show Tryd.prog.wantsStandIn t = false by simpa using h)
/-- The card: what counts. -/
theorem card : Rows.SyndromeBackCardSaid :=
  Claim7.holds_tied_plain_at .later [] _ _ _ _ said (fun _ h => by cases h) (by kernel_rfl) (fun _ h => by cases h) syndromeBack_row_tie rfl ⟨rfl, rfl⟩ (by kernel_rfl) rfl plain (by kernel_rfl)

end Go.Proofs.YtailocbophkmmaaDoor.SyndromeBack
namespace Go.Proofs.YtailocbophkmmaaDoor
theorem syndromeBack_card : Rows.SyndromeBackCardSaid := SyndromeBack.card
end Go.Proofs.YtailocbophkmmaaDoor
