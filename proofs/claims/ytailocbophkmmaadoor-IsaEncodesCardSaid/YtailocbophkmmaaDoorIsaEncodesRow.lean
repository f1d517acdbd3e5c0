/-
  The law IsaEncodes of package isa returns true for every instruction, and leaves its argument as it was. Its conditions: the listed tables hold what the program's text lays; the given card ties them.
-/
import Derived.Test.YtailocbophkmmaaDoorIsaEncs
import Derived.Test.YtailocbophkmmaaDoorIsaOpen
set_option maxRecDepth 100000
namespace Go.Proofs.YtailocbophkmmaaDoor.IsaEncodes
open Go.ChangeShapes Go.WideShapes Go.ChangeAt Go.RowKit Go.WideElems Go.Deep

theorem readable : ∀ t ∈ Tryd.f5.params.toList, Tryd.prog.readableRec t = true ∧ t < Tryd.prog.types.size := by
  have h : Tryd.f5.params.toList.all (fun t => Tryd.prog.readableRec t && decide (t < Tryd.prog.types.size)) = true := by kernel_rfl
  intro t ht
  have := List.all_eq_true.1 h t ht
  simpa using this

theorem pow10_eq : Lib.pow10Tab = [1, 10, 100, 1000, 10000, 100000, 1000000, 10000000, 100000000, 1000000000, 10000000000, 100000000000, 1000000000000, 10000000000000, 100000000000000, 1000000000000000, 10000000000000000, 100000000000000000, 1000000000000000000, 10000000000000000000] := by kernel_rfl
theorem pow {W : World} (h : laidMetH Tryd.prog Rows.isaBackRow.laid W) : Pow10 W := by
  unfold Pow10
  rw [pow10_eq]
  exact IsaLaid.tab2 h
theorem contract (H : Type) (enc : TypeId × Value → H) (W : World) (base : Nat) (args : Array Value) (ds gs : List (DataW H)) (before : List MemPlace)
    (hval : ∀ (j : Nat) t v, Tryd.f5.params[j]? = some t → args[j]? = some v → Value.okWide Tryd.prog W .any base t v)
    (hW : DataW.Whole enc Tryd.prog Tryd.f5.params.toList Rows.isaEncodesSpec.vars false W args.toList ds gs before)
    (_hsz : (DataW.weightsEach Tryd.prog (Tryd.f5.params.toList ++ (OpenSpec.ofChange Rows.isaEncodesSpec).bare.plain.varTypes Tryd.prog) (ds ++ gs)).all (· ≤ reachBytes) = true)
    (hL : laidMetH Tryd.prog Rows.isaEncodesRow.laid W) :
    Calls Tryd.prog 5 args W fun e W' => ∃ v, e = .returned v ∧ Rows.isaEncodesSpec.post enc Tryd.prog Tryd.f5 false true false false W args v W' := by
  have hW' := hW
  obtain ⟨p, q, hA, hV, _, _, _⟩ := hW
  obtain ⟨rfl, rfl⟩ := trodVars_none hV
  rw [Tryd.params5] at hA hval
  obtain ⟨v0, vs0, d0, ds0, p0, q0, hargs, rfl, _, h0, r0⟩ := trodAll_cons hA
  obtain ⟨rfl, rfl, _⟩ := trodAll_nil r0
  obtain rfl : args = #[v0] := by cases args; simp_all
  obtain ⟨op, d, n, m, imm, _, _, _, _, _, rfl, rfl, _, _, _, _, b0, b1⟩ := open_instr (hval 0 36 v0 rfl rfl) h0
  have hL' : laidMetH Tryd.prog Rows.isaBackRow.laid W := hL
  refine (encodes_any op d n m imm W b0 b1 (IsaLaid.shapes hL') (IsaLaid.words hL') (IsaLaid.masks hL') (IsaLaid.names hL') (pow hL')).mono fun e W' ⟨he, hb⟩ => ?_
  subst he
  exact ⟨_, rfl, law_post laidOutA Tryd.underlying4 rfl (by kernel_rfl) readable hW' ⟨rfl, rfl, rfl⟩ hb⟩

/-- A world for the witness: the listed variables hold what their initialisers lay. -/
noncomputable def laidWorld (os : Os) : World :=
  { World.holding Tryd.prog os ⟨#[], #[], []⟩ with heap := ((((((((World.holding Tryd.prog os ⟨#[], #[], []⟩).heap).modify 6 (laidCells #[.int .u8 0, .int .u8 1, .int .u8 28, .int .u8 2, .int .u8 29, .int .u8 14, .int .u8 24, .int .u8 3, .int .u8 30, .int .u8 22, .int .u8 20, .int .u8 15, .int .u8 25, .int .u8 17, .int .u8 4, .int .u8 8, .int .u8 31, .int .u8 27, .int .u8 13, .int .u8 23, .int .u8 21, .int .u8 19, .int .u8 16, .int .u8 7, .int .u8 26, .int .u8 12, .int .u8 18, .int .u8 6, .int .u8 11, .int .u8 5, .int .u8 10, .int .u8 9])).modify 7 (laidCells #[.int .u8 0, .int .u8 1, .int .u8 56, .int .u8 2, .int .u8 57, .int .u8 49, .int .u8 28, .int .u8 3, .int .u8 61, .int .u8 58, .int .u8 42, .int .u8 50, .int .u8 38, .int .u8 29, .int .u8 17, .int .u8 4, .int .u8 62, .int .u8 47, .int .u8 59, .int .u8 36, .int .u8 45, .int .u8 43, .int .u8 51, .int .u8 22, .int .u8 53, .int .u8 39, .int .u8 33, .int .u8 30, .int .u8 24, .int .u8 18, .int .u8 12, .int .u8 5, .int .u8 63, .int .u8 55, .int .u8 48, .int .u8 27, .int .u8 60, .int .u8 41, .int .u8 37, .int .u8 16, .int .u8 46, .int .u8 35, .int .u8 44, .int .u8 21, .int .u8 52, .int .u8 32, .int .u8 23, .int .u8 11, .int .u8 54, .int .u8 26, .int .u8 40, .int .u8 15, .int .u8 34, .int .u8 20, .int .u8 31, .int .u8 10, .int .u8 25, .int .u8 14, .int .u8 19, .int .u8 9, .int .u8 13, .int .u8 8, .int .u8 7, .int .u8 6])).modify 5 (laidCells #[.int .u64 1, .int .u64 10, .int .u64 100, .int .u64 1000, .int .u64 10000, .int .u64 100000, .int .u64 1000000, .int .u64 10000000, .int .u64 100000000, .int .u64 1000000000, .int .u64 10000000000, .int .u64 100000000000, .int .u64 1000000000000, .int .u64 10000000000000, .int .u64 100000000000000, .int .u64 1000000000000000, .int .u64 10000000000000000, .int .u64 100000000000000000, .int .u64 1000000000000000000, .int .u64 10000000000000000000])).modify 3 (laidCells #[.bool false, .bool false, .bool false, .int .i64 0, .int .i64 0, .bool true, .bool false, .bool false, .int .i64 0, .int .i64 65535, .bool true, .bool true, .bool true, .int .i64 0, .int .i64 0, .bool true, .bool true, .bool true, .int .i64 0, .int .i64 0, .bool true, .bool true, .bool true, .int .i64 0, .int .i64 0, .bool true, .bool true, .bool true, .int .i64 0, .int .i64 0, .bool true, .bool true, .bool true, .int .i64 0, .int .i64 0, .bool true, .bool true, .bool false, .int .i64 (-2048), .int .i64 2047, .bool true, .bool true, .bool false, .int .i64 0, .int .i64 0, .bool true, .bool true, .bool false, .int .i64 0, .int .i64 0, .bool true, .bool true, .bool false, .int .i64 0, .int .i64 0, .bool true, .bool true, .bool true, .int .i64 0, .int .i64 0, .bool true, .bool true, .bool false, .int .i64 0, .int .i64 0, .bool false, .bool false, .bool false, .int .i64 0, .int .i64 0, .bool false, .bool false, .bool false, .int .i64 (-1024), .int .i64 1023, .bool true, .bool false, .bool false, .int .i64 (-1024), .int .i64 1023, .bool true, .bool false, .bool false, .int .i64 (-1024), .int .i64 1023, .bool false, .bool false, .bool false, .int .i64 0, .int .i64 0, .bool false, .bool false, .bool false, .int .i64 0, .int .i64 0])).modify 1 (laidCells #[.int .u32 3573751839, .int .u32 3531603968, .int .u32 2332033024, .int .u32 3405774848, .int .u32 2315255808, .int .u32 2852126720, .int .u32 3388997632, .int .u32 2432696320, .int .u32 4181721088, .int .u32 4177526784, .int .u32 3361700864, .int .u32 3355474944, .int .u32 3365927936, .int .u32 3573759935, .int .u32 335544320, .int .u32 3019898880, .int .u32 3036676096, .int .u32 3556769793, .int .u32 0])).modify 4 (laidCells #[.int .u32 4294967295, .int .u32 4292870144, .int .u32 4292934656, .int .u32 4292934656, .int .u32 4292934656, .int .u32 4292934656, .int .u32 4292934656, .int .u32 4290772992, .int .u32 4294966272, .int .u32 4294966272, .int .u32 4294966272, .int .u32 4292934656, .int .u32 4294966272, .int .u32 4294967295, .int .u32 4227858432, .int .u32 4278190080, .int .u32 4278190080, .int .u32 4294967295])).modify 2 (laidCells #[.string ⟨#[110, 111, 112]⟩, .string ⟨#[109, 111, 118]⟩, .string ⟨#[97, 100, 100]⟩, .string ⟨#[115, 117, 98]⟩, .string ⟨#[97, 110, 100]⟩, .string ⟨#[111, 114, 114]⟩, .string ⟨#[101, 111, 114]⟩, .string ⟨#[97, 100, 100, 105]⟩, .string ⟨#[108, 100, 114]⟩, .string ⟨#[115, 116, 114]⟩, .string ⟨#[108, 100, 120, 114]⟩, .string ⟨#[115, 116, 120, 114]⟩, .string ⟨#[115, 116, 108, 114]⟩, .string ⟨#[100, 109, 98]⟩, .string ⟨#[98]⟩, .string ⟨#[99, 98, 122]⟩, .string ⟨#[99, 98, 110, 122]⟩, .string ⟨#[115, 118, 99]⟩, .string ⟨#[98, 97, 100]⟩]) }
set_option maxRecDepth 100000 in
theorem laid_met (os : Os) : laidMet Tryd.prog Rows.isaEncodesRow.laid ((laidWorld os).forCall (fun _ _ => 0) ⟨#[], #[.agg #[.int .i8 0, .int .i8 0, .int .i8 0, .int .i8 0, .int .i64 0]], []⟩).memory :=
  laidMet_of_run' 8 (by kernel_rfl) (by kernel_rfl)
theorem reads (os : Os) {H : Type} (enc : TypeId × Value → H) : ∃ places, DataW.whole enc Tryd.prog ((laidWorld os).forCall (fun _ _ => 0) ⟨#[], #[.agg #[.int .i8 0, .int .i8 0, .int .i8 0, .int .i8 0, .int .i64 0]], []⟩).memory Tryd.f5.params.toList Rows.isaEncodesSpec.vars false (#[.agg #[.int .i8 0, .int .i8 0, .int .i8 0, .int .i8 0, .int .i64 0]] : Array Value).toList 8 = some ([.agg [.lit (.int .i8 0), .lit (.int .i8 0), .lit (.int .i8 0), .lit (.int .i8 0), .lit (.int .i64 0)]], [], places) :=
  ⟨[], by kernel_rfl⟩
set_option maxRecDepth 100000 in
theorem lifted (os : Os) (started : os.Started) (H : Type) (enc : TypeId × Value → H) (F : Stop.Interp) :
    ReturnsInHanded {} Tryd.checked os 5 .any ((OpenSpec.ofChange Rows.isaEncodesSpec).preRow enc Tryd.prog Tryd.f5 Rows.isaEncodesRow.domain false Rows.isaEncodesRow.laid) (((OpenSpec.ofChange Rows.isaEncodesSpec).at F).post enc Tryd.prog Tryd.f5 false true false false) := by
  obtain ⟨places, hx⟩ := reads os enc
  refine returnsInHanded_of_row (C := Tryd.checked) (s := OpenSpec.ofChange Rows.isaEncodesSpec) own started (by kernel_rfl) Tryd.func5
    (witness_row_at (enc := enc) (C := Tryd.checked) false (laidWorld os) #[.agg #[.int .i8 0, .int .i8 0, .int .i8 0, .int .i8 0, .int .i64 0]] rfl (by kernel_rfl) (by kernel_rfl) (by kernel_rfl)
      (OpenSpec.preRow_of_cond 8 hx (by kernel_rfl) (fun k hk => by cases hk) (by kernel_rfl) (laid_met os))) ?_
  intro W base args ds gs before hval hW _ _ hsz hL _ _
  exact contract H enc W base args ds gs before hval hW hsz hL
theorem said : Rows.IsaEncodesSaid :=
  OpenClaim.holds_of_cond 5 Tryd.f5 rfl rfl rfl rfl rfl rfl rfl ⟨rfl, rfl, rfl, rfl, rfl⟩ rfl rfl rfl rfl rfl (by kernel_rfl) Tryd.func5 (by kernel_rfl)
    (of_decide_eq_true (by kernel_rfl)) (by unfold Func.isWrapper; first | (rw [if_pos (by decide +kernel)]; kernel_rfl) | (rw [if_neg (by decide +kernel)]; exact ⟨rfl, rfl⟩))
    (fun os started H enc _ F => by rw [OpenClaim.pre_eq_preRow]; exact lifted os started H enc F)
theorem plainParams : Tryd.f5.params.toList.all (fun t => !(Tryd.prog.wantsStandIn t)) = true := by kernel_rfl
theorem plain (f : FuncId) (fn : Func) (hf : Tryd.pinned.checked.prog.funcNamed "tenement/tenementlaw07.IsaEncodes" = some f) (hfn : Tryd.pinned.checked.prog.funcs[f]? = some fn) :
    false = Tryd.pinned.checked.prog.looks [] ∧ ∀ (j : Nat) t, fn.params[j]? = some t → Tryd.pinned.checked.prog.wantsStandIn t = false := by
  obtain rfl : f = 5 := Option.some.inj ((show Tryd.prog.funcNamed "tenement/tenementlaw07.IsaEncodes" = some 5 by kernel_rfl).symm.trans hf) |>.symm
  obtain rfl : fn = Tryd.f5 := (Option.some.inj (Tryd.func5.symm.trans hfn)).symm
  refine ⟨by kernel_rfl, fun j t ht => ?_⟩
  have h := List.all_eq_true.1 plainParams t (by simpa using Array.mem_of_getElem? ht)
  exact (show Tryd.prog.wantsStandIn t = false by simpa using h)
/-- The card: what counts. -/
theorem card : Rows.IsaEncodesCardSaid :=
  Claim7.holds_tied_plain_at .later [] _ _ _ _ said (fun _ h => by cases h) (by kernel_rfl) (fun _ h => by cases h) isaEncodes_row_tie rfl ⟨rfl, rfl⟩ (by kernel_rfl) rfl plain (by kernel_rfl)

end Go.Proofs.YtailocbophkmmaaDoor.IsaEncodes
namespace Go.Proofs.YtailocbophkmmaaDoor
theorem isaEncodes_card : Rows.IsaEncodesCardSaid := IsaEncodes.card
end Go.Proofs.YtailocbophkmmaaDoor
