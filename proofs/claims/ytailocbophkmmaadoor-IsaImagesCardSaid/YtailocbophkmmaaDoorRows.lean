/-
  NARROWER THAN 'FOR EVERY INPUT', by the rows' own cells (each row's printed sentence says how): SyndromeBack: laid · IsaDecodes: laid · IsaEncodes: laid · IsaBack: laid · IsaImages: laid.
  DERIVED. THE GIVEN ROWS OF THIS SEAT. 5 by the template 'for every input the law returns true; each argument reads behind the call as it read before'; 0 by the template 'total and deterministic' (their statements: YtailocbophkmmaaDoorTotals.lean).
  GIVEN WITH THE SEED: the statements are not yours to turn. If you find one false, say at which input.
  Laid BY PROGRAM, IN A SANDBOX (cutbox-rows.mjs): the forced cells as the released guide's own fill.sh prints them over the translation fa94b7ba6d0b6adb… (all of the seat's roots in one cut). By AI agents, Wed Nov 11 2026. No macro, syntax, notation, axiom, sorry.
-/
import Derived.Test.YtailocbophkmmaaDoorChecked
import GoSem.Claim
import GoSem.ClaimJoined
import GoSem.ClaimMapViews
import Derived.JoinedTies
import Derived.KernelRfl
namespace Go.Proofs.YtailocbophkmmaaDoor
/- THE CELL 'sum', in the pinned program and in every row, IS THE sha256 OF THE DUMP (.gsa) THAT YtailocbophkmmaaDoorProg.lean LOADS. Nothing in Lean hashes anything: it is a label: what it is worth is what the hold of that sum in a sandbox is worth. -/
noncomputable def Tryd.pinned : Pinned := { name := "ytailocbophkmmaadoor", sum := "fa94b7ba6d0b6adb8069ba71cc507e892ac24418ac5a4c929b487c8e3c984586", checked := Tryd.checked }
namespace Rows
def none {H : Type} : Left H := { results := [], args := [] }

/- WHAT THE LISTED PACKAGE-LEVEL VARIABLES READ AS WHEN THE CALL BEGINS. Each datum BY PROGRAM (the guide's laid-datum.mjs) off the statement by which the dump's own 'gosem.cut.vars' lays the variable. In a bare row this is a premise. The card (YtailocbophkmmaaDoorCards.lean) ties it to the program's text. -/
def laid_math_bits_deBruijn32tab {H : Type} : DataW H := .agg [.lit (.int .u8 0), .lit (.int .u8 1), .lit (.int .u8 28), .lit (.int .u8 2), .lit (.int .u8 29), .lit (.int .u8 14), .lit (.int .u8 24), .lit (.int .u8 3), .lit (.int .u8 30), .lit (.int .u8 22), .lit (.int .u8 20), .lit (.int .u8 15), .lit (.int .u8 25), .lit (.int .u8 17), .lit (.int .u8 4), .lit (.int .u8 8), .lit (.int .u8 31), .lit (.int .u8 27), .lit (.int .u8 13), .lit (.int .u8 23), .lit (.int .u8 21), .lit (.int .u8 19), .lit (.int .u8 16), .lit (.int .u8 7), .lit (.int .u8 26), .lit (.int .u8 12), .lit (.int .u8 18), .lit (.int .u8 6), .lit (.int .u8 11), .lit (.int .u8 5), .lit (.int .u8 10), .lit (.int .u8 9)]
def laid_math_bits_deBruijn64tab {H : Type} : DataW H := .agg [.lit (.int .u8 0), .lit (.int .u8 1), .lit (.int .u8 56), .lit (.int .u8 2), .lit (.int .u8 57), .lit (.int .u8 49), .lit (.int .u8 28), .lit (.int .u8 3), .lit (.int .u8 61), .lit (.int .u8 58), .lit (.int .u8 42), .lit (.int .u8 50), .lit (.int .u8 38), .lit (.int .u8 29), .lit (.int .u8 17), .lit (.int .u8 4), .lit (.int .u8 62), .lit (.int .u8 47), .lit (.int .u8 59), .lit (.int .u8 36), .lit (.int .u8 45), .lit (.int .u8 43), .lit (.int .u8 51), .lit (.int .u8 22), .lit (.int .u8 53), .lit (.int .u8 39), .lit (.int .u8 33), .lit (.int .u8 30), .lit (.int .u8 24), .lit (.int .u8 18), .lit (.int .u8 12), .lit (.int .u8 5), .lit (.int .u8 63), .lit (.int .u8 55), .lit (.int .u8 48), .lit (.int .u8 27), .lit (.int .u8 60), .lit (.int .u8 41), .lit (.int .u8 37), .lit (.int .u8 16), .lit (.int .u8 46), .lit (.int .u8 35), .lit (.int .u8 44), .lit (.int .u8 21), .lit (.int .u8 52), .lit (.int .u8 32), .lit (.int .u8 23), .lit (.int .u8 11), .lit (.int .u8 54), .lit (.int .u8 26), .lit (.int .u8 40), .lit (.int .u8 15), .lit (.int .u8 34), .lit (.int .u8 20), .lit (.int .u8 31), .lit (.int .u8 10), .lit (.int .u8 25), .lit (.int .u8 14), .lit (.int .u8 19), .lit (.int .u8 9), .lit (.int .u8 13), .lit (.int .u8 8), .lit (.int .u8 7), .lit (.int .u8 6)]
def laid_internal_strconv_uint64pow10 {H : Type} : DataW H := .agg [.lit (.int .u64 1), .lit (.int .u64 10), .lit (.int .u64 100), .lit (.int .u64 1000), .lit (.int .u64 10000), .lit (.int .u64 100000), .lit (.int .u64 1000000), .lit (.int .u64 10000000), .lit (.int .u64 100000000), .lit (.int .u64 1000000000), .lit (.int .u64 10000000000), .lit (.int .u64 100000000000), .lit (.int .u64 1000000000000), .lit (.int .u64 10000000000000), .lit (.int .u64 100000000000000), .lit (.int .u64 1000000000000000), .lit (.int .u64 10000000000000000), .lit (.int .u64 100000000000000000), .lit (.int .u64 1000000000000000000), .lit (.int .u64 10000000000000000000)]
def laid_tenement_syndrome_codes {H : Type} : DataW H := .agg [.lit (.int .u64 63), .lit (.int .u64 21), .lit (.int .u64 36), .lit (.int .u64 0), .lit (.int .u64 62)]
def laid_tenement_alu_shapes {H : Type} : DataW H := .agg [.agg [.lit (.bool false), .lit (.bool false), .lit (.bool false), .lit (.int .i64 0), .lit (.int .i64 0)], .agg [.lit (.bool true), .lit (.bool false), .lit (.bool false), .lit (.int .i64 0), .lit (.int .i64 65535)], .agg [.lit (.bool true), .lit (.bool true), .lit (.bool true), .lit (.int .i64 0), .lit (.int .i64 0)], .agg [.lit (.bool true), .lit (.bool true), .lit (.bool true), .lit (.int .i64 0), .lit (.int .i64 0)], .agg [.lit (.bool true), .lit (.bool true), .lit (.bool true), .lit (.int .i64 0), .lit (.int .i64 0)], .agg [.lit (.bool true), .lit (.bool true), .lit (.bool true), .lit (.int .i64 0), .lit (.int .i64 0)], .agg [.lit (.bool true), .lit (.bool true), .lit (.bool true), .lit (.int .i64 0), .lit (.int .i64 0)], .agg [.lit (.bool true), .lit (.bool true), .lit (.bool false), .lit (.int .i64 (-2048)), .lit (.int .i64 2047)], .agg [.lit (.bool true), .lit (.bool true), .lit (.bool false), .lit (.int .i64 0), .lit (.int .i64 0)], .agg [.lit (.bool true), .lit (.bool true), .lit (.bool false), .lit (.int .i64 0), .lit (.int .i64 0)], .agg [.lit (.bool true), .lit (.bool true), .lit (.bool false), .lit (.int .i64 0), .lit (.int .i64 0)], .agg [.lit (.bool true), .lit (.bool true), .lit (.bool true), .lit (.int .i64 0), .lit (.int .i64 0)], .agg [.lit (.bool true), .lit (.bool true), .lit (.bool false), .lit (.int .i64 0), .lit (.int .i64 0)], .agg [.lit (.bool false), .lit (.bool false), .lit (.bool false), .lit (.int .i64 0), .lit (.int .i64 0)], .agg [.lit (.bool false), .lit (.bool false), .lit (.bool false), .lit (.int .i64 (-1024)), .lit (.int .i64 1023)], .agg [.lit (.bool true), .lit (.bool false), .lit (.bool false), .lit (.int .i64 (-1024)), .lit (.int .i64 1023)], .agg [.lit (.bool true), .lit (.bool false), .lit (.bool false), .lit (.int .i64 (-1024)), .lit (.int .i64 1023)], .agg [.lit (.bool false), .lit (.bool false), .lit (.bool false), .lit (.int .i64 0), .lit (.int .i64 0)], .agg [.lit (.bool false), .lit (.bool false), .lit (.bool false), .lit (.int .i64 0), .lit (.int .i64 0)]]
def laid_tenement_isa_words {H : Type} : DataW H := .agg [.lit (.int .u32 3573751839), .lit (.int .u32 3531603968), .lit (.int .u32 2332033024), .lit (.int .u32 3405774848), .lit (.int .u32 2315255808), .lit (.int .u32 2852126720), .lit (.int .u32 3388997632), .lit (.int .u32 2432696320), .lit (.int .u32 4181721088), .lit (.int .u32 4177526784), .lit (.int .u32 3361700864), .lit (.int .u32 3355474944), .lit (.int .u32 3365927936), .lit (.int .u32 3573759935), .lit (.int .u32 335544320), .lit (.int .u32 3019898880), .lit (.int .u32 3036676096), .lit (.int .u32 3556769793), .lit (.int .u32 0)]
def laid_tenement_isa_masks {H : Type} : DataW H := .agg [.lit (.int .u32 4294967295), .lit (.int .u32 4292870144), .lit (.int .u32 4292934656), .lit (.int .u32 4292934656), .lit (.int .u32 4292934656), .lit (.int .u32 4292934656), .lit (.int .u32 4292934656), .lit (.int .u32 4290772992), .lit (.int .u32 4294966272), .lit (.int .u32 4294966272), .lit (.int .u32 4294966272), .lit (.int .u32 4292934656), .lit (.int .u32 4294966272), .lit (.int .u32 4294967295), .lit (.int .u32 4227858432), .lit (.int .u32 4278190080), .lit (.int .u32 4278190080), .lit (.int .u32 4294967295)]
def laid_tenement_isa_names {H : Type} : DataW H := .agg [.lit (.string [110, 111, 112]), .lit (.string [109, 111, 118]), .lit (.string [97, 100, 100]), .lit (.string [115, 117, 98]), .lit (.string [97, 110, 100]), .lit (.string [111, 114, 114]), .lit (.string [101, 111, 114]), .lit (.string [97, 100, 100, 105]), .lit (.string [108, 100, 114]), .lit (.string [115, 116, 114]), .lit (.string [108, 100, 120, 114]), .lit (.string [115, 116, 120, 114]), .lit (.string [115, 116, 108, 114]), .lit (.string [100, 109, 98]), .lit (.string [98]), .lit (.string [99, 98, 122]), .lit (.string [99, 98, 110, 122]), .lit (.string [115, 118, 99]), .lit (.string [98, 97, 100])]

/-- 'tenementlaw04.SyndromeBack': WHATEVER THE INPUT: true; the input reads as it did. -/
def syndromeBackSpec : ChangeSpec := { name := "syndromeBack", fn := fun _ => fun
  | [d1, d2, d3, d4] => { results := [.lit (.bool true)], args := [d1, d2, d3, d4] }
  | _ => none }
def syndromeBackRow : OpenClaim := { program := "ytailocbophkmmaadoor", sum := "fa94b7ba6d0b6adb8069ba71cc507e892ac24418ac5a4c929b487c8e3c984586", func := "tenement/tenementlaw04.SyndromeBack", spec := "syndromeBack", unfollowed := true, recurses := true, named := ["tenement/syndrome.codes", "internal/strconv.uint64pow10", "math/bits.deBruijn32tab", "math/bits.deBruijn64tab"], apart := false, laid := [("math/bits.deBruijn32tab", laid_math_bits_deBruijn32tab), ("math/bits.deBruijn64tab", laid_math_bits_deBruijn64tab), ("internal/strconv.uint64pow10", laid_internal_strconv_uint64pow10), ("tenement/syndrome.codes", laid_tenement_syndrome_codes)] }
def SyndromeBackSaid : Prop := syndromeBackRow.holds Tryd.pinned (OpenSpec.ofChange syndromeBackSpec)

/-- ITS FALSE NEIGHBOUR: 'it returns false'. Refute it at one input. -/
def syndromeBackWrong : ChangeSpec := { name := "syndromeBack", fn := fun _ => fun
  | [d1, d2, d3, d4] => { results := [.lit (.bool false)], args := [d1, d2, d3, d4] }
  | _ => none }
def SyndromeBackWrongFalsely : Prop := syndromeBackRow.holds Tryd.pinned (OpenSpec.ofChange syndromeBackWrong)

/-- 'tenementlaw07.IsaDecodes': WHATEVER THE INPUT: true; the input reads as it did. -/
def isaDecodesSpec : ChangeSpec := { name := "isaDecodes", fn := fun _ => fun
  | [d] => { results := [.lit (.bool true)], args := [d] }
  | _ => none }
def isaDecodesRow : OpenClaim := { program := "ytailocbophkmmaadoor", sum := "fa94b7ba6d0b6adb8069ba71cc507e892ac24418ac5a4c929b487c8e3c984586", func := "tenement/tenementlaw07.IsaDecodes", spec := "isaDecodes", inPlace := ["sync/atomic.LoadUint32", "(*internal/sync.Mutex).Lock", "internal/race.Disable", "sync/atomic.CompareAndSwapInt32", "internal/race.Enable", "internal/race.Acquire", "(*internal/sync.Mutex).lockSlow", "internal/sync.runtime_canSpin", "internal/sync.runtime_doSpin", "internal/sync.throw", "internal/sync.runtime_nanotime", "internal/sync.runtime_SemacquireMutex", "sync/atomic.AddInt32", "(*internal/sync.Mutex).Unlock", "internal/race.ReleaseMerge", "(*internal/sync.Mutex).unlockSlow", "internal/sync.fatal", "internal/sync.runtime_Semrelease", "sync/atomic.StoreUint32"], unfollowed := true, recurses := true, named := ["tenement/isa.masks", "tenement/isa.words", "tenement/alu.shapes", "tenement/isa.names", "internal/strconv.uint64pow10", "math/bits.deBruijn32tab", "math/bits.deBruijn64tab"], apart := false, laid := [("math/bits.deBruijn32tab", laid_math_bits_deBruijn32tab), ("math/bits.deBruijn64tab", laid_math_bits_deBruijn64tab), ("internal/strconv.uint64pow10", laid_internal_strconv_uint64pow10), ("tenement/alu.shapes", laid_tenement_alu_shapes), ("tenement/isa.words", laid_tenement_isa_words), ("tenement/isa.masks", laid_tenement_isa_masks), ("tenement/isa.names", laid_tenement_isa_names)] }
def IsaDecodesSaid : Prop := isaDecodesRow.holds Tryd.pinned (OpenSpec.ofChange isaDecodesSpec)

/-- ITS FALSE NEIGHBOUR: 'it returns false'. Refute it at one input. -/
def isaDecodesWrong : ChangeSpec := { name := "isaDecodes", fn := fun _ => fun
  | [d] => { results := [.lit (.bool false)], args := [d] }
  | _ => none }
def IsaDecodesWrongFalsely : Prop := isaDecodesRow.holds Tryd.pinned (OpenSpec.ofChange isaDecodesWrong)

/-- 'tenementlaw07.IsaEncodes': WHATEVER THE INPUT: true; the input reads as it did. -/
def isaEncodesSpec : ChangeSpec := { name := "isaEncodes", fn := fun _ => fun
  | [d] => { results := [.lit (.bool true)], args := [d] }
  | _ => none }
def isaEncodesRow : OpenClaim := { program := "ytailocbophkmmaadoor", sum := "fa94b7ba6d0b6adb8069ba71cc507e892ac24418ac5a4c929b487c8e3c984586", func := "tenement/tenementlaw07.IsaEncodes", spec := "isaEncodes", inPlace := ["sync/atomic.LoadUint32", "(*internal/sync.Mutex).Lock", "internal/race.Disable", "sync/atomic.CompareAndSwapInt32", "internal/race.Enable", "internal/race.Acquire", "(*internal/sync.Mutex).lockSlow", "internal/sync.runtime_canSpin", "internal/sync.runtime_doSpin", "internal/sync.throw", "internal/sync.runtime_nanotime", "internal/sync.runtime_SemacquireMutex", "sync/atomic.AddInt32", "(*internal/sync.Mutex).Unlock", "internal/race.ReleaseMerge", "(*internal/sync.Mutex).unlockSlow", "internal/sync.fatal", "internal/sync.runtime_Semrelease", "sync/atomic.StoreUint32"], unfollowed := true, recurses := true, named := ["tenement/isa.words", "tenement/alu.shapes", "tenement/isa.names", "internal/strconv.uint64pow10", "math/bits.deBruijn32tab", "math/bits.deBruijn64tab", "tenement/isa.masks"], apart := false, laid := [("math/bits.deBruijn32tab", laid_math_bits_deBruijn32tab), ("math/bits.deBruijn64tab", laid_math_bits_deBruijn64tab), ("internal/strconv.uint64pow10", laid_internal_strconv_uint64pow10), ("tenement/alu.shapes", laid_tenement_alu_shapes), ("tenement/isa.words", laid_tenement_isa_words), ("tenement/isa.masks", laid_tenement_isa_masks), ("tenement/isa.names", laid_tenement_isa_names)] }
def IsaEncodesSaid : Prop := isaEncodesRow.holds Tryd.pinned (OpenSpec.ofChange isaEncodesSpec)

/-- ITS FALSE NEIGHBOUR: 'it returns false'. Refute it at one input. -/
def isaEncodesWrong : ChangeSpec := { name := "isaEncodes", fn := fun _ => fun
  | [d] => { results := [.lit (.bool false)], args := [d] }
  | _ => none }
def IsaEncodesWrongFalsely : Prop := isaEncodesRow.holds Tryd.pinned (OpenSpec.ofChange isaEncodesWrong)

/-- 'tenementlaw07.IsaBack': WHATEVER THE INPUT: true; the input reads as it did. -/
def isaBackSpec : ChangeSpec := { name := "isaBack", fn := fun _ => fun
  | [d1, d2] => { results := [.lit (.bool true)], args := [d1, d2] }
  | _ => none }
def isaBackRow : OpenClaim := { program := "ytailocbophkmmaadoor", sum := "fa94b7ba6d0b6adb8069ba71cc507e892ac24418ac5a4c929b487c8e3c984586", func := "tenement/tenementlaw07.IsaBack", spec := "isaBack", inPlace := ["sync/atomic.LoadUint32", "(*internal/sync.Mutex).Lock", "internal/race.Disable", "sync/atomic.CompareAndSwapInt32", "internal/race.Enable", "internal/race.Acquire", "(*internal/sync.Mutex).lockSlow", "internal/sync.runtime_canSpin", "internal/sync.runtime_doSpin", "internal/sync.throw", "internal/sync.runtime_nanotime", "internal/sync.runtime_SemacquireMutex", "sync/atomic.AddInt32", "(*internal/sync.Mutex).Unlock", "internal/race.ReleaseMerge", "(*internal/sync.Mutex).unlockSlow", "internal/sync.fatal", "internal/sync.runtime_Semrelease", "sync/atomic.StoreUint32"], unfollowed := true, recurses := true, named := ["tenement/isa.masks", "tenement/isa.words", "tenement/alu.shapes", "tenement/isa.names", "internal/strconv.uint64pow10", "math/bits.deBruijn32tab", "math/bits.deBruijn64tab"], apart := false, laid := [("math/bits.deBruijn32tab", laid_math_bits_deBruijn32tab), ("math/bits.deBruijn64tab", laid_math_bits_deBruijn64tab), ("internal/strconv.uint64pow10", laid_internal_strconv_uint64pow10), ("tenement/alu.shapes", laid_tenement_alu_shapes), ("tenement/isa.words", laid_tenement_isa_words), ("tenement/isa.masks", laid_tenement_isa_masks), ("tenement/isa.names", laid_tenement_isa_names)] }
def IsaBackSaid : Prop := isaBackRow.holds Tryd.pinned (OpenSpec.ofChange isaBackSpec)

/-- ITS FALSE NEIGHBOUR: 'it returns false'. Refute it at one input. -/
def isaBackWrong : ChangeSpec := { name := "isaBack", fn := fun _ => fun
  | [d1, d2] => { results := [.lit (.bool false)], args := [d1, d2] }
  | _ => none }
def IsaBackWrongFalsely : Prop := isaBackRow.holds Tryd.pinned (OpenSpec.ofChange isaBackWrong)

/-- 'tenementlaw07.IsaImages': WHATEVER THE INPUT: true; the input reads as it did. -/
def isaImagesSpec : ChangeSpec := { name := "isaImages", fn := fun _ => fun
  | [d] => { results := [.lit (.bool true)], args := [d] }
  | _ => none }
def isaImagesRow : OpenClaim := { program := "ytailocbophkmmaadoor", sum := "fa94b7ba6d0b6adb8069ba71cc507e892ac24418ac5a4c929b487c8e3c984586", func := "tenement/tenementlaw07.IsaImages", spec := "isaImages", inPlace := ["sync/atomic.LoadUint32", "(*internal/sync.Mutex).Lock", "internal/race.Disable", "sync/atomic.CompareAndSwapInt32", "internal/race.Enable", "internal/race.Acquire", "(*internal/sync.Mutex).lockSlow", "internal/sync.runtime_canSpin", "internal/sync.runtime_doSpin", "internal/sync.throw", "internal/sync.runtime_nanotime", "internal/sync.runtime_SemacquireMutex", "sync/atomic.AddInt32", "(*internal/sync.Mutex).Unlock", "internal/race.ReleaseMerge", "(*internal/sync.Mutex).unlockSlow", "internal/sync.fatal", "internal/sync.runtime_Semrelease", "sync/atomic.StoreUint32"], unfollowed := true, recurses := true, named := ["tenement/isa.masks", "tenement/isa.words", "tenement/alu.shapes", "tenement/isa.names", "internal/strconv.uint64pow10", "math/bits.deBruijn32tab", "math/bits.deBruijn64tab"], apart := false, laid := [("math/bits.deBruijn32tab", laid_math_bits_deBruijn32tab), ("math/bits.deBruijn64tab", laid_math_bits_deBruijn64tab), ("internal/strconv.uint64pow10", laid_internal_strconv_uint64pow10), ("tenement/alu.shapes", laid_tenement_alu_shapes), ("tenement/isa.words", laid_tenement_isa_words), ("tenement/isa.masks", laid_tenement_isa_masks), ("tenement/isa.names", laid_tenement_isa_names)] }
def IsaImagesSaid : Prop := isaImagesRow.holds Tryd.pinned (OpenSpec.ofChange isaImagesSpec)

/-- ITS FALSE NEIGHBOUR: 'it returns false'. Refute it at one input. -/
def isaImagesWrong : ChangeSpec := { name := "isaImages", fn := fun _ => fun
  | [d] => { results := [.lit (.bool false)], args := [d] }
  | _ => none }
def IsaImagesWrongFalsely : Prop := isaImagesRow.holds Tryd.pinned (OpenSpec.ofChange isaImagesWrong)

/- THE SECOND FORM. 'bulk': how many values and letters a reading holds, each counted each time it is reached (what is shared counts as often as it is met; a slice's spare places count too). A statement '..UptoSaid' is the law's where the arguments, and the package variables that the reading takes, are together of bulk at most 1048576: NARROWER than '..Said'. Prove '..Said' where nothing that the law and all that it calls make is longer than what came in: it says more and counts as full. Else prove '..UptoSaid'. A law counts once. -/
mutual
def uptoBulk {H : Type} : DataW H → Nat
  | .lit (.string bytes) => bytes.length + 1
  | .lit _ => 1
  | .nil => 1
  | .ptr d => uptoBulk d + 1
  | .slice elems spare => uptoBulkAll elems + uptoBulkAll spare + 1
  | .agg parts => uptoBulkAll parts + 1
  | .iface _ d => uptoBulk d + 1
  | .map entries => uptoBulkEntries entries + 1
  | .held _ => 1
def uptoBulkAll {H : Type} : List (DataW H) → Nat
  | [] => 0
  | d :: r => uptoBulk d + uptoBulkAll r
def uptoBulkEntries {H : Type} : List (Lit × DataW H) → Nat
  | [] => 0
  | x :: r => uptoBulkEntry x + uptoBulkEntries r
def uptoBulkEntry {H : Type} : Lit × DataW H → Nat
  | (.string bytes, d) => bytes.length + uptoBulk d + 1
  | (_, d) => uptoBulk d + 1
 end
def uptoSmall : (H : Type) → List (DataW H) → Bool := fun _ ds => decide (uptoBulkAll ds ≤ 1048576)
def OpenSpec.upto (s : _root_.Go.ChangeSpec) : _root_.Go.OpenSpec := { _root_.Go.OpenSpec.ofChange s with cond := some uptoSmall }

/-- 'tenementlaw04.SyndromeBack', WHERE WHAT IT READS IS OF BULK AT MOST 1048576: true; the input reads as it did. -/
def syndromeBackUptoRow : OpenClaim := { program := "ytailocbophkmmaadoor", sum := "fa94b7ba6d0b6adb8069ba71cc507e892ac24418ac5a4c929b487c8e3c984586", func := "tenement/tenementlaw04.SyndromeBack", spec := "syndromeBack", unfollowed := true, recurses := true, named := ["tenement/syndrome.codes", "internal/strconv.uint64pow10", "math/bits.deBruijn32tab", "math/bits.deBruijn64tab"], apart := false, laid := [("math/bits.deBruijn32tab", laid_math_bits_deBruijn32tab), ("math/bits.deBruijn64tab", laid_math_bits_deBruijn64tab), ("internal/strconv.uint64pow10", laid_internal_strconv_uint64pow10), ("tenement/syndrome.codes", laid_tenement_syndrome_codes)], narrowed := true }
def SyndromeBackUptoSaid : Prop := syndromeBackUptoRow.holds Tryd.pinned (OpenSpec.upto syndromeBackSpec)

/-- 'tenementlaw07.IsaDecodes', WHERE WHAT IT READS IS OF BULK AT MOST 1048576: true; the input reads as it did. -/
def isaDecodesUptoRow : OpenClaim := { program := "ytailocbophkmmaadoor", sum := "fa94b7ba6d0b6adb8069ba71cc507e892ac24418ac5a4c929b487c8e3c984586", func := "tenement/tenementlaw07.IsaDecodes", spec := "isaDecodes", inPlace := ["sync/atomic.LoadUint32", "(*internal/sync.Mutex).Lock", "internal/race.Disable", "sync/atomic.CompareAndSwapInt32", "internal/race.Enable", "internal/race.Acquire", "(*internal/sync.Mutex).lockSlow", "internal/sync.runtime_canSpin", "internal/sync.runtime_doSpin", "internal/sync.throw", "internal/sync.runtime_nanotime", "internal/sync.runtime_SemacquireMutex", "sync/atomic.AddInt32", "(*internal/sync.Mutex).Unlock", "internal/race.ReleaseMerge", "(*internal/sync.Mutex).unlockSlow", "internal/sync.fatal", "internal/sync.runtime_Semrelease", "sync/atomic.StoreUint32"], unfollowed := true, recurses := true, named := ["tenement/isa.masks", "tenement/isa.words", "tenement/alu.shapes", "tenement/isa.names", "internal/strconv.uint64pow10", "math/bits.deBruijn32tab", "math/bits.deBruijn64tab"], apart := false, laid := [("math/bits.deBruijn32tab", laid_math_bits_deBruijn32tab), ("math/bits.deBruijn64tab", laid_math_bits_deBruijn64tab), ("internal/strconv.uint64pow10", laid_internal_strconv_uint64pow10), ("tenement/alu.shapes", laid_tenement_alu_shapes), ("tenement/isa.words", laid_tenement_isa_words), ("tenement/isa.masks", laid_tenement_isa_masks), ("tenement/isa.names", laid_tenement_isa_names)], narrowed := true }
def IsaDecodesUptoSaid : Prop := isaDecodesUptoRow.holds Tryd.pinned (OpenSpec.upto isaDecodesSpec)

/-- 'tenementlaw07.IsaEncodes', WHERE WHAT IT READS IS OF BULK AT MOST 1048576: true; the input reads as it did. -/
def isaEncodesUptoRow : OpenClaim := { program := "ytailocbophkmmaadoor", sum := "fa94b7ba6d0b6adb8069ba71cc507e892ac24418ac5a4c929b487c8e3c984586", func := "tenement/tenementlaw07.IsaEncodes", spec := "isaEncodes", inPlace := ["sync/atomic.LoadUint32", "(*internal/sync.Mutex).Lock", "internal/race.Disable", "sync/atomic.CompareAndSwapInt32", "internal/race.Enable", "internal/race.Acquire", "(*internal/sync.Mutex).lockSlow", "internal/sync.runtime_canSpin", "internal/sync.runtime_doSpin", "internal/sync.throw", "internal/sync.runtime_nanotime", "internal/sync.runtime_SemacquireMutex", "sync/atomic.AddInt32", "(*internal/sync.Mutex).Unlock", "internal/race.ReleaseMerge", "(*internal/sync.Mutex).unlockSlow", "internal/sync.fatal", "internal/sync.runtime_Semrelease", "sync/atomic.StoreUint32"], unfollowed := true, recurses := true, named := ["tenement/isa.words", "tenement/alu.shapes", "tenement/isa.names", "internal/strconv.uint64pow10", "math/bits.deBruijn32tab", "math/bits.deBruijn64tab", "tenement/isa.masks"], apart := false, laid := [("math/bits.deBruijn32tab", laid_math_bits_deBruijn32tab), ("math/bits.deBruijn64tab", laid_math_bits_deBruijn64tab), ("internal/strconv.uint64pow10", laid_internal_strconv_uint64pow10), ("tenement/alu.shapes", laid_tenement_alu_shapes), ("tenement/isa.words", laid_tenement_isa_words), ("tenement/isa.masks", laid_tenement_isa_masks), ("tenement/isa.names", laid_tenement_isa_names)], narrowed := true }
def IsaEncodesUptoSaid : Prop := isaEncodesUptoRow.holds Tryd.pinned (OpenSpec.upto isaEncodesSpec)

/-- 'tenementlaw07.IsaBack', WHERE WHAT IT READS IS OF BULK AT MOST 1048576: true; the input reads as it did. -/
def isaBackUptoRow : OpenClaim := { program := "ytailocbophkmmaadoor", sum := "fa94b7ba6d0b6adb8069ba71cc507e892ac24418ac5a4c929b487c8e3c984586", func := "tenement/tenementlaw07.IsaBack", spec := "isaBack", inPlace := ["sync/atomic.LoadUint32", "(*internal/sync.Mutex).Lock", "internal/race.Disable", "sync/atomic.CompareAndSwapInt32", "internal/race.Enable", "internal/race.Acquire", "(*internal/sync.Mutex).lockSlow", "internal/sync.runtime_canSpin", "internal/sync.runtime_doSpin", "internal/sync.throw", "internal/sync.runtime_nanotime", "internal/sync.runtime_SemacquireMutex", "sync/atomic.AddInt32", "(*internal/sync.Mutex).Unlock", "internal/race.ReleaseMerge", "(*internal/sync.Mutex).unlockSlow", "internal/sync.fatal", "internal/sync.runtime_Semrelease", "sync/atomic.StoreUint32"], unfollowed := true, recurses := true, named := ["tenement/isa.masks", "tenement/isa.words", "tenement/alu.shapes", "tenement/isa.names", "internal/strconv.uint64pow10", "math/bits.deBruijn32tab", "math/bits.deBruijn64tab"], apart := false, laid := [("math/bits.deBruijn32tab", laid_math_bits_deBruijn32tab), ("math/bits.deBruijn64tab", laid_math_bits_deBruijn64tab), ("internal/strconv.uint64pow10", laid_internal_strconv_uint64pow10), ("tenement/alu.shapes", laid_tenement_alu_shapes), ("tenement/isa.words", laid_tenement_isa_words), ("tenement/isa.masks", laid_tenement_isa_masks), ("tenement/isa.names", laid_tenement_isa_names)], narrowed := true }
def IsaBackUptoSaid : Prop := isaBackUptoRow.holds Tryd.pinned (OpenSpec.upto isaBackSpec)

/-- 'tenementlaw07.IsaImages', WHERE WHAT IT READS IS OF BULK AT MOST 1048576: true; the input reads as it did. -/
def isaImagesUptoRow : OpenClaim := { program := "ytailocbophkmmaadoor", sum := "fa94b7ba6d0b6adb8069ba71cc507e892ac24418ac5a4c929b487c8e3c984586", func := "tenement/tenementlaw07.IsaImages", spec := "isaImages", inPlace := ["sync/atomic.LoadUint32", "(*internal/sync.Mutex).Lock", "internal/race.Disable", "sync/atomic.CompareAndSwapInt32", "internal/race.Enable", "internal/race.Acquire", "(*internal/sync.Mutex).lockSlow", "internal/sync.runtime_canSpin", "internal/sync.runtime_doSpin", "internal/sync.throw", "internal/sync.runtime_nanotime", "internal/sync.runtime_SemacquireMutex", "sync/atomic.AddInt32", "(*internal/sync.Mutex).Unlock", "internal/race.ReleaseMerge", "(*internal/sync.Mutex).unlockSlow", "internal/sync.fatal", "internal/sync.runtime_Semrelease", "sync/atomic.StoreUint32"], unfollowed := true, recurses := true, named := ["tenement/isa.masks", "tenement/isa.words", "tenement/alu.shapes", "tenement/isa.names", "internal/strconv.uint64pow10", "math/bits.deBruijn32tab", "math/bits.deBruijn64tab"], apart := false, laid := [("math/bits.deBruijn32tab", laid_math_bits_deBruijn32tab), ("math/bits.deBruijn64tab", laid_math_bits_deBruijn64tab), ("internal/strconv.uint64pow10", laid_internal_strconv_uint64pow10), ("tenement/alu.shapes", laid_tenement_alu_shapes), ("tenement/isa.words", laid_tenement_isa_words), ("tenement/isa.masks", laid_tenement_isa_masks), ("tenement/isa.names", laid_tenement_isa_names)], narrowed := true }
def IsaImagesUptoSaid : Prop := isaImagesUptoRow.holds Tryd.pinned (OpenSpec.upto isaImagesSpec)

end Rows
end Go.Proofs.YtailocbophkmmaaDoor
