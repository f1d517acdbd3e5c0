/-
  Package syndrome: its functions' walks.
-/
import Derived.Test.YtailocbophkmmaaDoorField
namespace Go.Proofs.YtailocbophkmmaaDoor
open Go.RowKit FP

def dataB (f l : Int) : Bool := decide (f = 1 ∧ 0 ≤ l ∧ l ≤ 3 ∨ f = 2 ∧ l = 3 ∨ f = 3 ∧ l = 0)
theorem data_any (f l : Int) (w : World) :
    Calls Tryd.prog 44 #[.int .i8 f, .int .i8 l] w fun e w' => e = .returned (.bool (dataB f l)) ∧ Below w.heap.size w w' := by
  go_enter Tryd.func44, Tryd.ntmps44
  go_wp2
  all_goals
    go_ret
    exact ⟨congrArg (fun b => Ending.returned (.bool b)) (by grind [dataB]), (by repeat (first | (with_reducible exact Below.refl _ _) | (with_reducible assumption) | (with_reducible refine bthen (by with_reducible assumption) ?_) | (with_reducible refine balloc _ ?_) | (with_reducible refine bdrewN _ ?_) | (with_reducible refine bdrew ?_) | (with_reducible refine bset (by first | exact Nat.le_refl _ | (dsimp only; omega)) ?_)))⟩

def mayB (c : Int) (s : Bool) (f l v : Int) : Bool := decide ((c = 0 ∨ c = 1 ∨ c = 3 ∨ c = 4) ∧ s = false ∧ f = 0 ∧ l = 0 ∧ v = 0 ∨ c = 2 ∧ dataB f l = true)
def chkI (c : Int) (s : Bool) (f l v : Int) : Int := if mayB c s f l v then 0 else 2
theorem ret_i64 {a b : Int} (h : a = b) : Ending.returned (.int .i64 a) = .returned (.int .i64 b) := by rw [h]
theorem check_any (c : Int) (s : Bool) (f l v : Int) (w : World) :
    Calls Tryd.prog 24 #[.agg #[.int .i8 c, .bool s, .int .i8 f, .int .i8 l, .int .u64 v]] w fun e w' => e = .returned (.int .i64 (chkI c s f l v)) ∧ Below w.heap.size w w' := by
  go_enter Tryd.func24, Tryd.ntmps24
  go_wp2_with (go_at_call 44; (with_reducible refine (data_any f l _).mono ?_); rintro e w' ⟨rfl, hb⟩; obtain ⟨hz, hc, hf⟩ := bcell hb; (try simp only [World.size_alloc, World.size_drew, World.heap_drewN, World.size_setCell] at hz); (try have hs0 : w.heap.size < w'.heap.size := by omega); (try have hs1 : w.heap.size + 1 < w'.heap.size := by omega); (try have hs2 : w.heap.size + 2 < w'.heap.size := by omega))
  all_goals
    go_ret
    exact ⟨ret_i64 (by grind [chkI, mayB]), (by repeat (first | (with_reducible exact Below.refl _ _) | (with_reducible assumption) | (with_reducible refine bthen (by with_reducible assumption) ?_) | (with_reducible refine balloc _ ?_) | (with_reducible refine bdrewN _ ?_) | (with_reducible refine bdrew ?_) | (with_reducible refine bset (by first | exact Nat.le_refl _ | (dsimp only; omega)) ?_)))⟩

theorem dataB_bd {f l : Int} (h : dataB f l = true) : 0 ≤ l ∧ l ≤ 3 ∧ (f = 1 ∨ f = 2 ∨ f = 3) := by grind [dataB]
def causeI (s : Bool) (f l : Int) : Int := (if f = 2 then 15 else if f = 3 then 33 else 4 + l) + if s then 64 else 0
theorem causeI_bd {s : Bool} {f l : Int} (h : dataB f l = true) : 0 ≤ causeI s f l ∧ causeI s f l < 128 := by grind [dataB, causeI]
theorem put66 (x : Int) (h0 : 0 ≤ x) (h1 : x < 64) : putI x 6 6 1 = x + 64 := by
  have e1 : (6 : Int).toNat = 6 := rfl
  have e2 : ((6 : Int) - 6 + 1).toNat = 1 := rfl
  simp only [putI, getI, e1, e2]; omega
theorem cause_any (c : Int) (s : Bool) (f l v : Int) (w : World) (h : dataB f l = true) :
    Calls Tryd.prog 26 #[.agg #[.int .i8 c, .bool s, .int .i8 f, .int .i8 l, .int .u64 v]] w fun e w' => e = .returned (.int .u64 (causeI s f l)) ∧ Below w.heap.size w w' := by
  obtain ⟨h0, h1, hf⟩ := dataB_bd h
  have HE : Hid (IntKind.u64.wrap l = l) := Lib.hid (wrap_u64 l h0 (by omega))
  clear h
  rcases hf with rfl | rfl | rfl <;> cases s
  all_goals
    go_enter Tryd.func26, Tryd.ntmps26
    go_wp2_with (go_at_call 25; refine (Put_fits _ 6 6 1 _ (by omega) (by omega) (by omega) (by omega) (by omega) (by omega) (by omega) (by decide)).mono ?_; rintro e w' ⟨rfl, hb⟩; obtain ⟨hz, hc, hf⟩ := bcell hb)
    go_ret
    refine ⟨ret_u64 ?_, (by repeat (first | (with_reducible exact Below.refl _ _) | (with_reducible assumption) | (with_reducible refine bthen (by with_reducible assumption) ?_) | (with_reducible refine balloc _ ?_) | (with_reducible refine bdrewN _ ?_) | (with_reducible refine bdrew ?_) | (with_reducible refine bset (by first | exact Nat.le_refl _ | (dsimp only; omega)) ?_)))⟩
    first
      | (rw [put66 _ (by omega) (by omega)]; simp [causeI]; done)
      | (simp [causeI]; done)

/-- The classes' numbers, as the table lies in memory. -/
structure Codes (w : World) : Prop where
  c0 : w.cell? ⟨0, 0, none⟩ = some (.int .u64 63)
  c1 : w.cell? ⟨0, 1, none⟩ = some (.int .u64 21)
  c2 : w.cell? ⟨0, 2, none⟩ = some (.int .u64 36)
  c3 : w.cell? ⟨0, 3, none⟩ = some (.int .u64 0)
  c4 : w.cell? ⟨0, 4, none⟩ = some (.int .u64 62)
theorem Codes.lt {w : World} (h : Codes w) : 0 < w.heap.size := World.block_lt_of_cell? w _ h.c0
theorem Codes.below {w w' : World} (h : Codes w) (hb : Below w.heap.size w w') : Codes w' :=
  ⟨(hb.cell (p := ⟨_, _, none⟩) h.lt).trans h.c0, (hb.cell (p := ⟨_, _, none⟩) h.lt).trans h.c1, (hb.cell (p := ⟨_, _, none⟩) h.lt).trans h.c2, (hb.cell (p := ⟨_, _, none⟩) h.lt).trans h.c3, (hb.cell (p := ⟨_, _, none⟩) h.lt).trans h.c4⟩

def codeI (c : Int) : Int := if c = 0 then 63 else if c = 1 then 21 else if c = 2 then 36 else if c = 3 then 0 else 62
def esrI (c : Int) (s : Bool) (f l : Int) : Int := codeI c * 67108864 + 33554432 + if c = 2 then causeI s f l else 0
theorem put31 (v : Int) : putI 0 31 26 v = v * 67108864 := by
  have e1 : (26 : Int).toNat = 26 := rfl
  have e2 : ((31 : Int) - 26 + 1).toNat = 6 := rfl
  simp only [putI, getI, e1, e2]; omega
theorem put25 (v : Int) : putI (v * 67108864) 25 25 1 = v * 67108864 + 33554432 := by
  have e1 : (25 : Int).toNat = 25 := rfl
  have e2 : ((25 : Int) - 25 + 1).toNat = 1 := rfl
  simp only [putI, getI, e1, e2]; omega
theorem put60 (v x : Int) : putI (v * 67108864 + 33554432) 6 0 x = v * 67108864 + 33554432 + x := by
  have e1 : (0 : Int).toNat = 0 := rfl
  have e2 : ((6 : Int) - 0 + 1).toNat = 7 := rfl
  simp only [putI, getI, e1, e2]; omega
theorem chkI_t {c : Int} {s : Bool} {f l v : Int} (h : mayB c s f l v = true) : chkI c s f l v = 0 := by simp [chkI, h]
theorem chkI_f {c : Int} {s : Bool} {f l v : Int} (h : mayB c s f l v = false) : chkI c s f l v = 2 := by simp [chkI, h]
theorem encode_no (c : Int) (s : Bool) (f l v : Int) (w : World) (h : mayB c s f l v = false) :
    Calls Tryd.prog 9 #[.agg #[.int .i8 c, .bool s, .int .i8 f, .int .i8 l, .int .u64 v]] w fun e w' => e = .returned (.tuple #[.int .u64 0, .int .u64 0, .int .i64 2]) ∧ Below w.heap.size w w' := by
  have HT := Lib.hid (chkI_f h)
  clear h
  go_enter Tryd.func9, Tryd.ntmps9
  go_wp2_with (go_at_call 24; refine (check_any c s f l v _).mono ?_; rintro e w' ⟨rfl, hb⟩; rw [HT.out]; obtain ⟨hz, hc, hf⟩ := bcell hb)
  go_ret3
  exact ⟨rfl, (by repeat (first | (with_reducible exact Below.refl _ _) | (with_reducible assumption) | (with_reducible refine bthen (by with_reducible assumption) ?_) | (with_reducible refine balloc _ ?_) | (with_reducible refine bdrewN _ ?_) | (with_reducible refine bdrew ?_) | (with_reducible refine bset (by first | exact Nat.le_refl _ | (dsimp only; omega)) ?_)))⟩
theorem ret3_u64 {a b v n : Int} (h : a = b) : Ending.returned (.tuple #[.int .u64 a, .int .u64 v, .int .i64 n]) = .returned (.tuple #[.int .u64 b, .int .u64 v, .int .i64 n]) := by rw [h]
set_option maxHeartbeats 1000000 in
theorem encode_yes (c : Int) (s : Bool) (f l v : Int) (w : World) (h : mayB c s f l v = true) (hg : Codes w) :
    Calls Tryd.prog 9 #[.agg #[.int .i8 c, .bool s, .int .i8 f, .int .i8 l, .int .u64 v]] w fun e w' => e = .returned (.tuple #[.int .u64 (esrI c s f l), .int .u64 v, .int .i64 0]) ∧ Below w.heap.size w w' := by
  have HT := Lib.hid (chkI_t h)
  have hlt := hg.lt
  obtain ⟨g0, g1, g2, g3, g4⟩ := hg
  have hcs : (c = 0 ∨ c = 1 ∨ c = 3 ∨ c = 4) ∨ c = 2 ∧ dataB f l = true := by grind [mayB]
  clear h
  rcases hcs with (rfl | rfl | rfl | rfl) | ⟨rfl, hd⟩
  iterate 4
    · go_enter Tryd.func9, Tryd.ntmps9
      go_wp2_with (first | (go_at_call 24; (with_reducible refine (check_any _ s f l v _).mono ?_); rintro e w' ⟨rfl, hb⟩; rw [HT.out]; obtain ⟨hz, hc, hf⟩ := bcell hb; (try simp only [World.size_alloc, World.size_drew, World.heap_drewN, World.size_setCell] at hz); (try have hs0 : w.heap.size < w'.heap.size := by omega); (try have hs1 : w.heap.size + 1 < w'.heap.size := by omega); (try have hs2 : w.heap.size + 2 < w'.heap.size := by omega)) | (go_at_call 25; (with_reducible refine (Put_fits _ _ _ _ _ ?_ ?_ ?_ ?_ ?_ ?_ ?_ ?_).mono ?_) <;> (first | omega | decide | (simp only [put31]; omega) | skip); rintro e w' ⟨rfl, hb⟩; obtain ⟨hz, hc, hf⟩ := bcell hb; (try simp only [World.size_alloc, World.size_drew, World.heap_drewN, World.size_setCell] at hz); (try have hs0 : w.heap.size < w'.heap.size := by omega); (try have hs1 : w.heap.size + 1 < w'.heap.size := by omega); (try have hs2 : w.heap.size + 2 < w'.heap.size := by omega)))
      go_quiet (fail)
      go_wp2
      go_ret3
      exact ⟨ret3_u64 (by rw [put31, put25]; simp [esrI, codeI]), (by repeat (first | (with_reducible exact Below.refl _ _) | (with_reducible assumption) | (with_reducible refine bthen (by with_reducible assumption) ?_) | (with_reducible refine balloc _ ?_) | (with_reducible refine bdrewN _ ?_) | (with_reducible refine bdrew ?_) | (with_reducible refine bset (by first | exact Nat.le_refl _ | (dsimp only; omega)) ?_)))⟩
  · have hbd := causeI_bd (s := s) hd
    go_enter Tryd.func9, Tryd.ntmps9
    go_wp2_with (first | (go_at_call 24; (with_reducible refine (check_any _ s f l v _).mono ?_); rintro e w' ⟨rfl, hb⟩; rw [HT.out]; obtain ⟨hz, hc, hf⟩ := bcell hb; (try simp only [World.size_alloc, World.size_drew, World.heap_drewN, World.size_setCell] at hz); (try have hs0 : w.heap.size < w'.heap.size := by omega); (try have hs1 : w.heap.size + 1 < w'.heap.size := by omega); (try have hs2 : w.heap.size + 2 < w'.heap.size := by omega)) | (go_at_call 26; (with_reducible refine (cause_any _ s f l v _ hd).mono ?_); rintro e w' ⟨rfl, hb⟩; obtain ⟨hz, hc, hf⟩ := bcell hb; (try simp only [World.size_alloc, World.size_drew, World.heap_drewN, World.size_setCell] at hz); (try have hs0 : w.heap.size < w'.heap.size := by omega); (try have hs1 : w.heap.size + 1 < w'.heap.size := by omega); (try have hs2 : w.heap.size + 2 < w'.heap.size := by omega)) | (go_at_call 25; (with_reducible refine (Put_fits _ _ _ _ _ ?_ ?_ ?_ ?_ ?_ ?_ ?_ ?_).mono ?_) <;> (first | omega | decide | (simp only [put31, put25]; omega) | (simp; omega) | skip); rintro e w' ⟨rfl, hb⟩; obtain ⟨hz, hc, hf⟩ := bcell hb; (try simp only [World.size_alloc, World.size_drew, World.heap_drewN, World.size_setCell] at hz); (try have hs0 : w.heap.size < w'.heap.size := by omega); (try have hs1 : w.heap.size + 1 < w'.heap.size := by omega); (try have hs2 : w.heap.size + 2 < w'.heap.size := by omega)))
    go_quiet (fail)
    go_wp2
    go_ret3
    exact ⟨ret3_u64 (by rw [put31, put25, put60]; simp [esrI, codeI]), (by repeat (first | (with_reducible exact Below.refl _ _) | (with_reducible assumption) | (with_reducible refine bthen (by with_reducible assumption) ?_) | (with_reducible refine balloc _ ?_) | (with_reducible refine bdrewN _ ?_) | (with_reducible refine bdrew ?_) | (with_reducible refine bset (by first | exact Nat.le_refl _ | (dsimp only; omega)) ?_)))⟩
end Go.Proofs.YtailocbophkmmaaDoor
