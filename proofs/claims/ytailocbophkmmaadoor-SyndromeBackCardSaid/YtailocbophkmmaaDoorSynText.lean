/-
  Package syndrome: Text's walk.
-/
import Derived.Test.YtailocbophkmmaaDoorSynDecode
import Derived.Test.YtailocbophkmmaaDoorHex
namespace Go.Proofs.YtailocbophkmmaaDoor
open Go.RowKit FP

def kindS (f l : Int) : ByteArray := if f = 2 then ⟨#[112, 101, 114, 109]⟩ else if f = 3 then ⟨#[97, 108, 105, 103, 110]⟩ else ⟨#[116, 114, 97, 110, 115]⟩ ++ ⟨#[48 + UInt8.ofNat l.toNat]⟩
/-- What Text answers. -/
def textS (c : Int) (s : Bool) (f l : Int) (v : Nat) : ByteArray :=
  if mayB c s f l v then
    if c = 0 then ⟨#[110, 111, 110, 101]⟩ else if c = 1 then ⟨#[99, 97, 108, 108]⟩ else if c = 3 then ⟨#[105, 110, 115, 116, 114]⟩ else if c = 4 then ⟨#[116, 105, 99, 107]⟩
    else (if s then ⟨#[115, 116, 111, 114, 101, 32]⟩ else ⟨#[108, 111, 97, 100, 32]⟩) ++ kindS f l ++ ⟨#[32]⟩ ++ strOfNums (hexL v)
  else ⟨#[63]⟩
theorem ret_str {a b : ByteArray} (h : a = b) : Ending.returned (.string a) = .returned (.string b) := by rw [h]
set_option maxHeartbeats 2000000 in
theorem text_any (c : Int) (s : Bool) (f l : Int) (v : Nat) (w : World) (hv : v < 18446744073709551616) (hT : Tab64 w) :
    Calls Tryd.prog 10 #[.agg #[.int .i8 c, .bool s, .int .i8 f, .int .i8 l, .int .u64 v]] w fun e w' => e = .returned (.string (textS c s f l v)) ∧ Below w.heap.size w w' := by
  by_cases hm : mayB c s f l v = true
  · have HT := Lib.hid (chkI_t hm)
    have HM := Lib.hid hm
    have hcs : (c = 0 ∨ c = 1 ∨ c = 3 ∨ c = 4) ∨ c = 2 ∧ dataB f l = true := by grind [mayB]
    clear hm
    rcases hcs with (rfl | rfl | rfl | rfl) | ⟨rfl, hd⟩
    iterate 4
      · go_enter Tryd.func10, Tryd.ntmps10
        go_wp2_with (go_at_call 24; (with_reducible refine (check_any _ s f l v _).mono ?_); rintro e w' ⟨rfl, hb⟩; rw [HT.out]; obtain ⟨hz, hc, hf⟩ := bcell hb; (try simp only [World.size_alloc, World.size_drew, World.heap_drewN, World.size_setCell] at hz); (try have hs0 : w.heap.size < w'.heap.size := by omega); (try have hs1 : w.heap.size + 1 < w'.heap.size := by omega); (try have hs2 : w.heap.size + 2 < w'.heap.size := by omega))
        go_ret
        exact ⟨ret_str (by rw [textS, if_pos HM.out]; rfl), (by repeat (first | (with_reducible exact Below.refl _ _) | (with_reducible assumption) | (with_reducible refine bthen (by with_reducible assumption) ?_) | (with_reducible refine balloc _ ?_) | (with_reducible refine bdrewN _ ?_) | (with_reducible refine bdrew ?_) | (with_reducible refine bset (by first | exact Nat.le_refl _ | (dsimp only; omega)) ?_)))⟩
    · obtain ⟨h0, h1, hf⟩ := dataB_bd hd
      have hsz := hexL_size hv
      clear hd
      rcases hf with rfl | rfl | rfl
      all_goals
        cases s
        all_goals
          go_enter Tryd.func10, Tryd.ntmps10
          go_wp2_with (first | (go_at_call 24; (with_reducible refine (check_any _ _ _ l v _).mono ?_); rintro e w' ⟨rfl, hb⟩; rw [HT.out]; obtain ⟨hz, hc, hf⟩ := bcell hb; (try simp only [World.size_alloc, World.size_drew, World.heap_drewN, World.size_setCell] at hz); (try have hs0 : w.heap.size < w'.heap.size := by omega); (try have hs1 : w.heap.size + 1 < w'.heap.size := by omega); (try have hs2 : w.heap.size + 2 < w'.heap.size := by omega)) | (go_at_call 27; (with_reducible refine (itoa_1 l _ h0 (by omega)).mono ?_); rintro e w' ⟨rfl, hb⟩; obtain ⟨hz, hc, hf⟩ := bcell hb; (try simp only [World.size_alloc, World.size_drew, World.heap_drewN, World.size_setCell] at hz); (try have hs0 : w.heap.size < w'.heap.size := by omega); (try have hs1 : w.heap.size + 1 < w'.heap.size := by omega); (try have hs2 : w.heap.size + 2 < w'.heap.size := by omega)) | (go_at_call 28; (with_reducible refine (FormatUint_16 v _ hv (hT.below (by repeat (first | (with_reducible exact Below.refl _ _) | (with_reducible assumption) | (with_reducible refine bthen (by with_reducible assumption) ?_) | (with_reducible refine balloc _ ?_) | (with_reducible refine bdrewN _ ?_) | (with_reducible refine bdrew ?_) | (with_reducible refine bset (by first | exact Nat.le_refl _ | (dsimp only; omega)) ?_))))).mono ?_); rintro e w' ⟨rfl, hb⟩; obtain ⟨hz, hc, hf⟩ := bcell hb; (try simp only [World.size_alloc, World.size_drew, World.heap_drewN, World.size_setCell] at hz); (try have hs0 : w.heap.size < w'.heap.size := by omega); (try have hs1 : w.heap.size + 1 < w'.heap.size := by omega); (try have hs2 : w.heap.size + 2 < w'.heap.size := by omega)))
          go_ret
          exact ⟨ret_str (by rw [textS, if_pos HM.out]; rfl), (by repeat (first | (with_reducible exact Below.refl _ _) | (with_reducible assumption) | (with_reducible refine bthen (by with_reducible assumption) ?_) | (with_reducible refine balloc _ ?_) | (with_reducible refine bdrewN _ ?_) | (with_reducible refine bdrew ?_) | (with_reducible refine bset (by first | exact Nat.le_refl _ | (dsimp only; omega)) ?_)))⟩
  · have HT := Lib.hid (chkI_f (by simpa using hm))
    have HM := Lib.hid hm
    clear hm
    go_enter Tryd.func10, Tryd.ntmps10
    go_wp2_with (go_at_call 24; (with_reducible refine (check_any _ s f l v _).mono ?_); rintro e w' ⟨rfl, hb⟩; rw [HT.out]; obtain ⟨hz, hc, hf⟩ := bcell hb; (try simp only [World.size_alloc, World.size_drew, World.heap_drewN, World.size_setCell] at hz); (try have hs0 : w.heap.size < w'.heap.size := by omega); (try have hs1 : w.heap.size + 1 < w'.heap.size := by omega); (try have hs2 : w.heap.size + 2 < w'.heap.size := by omega))
    go_ret
    exact ⟨ret_str (by rw [textS, if_neg HM.out]), (by repeat (first | (with_reducible exact Below.refl _ _) | (with_reducible assumption) | (with_reducible refine bthen (by with_reducible assumption) ?_) | (with_reducible refine balloc _ ?_) | (with_reducible refine bdrewN _ ?_) | (with_reducible refine bdrew ?_) | (with_reducible refine bset (by first | exact Nat.le_refl _ | (dsimp only; omega)) ?_)))⟩
end Go.Proofs.YtailocbophkmmaaDoor
