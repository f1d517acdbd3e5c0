/-
  Image of both packages: rows of instructions as words.
-/
import Derived.Test.YtailocbophkmmaaDoorIsaTable
import Derived.Test.YtailocbophkmmaaDoorIsaEnc2
import Derived.Test.YtailocbophkmmaaDoorRefEnc2
import Derived.Test.YtailocbophkmmaaDoorIsaPure
import Derived.OwnWalk
import Derived.Deep.AppendLies
namespace Go.Proofs.YtailocbophkmmaaDoor
open Go.RowKit FP

/-- What a cell holds, as a number. -/
def cellN (w : World) (b o : Nat) : Int := match w.cell? ⟨b, o, none⟩ with | some (.int _ n) => n | _ => 0
/-- A row of instructions lies there; field j of instruction i: fi. -/
def InsAt (w : World) (ad : Option Addr) (len : Nat) (F : Nat → Nat → Int) : Prop := ∀ i, i < len → ∃ b off, ad = some ⟨b, off, none⟩ ∧
  w.cell? ⟨b, off + i * 5, none⟩ = some (.int .i8 (F i 0)) ∧ w.cell? ⟨b, off + i * 5 + 1, none⟩ = some (.int .i8 (F i 1)) ∧ w.cell? ⟨b, off + i * 5 + 2, none⟩ = some (.int .i8 (F i 2)) ∧ w.cell? ⟨b, off + i * 5 + 3, none⟩ = some (.int .i8 (F i 3)) ∧ w.cell? ⟨b, off + i * 5 + 4, none⟩ = some (.int .i64 (F i 4)) ∧
  -9223372036854775808 ≤ F i 4 ∧ F i 4 ≤ 9223372036854775807
def okE (F : Nat → Nat → Int) (i : Nat) : Bool := okB (F i 0) (F i 1) (F i 2) (F i 3) (F i 4) && decide (F i 0 ≠ 18)
def wordE (F : Nat → Nat → Int) (i : Nat) : Int := encI (F i 0) (F i 1) (F i 2) (F i 3) (F i 4)
def wordsE (F : Nat → Nat → Int) (n : Nat) : List Value := (List.range n).map fun i => .int .u32 (wordE F i)
theorem wordsE_succ (F : Nat → Nat → Int) (n : Nat) : wordsE F (n + 1) = wordsE F n ++ [.int .u32 (wordE F n)] := by simp [wordsE, List.range_succ]
def ImgPost (F : Nat → Nat → Int) (len : Nat) (w : World) (e : Ending) (w' : World) : Prop :=
  Below w.heap.size w w' ∧ (((∀ i, i < len → okE F i = true) ∧ ∃ v, e = .returned (.tuple #[v, .int .i64 0]) ∧ w'.ownsRow w.heap.size 34 1 v len (wordsE F len)) ∨
    ((∃ i, i < len ∧ okE F i = false) ∧ e = .returned (.tuple #[.slice none 0 0, .int .i64 60])))
theorem infoU32 : (Tryd.prog.info? 34).map (fun i => (i.zero, i.size, i.bytes)) = some (some (.int .u32 0), 1, 4) := by kernel_rfl
set_option maxRecDepth 100000 in
set_option maxHeartbeats 4000000 in
theorem imageI_any (F : Nat → Nat → Int) (ad : Option Addr) (len cap : Nat) (w : World) (hl : len ≤ 1000) (hI : InsAt w ad len F) (hS : Shapes w) (hW : Words w) :
    Calls Tryd.prog 20 #[.slice ad len cap] w (ImgPost F len w) := by
  have HS := Lib.hid hS
  have HW := Lib.hid hW
  have HI := Lib.hid hI
  clear hS hW hI
  obtain ⟨i0, hi0, hz0, hz1, hz2⟩ := info_parts infoU32
  go_enter Tryd.func20, Tryd.ntmps20
  go_wp2_with (refine wpList_make_own _ (by rfl) _ _ _ (by rfl) w.heap.size 34 i0 _ 1 Tryd.underlying46 hi0 hz0 hz1 .i64 .i64 _ len (by rfl) (by rfl) rfl (by rw [hz2]; omega) (by unfold maxLen; omega) (Nat.le_refl _) ?_; intro w1 hown1 hgr1)
  have hB1 : Below w.heap.size w w1 := (Below.refl _ _).grown hgr1 (Nat.le_refl _) (fun k hk => by cases hk)
  clear hgr1
  go_loopw [4, 14] (fun v i wr => ∃ j : Nat, j ≤ len ∧ i = .int .i64 j ∧ Below w.heap.size w wr ∧ wr.ownsRow w.heap.size 34 1 v j (wordsE F j) ∧ ∀ q, q < j → okE F q = true) (fun _ i _ => len - (intOf i).toNat)
  case atStart => exact ⟨0, by omega, rfl, hB1, hown1, fun q hq => by omega⟩
  case round =>
    obtain ⟨j, hj, rfl, hB, hown, hok⟩ := hrel
    have HB := Lib.hid hB
    have HOK := Lib.hid hok
    have hsr := hB.size
    clear hok hown1 hB1
    by_cases hjl : j < len
    · obtain ⟨b, off, rfl, c0, c1, c2, c3, c4, i0', i1'⟩ := HI.out j hjl
      have hbw : b < w.heap.size := World.block_lt_of_cell? w _ c0
      have k0 := (hB.cell (p := ⟨b, off + j * 5, none⟩) hbw).trans c0
      have k1 := (hB.cell (p := ⟨b, off + j * 5 + 1, none⟩) hbw).trans c1
      have k2 := (hB.cell (p := ⟨b, off + j * 5 + 2, none⟩) hbw).trans c2
      have k3 := (hB.cell (p := ⟨b, off + j * 5 + 3, none⟩) hbw).trans c3
      have k4 := (hB.cell (p := ⟨b, off + j * 5 + 4, none⟩) hbw).trans c4
      clear c0 c1 c2 c3 c4 hB
      by_cases hok : okE F j = true
      · have hok' := hok
        simp only [okE, Bool.and_eq_true, decide_eq_true_eq] at hok'
        have HE : Hid (encV (F j 0) (F j 1) (F j 2) (F j 3) (F j 4) = .tuple #[.int .u32 (wordE F j), .int .i64 0]) := Lib.hid (encV_t hok'.1 hok'.2)
        have HOJ := Lib.hid hok
        clear hok hok'
        have hgB := fun k h => (hown.lt k h).1
        go_wp2_with (first | ((go_at_call 15; (with_reducible refine (encodeI_any (F j 0) (F j 1) (F j 2) (F j 3) (F j 4) _ (HS.out.below (by have hB := HB.out; exact (by repeat (first | (with_reducible exact Below.refl _ _) | (with_reducible assumption) | (with_reducible refine bthen (by with_reducible assumption) ?_) | (with_reducible refine balloc _ ?_) | (with_reducible refine bdrewN _ ?_) | (with_reducible refine bdrew ?_) | (with_reducible refine bset (by first | exact Nat.le_refl _ | (dsimp only; omega)) ?_))))) (HW.out.below (by have hB := HB.out; exact (by repeat (first | (with_reducible exact Below.refl _ _) | (with_reducible assumption) | (with_reducible refine bthen (by with_reducible assumption) ?_) | (with_reducible refine balloc _ ?_) | (with_reducible refine bdrewN _ ?_) | (with_reducible refine bdrew ?_) | (with_reducible refine bset (by first | exact Nat.le_refl _ | (dsimp only; omega)) ?_))))) i0' i1').mono ?_); rintro e w' ⟨rfl, hb⟩; rw [HE.out]; obtain ⟨hz, hc, hf⟩ := bcell hb; (try simp only [World.size_alloc] at hz); (try simp only [World.size_setCell] at hz); (try simp only [World.size_drew] at hz); (try simp only [World.heap_drewN] at hz); (try have hs0 : w.heap.size < w'.heap.size := by omega); (try have hs1 : w.heap.size + 1 < w'.heap.size := by omega); (try have hs2 : w.heap.size + 2 < w'.heap.size := by omega)); have hown1 := owns_below (hown.alloc _) hb) | (refine wpList_append_lies _ (by rfl) _ _ _ (by rfl) w.heap.size 34 i0 _ 1 4 Tryd.underlying46 hi0 hz0 hz1 hz2 rfl (by omega) _ j (wordsE F j) (by rfl) (hown1.alloc _) ⟨w'.heap.size, 0, none⟩ 1 1 [.int .u32 (wordE F j)] (by rfl) (by rfl) (World.news_of_block (cs := #[.int .u32 (wordE F j)]) (t := 34) (fr := (0, 0)) (heap_alloc_new w' _)) (by simp [Value.oneCell']) (by omega) (by unfold maxLen; omega) (by omega) (by simp only [World.size_alloc]; omega) _ rfl ?_; intro g cp w2 hown2 hgrow hat hlt2))
        have hBW : Below w.heap.size w (w'.alloc (.cells #[.int .u32 (wordE F j)] 34)) := by have hB := HB.out; exact (by repeat (first | (with_reducible exact Below.refl _ _) | (with_reducible assumption) | (with_reducible refine bthen (by with_reducible assumption) ?_) | (with_reducible refine balloc _ ?_) | (with_reducible refine bdrewN _ ?_) | (with_reducible refine bdrew ?_) | (with_reducible refine bset (by first | exact Nat.le_refl _ | (dsimp only; omega)) ?_)))
        refine ⟨⟨j + 1, by omega, by simp, hBW.grown hgrow hBW.size hgB, by rw [wordsE_succ]; exact hown2, fun q hq => ?_⟩, by simp [intOf]; omega⟩
        by_cases e : q = j
        · subst e; exact HOJ.out
        · exact HOK.out q (by omega)
      · have HE : Hid (encV (F j 0) (F j 1) (F j 2) (F j 3) (F j 4) = .tuple #[.int .u32 0, .int .i64 60]) := Lib.hid (by
          simp only [okE, Bool.and_eq_true, decide_eq_true_eq] at hok
          refine encV_f ?_
          by_cases h8 : F j 0 = 18
          · exact .inr h8
          · exact .inl (by simpa using fun h => hok ⟨h, h8⟩))
        have hok2 : okE F j = false := by simpa using hok
        have HOJ := Lib.hid hok2
        clear hok hok2
        go_wp2_with (go_at_call 15; (with_reducible refine (encodeI_any (F j 0) (F j 1) (F j 2) (F j 3) (F j 4) _ (HS.out.below (by have hB := HB.out; exact (by repeat (first | (with_reducible exact Below.refl _ _) | (with_reducible assumption) | (with_reducible refine bthen (by with_reducible assumption) ?_) | (with_reducible refine balloc _ ?_) | (with_reducible refine bdrewN _ ?_) | (with_reducible refine bdrew ?_) | (with_reducible refine bset (by first | exact Nat.le_refl _ | (dsimp only; omega)) ?_))))) (HW.out.below (by have hB := HB.out; exact (by repeat (first | (with_reducible exact Below.refl _ _) | (with_reducible assumption) | (with_reducible refine bthen (by with_reducible assumption) ?_) | (with_reducible refine balloc _ ?_) | (with_reducible refine bdrewN _ ?_) | (with_reducible refine bdrew ?_) | (with_reducible refine bset (by first | exact Nat.le_refl _ | (dsimp only; omega)) ?_))))) i0' i1').mono ?_); rintro e w' ⟨rfl, hb⟩; rw [HE.out]; obtain ⟨hz, hc, hf⟩ := bcell hb; (try simp only [World.size_alloc] at hz); (try simp only [World.size_setCell] at hz); (try simp only [World.size_drew] at hz); (try simp only [World.heap_drewN] at hz); (try have hs0 : w.heap.size < w'.heap.size := by omega); (try have hs1 : w.heap.size + 1 < w'.heap.size := by omega); (try have hs2 : w.heap.size + 2 < w'.heap.size := by omega))
        go_ret2
        have hB := HB.out
        exact ⟨(by repeat (first | (with_reducible exact Below.refl _ _) | (with_reducible assumption) | (with_reducible refine bthen (by with_reducible assumption) ?_) | (with_reducible refine balloc _ ?_) | (with_reducible refine bdrewN _ ?_) | (with_reducible refine bdrew ?_) | (with_reducible refine bset (by first | exact Nat.le_refl _ | (dsimp only; omega)) ?_))), .inr ⟨⟨j, hjl, HOJ.out⟩, rfl⟩⟩
    · obtain rfl : j = len := by omega
      go_wp2
      go_ret2
      exact ⟨HB.out, .inl ⟨HOK.out, _, rfl, hown⟩⟩
set_option maxRecDepth 100000 in
set_option maxHeartbeats 4000000 in
theorem imageR_any (F : Nat → Nat → Int) (ad : Option Addr) (len cap : Nat) (w : World) (hl : len ≤ 1000) (hI : InsAt w ad len F) :
    Calls Tryd.prog 21 #[.slice ad len cap] w (ImgPost F len w) := by
  have HI := Lib.hid hI
  clear hI
  obtain ⟨i0, hi0, hz0, hz1, hz2⟩ := info_parts infoU32
  go_enter Tryd.func21, Tryd.ntmps21
  go_wp2
  go_loopw [4, 5] (fun v i wr => ∃ j : Nat, j ≤ len ∧ i = .int .i64 j ∧ Below w.heap.size w wr ∧ wr.ownsRow w.heap.size 34 1 v j (wordsE F j) ∧ ∀ q, q < j → okE F q = true) (fun _ i _ => len - (intOf i).toNat)
  case atStart => exact ⟨0, by omega, rfl, Below.refl _ _, ⟨rfl, .inl ⟨rfl, rfl⟩⟩, fun q hq => by omega⟩
  case round =>
    obtain ⟨j, hj, rfl, hB, hown, hok⟩ := hrel
    have HB := Lib.hid hB
    have HOK := Lib.hid hok
    have hsr := hB.size
    clear hok
    by_cases hjl : j < len
    · obtain ⟨b, off, rfl, c0, c1, c2, c3, c4, i0', i1'⟩ := HI.out j hjl
      have hbw : b < w.heap.size := World.block_lt_of_cell? w _ c0
      have k0 := (hB.cell (p := ⟨b, off + j * 5, none⟩) hbw).trans c0
      have k1 := (hB.cell (p := ⟨b, off + j * 5 + 1, none⟩) hbw).trans c1
      have k2 := (hB.cell (p := ⟨b, off + j * 5 + 2, none⟩) hbw).trans c2
      have k3 := (hB.cell (p := ⟨b, off + j * 5 + 3, none⟩) hbw).trans c3
      have k4 := (hB.cell (p := ⟨b, off + j * 5 + 4, none⟩) hbw).trans c4
      clear c0 c1 c2 c3 c4 hB
      by_cases hok : okE F j = true
      · have hok' := hok
        simp only [okE, Bool.and_eq_true, decide_eq_true_eq] at hok'
        have HE : Hid (encV (F j 0) (F j 1) (F j 2) (F j 3) (F j 4) = .tuple #[.int .u32 (wordE F j), .int .i64 0]) := Lib.hid (encV_t hok'.1 hok'.2)
        have HOJ := Lib.hid hok
        clear hok hok'
        have hgB := fun k h => (hown.lt k h).1
        go_wp2_with (first | ((go_at_call 16; (with_reducible refine (encodeR_any (F j 0) (F j 1) (F j 2) (F j 3) (F j 4) _).mono ?_); rintro e w' ⟨rfl, hb⟩; rw [HE.out]; obtain ⟨hz, hc, hf⟩ := bcell hb; (try simp only [World.size_alloc] at hz); (try simp only [World.size_setCell] at hz); (try simp only [World.size_drew] at hz); (try simp only [World.heap_drewN] at hz); (try have hs0 : w.heap.size < w'.heap.size := by omega); (try have hs1 : w.heap.size + 1 < w'.heap.size := by omega); (try have hs2 : w.heap.size + 2 < w'.heap.size := by omega)); have hown1 := owns_below hown hb) | (refine wpList_append_lies _ (by rfl) _ _ _ (by rfl) w.heap.size 34 i0 _ 1 4 Tryd.underlying46 hi0 hz0 hz1 hz2 rfl (by omega) _ j (wordsE F j) (by rfl) (hown1.alloc _) ⟨w'.heap.size, 0, none⟩ 1 1 [.int .u32 (wordE F j)] (by rfl) (by rfl) (World.news_of_block (cs := #[.int .u32 (wordE F j)]) (t := 34) (fr := (0, 0)) (heap_alloc_new w' _)) (by simp [Value.oneCell']) (by omega) (by unfold maxLen; omega) (by omega) (by simp only [World.size_alloc]; omega) _ rfl ?_; intro g cp w2 hown2 hgrow hat hlt2))
        have hBW : Below w.heap.size w (w'.alloc (.cells #[.int .u32 (wordE F j)] 34)) := by have hB := HB.out; exact (by repeat (first | (with_reducible exact Below.refl _ _) | (with_reducible assumption) | (with_reducible refine bthen (by with_reducible assumption) ?_) | (with_reducible refine balloc _ ?_) | (with_reducible refine bdrewN _ ?_) | (with_reducible refine bdrew ?_) | (with_reducible refine bset (by first | exact Nat.le_refl _ | (dsimp only; omega)) ?_)))
        refine ⟨⟨j + 1, by omega, by simp, hBW.grown hgrow hBW.size hgB, by rw [wordsE_succ]; exact hown2, fun q hq => ?_⟩, by simp [intOf]; omega⟩
        by_cases e : q = j
        · subst e; exact HOJ.out
        · exact HOK.out q (by omega)
      · have HE : Hid (encV (F j 0) (F j 1) (F j 2) (F j 3) (F j 4) = .tuple #[.int .u32 0, .int .i64 60]) := Lib.hid (by
          simp only [okE, Bool.and_eq_true, decide_eq_true_eq] at hok
          refine encV_f ?_
          by_cases h8 : F j 0 = 18
          · exact .inr h8
          · exact .inl (by simpa using fun h => hok ⟨h, h8⟩))
        have hok2 : okE F j = false := by simpa using hok
        have HOJ := Lib.hid hok2
        clear hok hok2
        go_wp2_with (go_at_call 16; (with_reducible refine (encodeR_any (F j 0) (F j 1) (F j 2) (F j 3) (F j 4) _).mono ?_); rintro e w' ⟨rfl, hb⟩; rw [HE.out]; obtain ⟨hz, hc, hf⟩ := bcell hb; (try simp only [World.size_alloc] at hz); (try simp only [World.size_setCell] at hz); (try simp only [World.size_drew] at hz); (try simp only [World.heap_drewN] at hz); (try have hs0 : w.heap.size < w'.heap.size := by omega); (try have hs1 : w.heap.size + 1 < w'.heap.size := by omega); (try have hs2 : w.heap.size + 2 < w'.heap.size := by omega))
        go_ret2
        have hB := HB.out
        exact ⟨(by repeat (first | (with_reducible exact Below.refl _ _) | (with_reducible assumption) | (with_reducible refine bthen (by with_reducible assumption) ?_) | (with_reducible refine balloc _ ?_) | (with_reducible refine bdrewN _ ?_) | (with_reducible refine bdrew ?_) | (with_reducible refine bset (by first | exact Nat.le_refl _ | (dsimp only; omega)) ?_))), .inr ⟨⟨j, hjl, HOJ.out⟩, rfl⟩⟩
    · obtain rfl : j = len := by omega
      go_wp2
      go_ret2
      exact ⟨HB.out, .inl ⟨HOK.out, _, rfl, hown⟩⟩
end Go.Proofs.YtailocbophkmmaaDoor
