/-
  Package isa: the rows of the decoder.
-/
import Derived.Test.YtailocbophkmmaaDoorIsaRead
import Derived.Deep.RegionHeld3
import Derived.Test.YtailocbophkmmaaDoorIsaEnc
import Derived.Deep.AppendLies
import Derived.Laws.EntriesVeiled
import Derived.Laws.OwnMore
namespace Go.Proofs.YtailocbophkmmaaDoor
open Go.RowKit FP

/-- The function that reads an operation's fields. -/
def readF (k : Nat) : Nat := if k = 1 then 65 else if k = 2 ∨ k = 3 ∨ k = 4 ∨ k = 5 ∨ k = 6 ∨ k = 11 then 67 else if k = 7 then 68 else if k = 8 ∨ k = 9 ∨ k = 10 ∨ k = 12 then 69 else if k = 14 then 70 else if k = 15 ∨ k = 16 then 72 else 73
def rdV (k q : Nat) : Value := .func (.func (readF k)) #[] #[.pointer (some ⟨q, 0, none⟩)]
set_option maxHeartbeats 1600000 in
theorem reader_any (k : Nat) (hk : k < 18) (w : World) :
    Calls Tryd.prog 51 #[.int .i8 k] w fun e w' => e = .returned (rdV k w.heap.size) ∧ w'.cell? ⟨w.heap.size, 0, none⟩ = some (.int .i8 k) ∧ w.heap.size < w'.heap.size ∧ Below w.heap.size w w' := by
  unfold rdV
  obtain rfl | rfl | rfl | rfl | rfl | rfl | rfl | rfl | rfl | rfl | rfl | rfl | rfl | rfl | rfl | rfl | rfl | rfl : k = 0 ∨ k = 1 ∨ k = 2 ∨ k = 3 ∨ k = 4 ∨ k = 5 ∨ k = 6 ∨ k = 7 ∨ k = 8 ∨ k = 9 ∨ k = 10 ∨ k = 11 ∨ k = 12 ∨ k = 13 ∨ k = 14 ∨ k = 15 ∨ k = 16 ∨ k = 17 := by omega
  all_goals
    go_enter Tryd.func51, Tryd.ntmps51
    go_wp2
    go_ret
    refine ⟨rfl, by go_simp, by simp, (by repeat (first | (with_reducible exact Below.refl _ _) | (with_reducible assumption) | (with_reducible refine bthen (by with_reducible assumption) ?_) | (with_reducible refine balloc _ ?_) | (with_reducible refine bdrewN _ ?_) | (with_reducible refine bdrew ?_) | (with_reducible refine bset (by first | exact Nat.le_refl _ | (dsimp only; omega)) ?_)))⟩

/-- The bits that are no fields. -/
def maskI (n : Nat) : Int := if n = 0 then 4294967295 else if n = 1 then 4292870144 else if n = 2 then 4292934656 else if n = 3 then 4292934656 else if n = 4 then 4292934656 else if n = 5 then 4292934656 else if n = 6 then 4292934656 else if n = 7 then 4290772992 else if n = 8 then 4294966272 else if n = 9 then 4294966272 else if n = 10 then 4294966272 else if n = 11 then 4292934656 else if n = 12 then 4294966272 else if n = 13 then 4294967295 else if n = 14 then 4227858432 else if n = 15 then 4278190080 else if n = 16 then 4278190080 else if n = 17 then 4294967295 else 0
def Masks (w : World) : Prop := ∀ n, n < 18 → w.cell? ⟨4, n, none⟩ = some (.int .u32 (maskI n))
theorem Masks.below {w w' : World} (h : Masks w) (hb : Below w.heap.size w w') : Masks w' := fun n hn => by
  have hlt : 4 < w.heap.size := World.block_lt_of_cell? w _ (h 0 (by omega))
  exact (hb.cell (p := ⟨_, _, none⟩) hlt).trans (h n hn)
def masksC : List Value := [.int .u32 (maskI 0), .int .u32 (maskI 1), .int .u32 (maskI 2), .int .u32 (maskI 3), .int .u32 (maskI 4), .int .u32 (maskI 5), .int .u32 (maskI 6), .int .u32 (maskI 7), .int .u32 (maskI 8), .int .u32 (maskI 9), .int .u32 (maskI 10), .int .u32 (maskI 11), .int .u32 (maskI 12), .int .u32 (maskI 13), .int .u32 (maskI 14), .int .u32 (maskI 15), .int .u32 (maskI 16), .int .u32 (maskI 17)]
theorem masks_range {W : World} (hM : Masks W) : W.rangeAt 4 0 masksC := by
  intro j v hv
  have hj : j < 18 := (List.getElem?_eq_some_iff.1 hv).1
  rw [Nat.zero_add, hM j hj, ← hv]
  clear hM hv
  obtain rfl | rfl | rfl | rfl | rfl | rfl | rfl | rfl | rfl | rfl | rfl | rfl | rfl | rfl | rfl | rfl | rfl | rfl : j = 0 ∨ j = 1 ∨ j = 2 ∨ j = 3 ∨ j = 4 ∨ j = 5 ∨ j = 6 ∨ j = 7 ∨ j = 8 ∨ j = 9 ∨ j = 10 ∨ j = 11 ∨ j = 12 ∨ j = 13 ∨ j = 14 ∨ j = 15 ∨ j = 16 ∨ j = 17 := by omega
  all_goals rfl
theorem masks_size : (Tryd.prog.info? 100).map (·.size) = some masksC.length := by kernel_rfl
set_option maxRecDepth 100000
theorem masks_index (k : Nat) (hk : k < 18) : ∀ w, (Instr.index 100 (.agg masksC.toArray) (.int .i64 k)).run Tryd.prog w = .ok (.int .u32 (maskI k)) w := by
  obtain rfl | rfl | rfl | rfl | rfl | rfl | rfl | rfl | rfl | rfl | rfl | rfl | rfl | rfl | rfl | rfl | rfl | rfl : k = 0 ∨ k = 1 ∨ k = 2 ∨ k = 3 ∨ k = 4 ∨ k = 5 ∨ k = 6 ∨ k = 7 ∨ k = 8 ∨ k = 9 ∨ k = 10 ∨ k = 11 ∨ k = 12 ∨ k = 13 ∨ k = 14 ∨ k = 15 ∨ k = 16 ∨ k = 17 := by omega
  all_goals exact fun _ => by kernel_rfl
theorem s_cell {w : World} {o : Obj} {n i : Nat} {v : Option Value} (h : n < w.heap.size) (hc : w.cell? ⟨n, i, none⟩ = v) : (w.alloc o).cell? ⟨n, i, none⟩ = v := (World.cell?_alloc_past _ _ _ h).trans hc
theorem s_fr {w : World} {o : Obj} {n i : Nat} {v : Bool} (h : n < w.heap.size) (hc : w.frozen? ⟨n, i, none⟩ = v) : (w.alloc o).frozen? ⟨n, i, none⟩ = v := (World.frozen?_alloc_past _ _ _ h).trans hc
theorem s_sz {w : World} {o : Obj} {n : Nat} (h : n < w.heap.size) : n < (w.alloc o).heap.size := by simp; omega
theorem owns_below {B : Nat} {e : TypeId} {k : Nat} {v : Value} {n : Nat} {xs : List Value} {w w' : World} (h : w.ownsRow B e k v n xs) (hb : Below w.heap.size w w') : w'.ownsRow B e k v n xs :=
  h.kept (row := none) ⟨hb.os, hb.tape, hb.output, hb.size, fun j hj _ => hb.block j hj⟩ (by cases v.ownBlock <;> simp)
theorem then_intro {K : Exit → Act → World → Prop} {a : Act} {w : World} (h : ∀ W, w = W → K .normal a W) : K .normal a w := h w rfl
theorem infoRow : (Tryd.prog.info? 78).map (fun i => (i.zero, i.size, i.bytes)) = some (some (.agg #[.int .u32 0, .int .u32 0, .nilFunc]), 3, 16) := by kernel_rfl
/-- The row at place j. -/
def RowAt (W : World) (p : Nat) (v : Value) (xs : List Value) (j : Nat) : Prop :=
  (j < 18 → ∃ q, xs[3 * j]? = some (.int .u32 (maskI j)) ∧ xs[3 * j + 1]? = some (.int .u32 (wordI j)) ∧ xs[3 * j + 2]? = some (rdV j q) ∧ W.cell? ⟨q, 0, none⟩ = some (.int .i8 j) ∧ p < q ∧ v.ownBlock ≠ some q) ∧
  (j = 18 → ∃ q r, xs[54]? = some (.int .u32 (maskI 7)) ∧ xs[55]? = some (.int .u32 3506438144) ∧ xs[56]? = some (.func (.func 52) #[] #[.pointer (some ⟨r, 0, none⟩)]) ∧ W.cell? ⟨r, 0, none⟩ = some (rdV 7 q) ∧ W.cell? ⟨q, 0, none⟩ = some (.int .i8 7) ∧ p < q ∧ p < r ∧ v.ownBlock ≠ some q ∧ v.ownBlock ≠ some r)
def RowsL (W : World) (p : Nat) (v : Value) (k : Nat) (xs : List Value) : Prop := ∀ j, j < k → RowAt W p v xs j
def FillAt (d p n0 : Nat) (c0 c1 c2 : Value) (w : World) (k : Nat) (wr : World) : Prop :=
  Below n0 w wr ∧ w.heap.size ≤ wr.heap.size ∧ wr.heap[p]? = some (.cells #[.pointer (some ⟨d, 0, none⟩)] 98 (0, 0)) ∧
    ∃ v xs, wr.heap[d]? = some (.cells #[c0, c1, c2, v] 74 (0, 0)) ∧ wr.ownsRow (p + 1) 78 3 v k xs ∧ RowsL wr p v k xs
theorem rowAt_keep {wr w3 : World} {p n : Nat} {v v' : Value} {xs ys : List Value} {j : Nat} (hj : j < n) (hl : xs.length = n * 3) (h : RowAt wr p v xs j)
    (hc : ∀ q x, p < q → v.ownBlock ≠ some q → wr.cell? ⟨q, 0, none⟩ = some x → w3.cell? ⟨q, 0, none⟩ = some x ∧ v'.ownBlock ≠ some q) : RowAt w3 p v' (xs ++ ys) j := by
  have hx : ∀ i, i < 3 → (xs ++ ys)[3 * j + i]? = xs[3 * j + i]? := fun i hi => List.getElem?_append_left (by omega)
  refine ⟨fun h18 => ?_, fun h18 => ?_⟩
  · obtain ⟨q, a, b, c, e, f, g⟩ := h.1 h18
    obtain ⟨k1, k2⟩ := hc q _ f g e
    exact ⟨q, (hx 0 (by omega)).trans a, (hx 1 (by omega)).trans b, (hx 2 (by omega)).trans c, k1, f, k2⟩
  · obtain ⟨q, r, a, b, c, e, e2, f, f2, g, g2⟩ := h.2 h18
    subst h18
    obtain ⟨k1, k2⟩ := hc q _ f g e2
    obtain ⟨l1, l2⟩ := hc r _ f2 g2 e
    exact ⟨q, r, (hx 0 (by omega)).trans a, (hx 1 (by omega)).trans b, (hx 2 (by omega)).trans c, l1, k1, f, f2, k2, l2⟩
/-- The row has come to the others. -/
theorem fill_grow {d p n0 n g cap : Nat} {c0 c1 c2 v : Value} {w wr w1 w2 : World} {o : Obj} {xs ys : List Value} (hd : n0 ≤ d) (hp : d < p) (hB : Below n0 w wr) (hsz : w.heap.size ≤ wr.heap.size)
    (hb0 : wr.heap[p]? = some (.cells #[.pointer (some ⟨d, 0, none⟩)] 98 (0, 0))) (hb1 : wr.heap[d]? = some (.cells #[c0, c1, c2, v] 74 (0, 0)))
    (hown : wr.ownsRow (p + 1) 78 3 v n xs) (hrows : RowsL wr p v n xs) (hb : Below wr.heap.size wr w1) (hgrow : (w1.alloc o).grownBy w2 v.ownBlock)
    (hown2 : w2.ownsRow (p + 1) 78 3 (.slice (some ⟨g, 0, none⟩) (n + 1) cap) (n + 1) (xs ++ ys)) (hat : v.ownBlock = some g ∨ g = w1.heap.size + 1)
    (hnew : RowAt (w2.setCell ⟨d, 3, none⟩ (.slice (some ⟨g, 0, none⟩) (n + 1) cap)) p (.slice (some ⟨g, 0, none⟩) (n + 1) cap) (xs ++ ys) n) :
    FillAt d p n0 c0 c1 c2 w (n + 1) (w2.setCell ⟨d, 3, none⟩ (.slice (some ⟨g, 0, none⟩) (n + 1) cap)) := by
  have hpl := blk_lt hb0
  have hdl := blk_lt hb1
  have hlo : ∀ k, v.ownBlock = some k → p + 1 ≤ k := fun k h => (hown.lt k h).1
  have hs1 := hb.size
  have hs2 : w1.heap.size + 1 ≤ w2.heap.size := by have := hgrow.size; simpa using this
  have hbl : ∀ k, k < wr.heap.size → v.ownBlock ≠ some k → w2.heap[k]? = wr.heap[k]? := fun k hk hne =>
    (hgrow.block k (by simp; omega) (Ne.symm hne)).trans ((Below.heap_alloc w1 o k (by omega)).trans (hb.block k hk))
  have hno : ∀ k, k ≤ p → v.ownBlock ≠ some k := fun k hk h => by have := hlo k h; omega
  have hx := hB.size
  refine ⟨?_, ?_, ?_, .slice (some ⟨g, 0, none⟩) (n + 1) cap, xs ++ ys, ?_, ?_, ?_⟩
  · have h2 : Below n0 wr w2 := ⟨hgrow.os.trans hb.os, hgrow.tape.trans hb.tape, hgrow.output.trans hb.output, by omega, fun k hk => hbl k (by omega) (hno k (by omega))⟩
    exact (hB.trans h2).setCell hd _
  · simp; omega
  · exact blk_far (by simp <;> omega) _ ((hbl p hpl (hno p (by omega))).trans hb0)
  · exact blk_set 3 _ rfl ((hbl d hdl (hno d (by omega))).trans hb1)
  · exact ownsRow_setCell_below hown2 (show d < p + 1 by omega) _
  · intro j hj
    by_cases hjn : j = n
    · subst hjn; exact hnew
    refine rowAt_keep (n := n) (by omega) hown.1 (hrows j (by omega)) fun q x hq hne hx => ?_
    have hql := World.block_lt_of_cell? wr _ hx
    refine ⟨?_, ?_⟩
    · rw [World.cell?_setCell_other _ _ _ _ (by simp <;> omega)]
      exact (World.cell?_of_block (hbl q hql hne)).trans hx
    · intro h
      have hgq : g = q := by simpa [Value.ownBlock] using h
      rcases hat with h' | h'
      · exact hne (by rw [h', hgq])
      · have : q < wr.heap.size := hql
        omega
theorem drew_below {wr w1 : World} {n : Nat} (h : Below n wr.drew w1) : Below n wr w1 := ⟨h.os, h.tape, h.output, h.size, h.block⟩
def zero57 : Array Value := (List.replicate 19 [Value.int .u32 0, .int .u32 0, .nilFunc]).flatten.toArray
theorem make57 : ∀ w : World, (Instr.makeSlice 72 (.int .i64 0) (.int .i64 19)).run Tryd.prog w = .ok (.slice (some ⟨w.heap.size, 0, none⟩) 0 19) (w.alloc (.cells zero57 78)) := fun _ => by kernel_rfl
theorem reader_7 (w : World) :
    Calls Tryd.prog 51 #[.int .i8 7] w fun e w' => e = .returned (.func (.func (readF 7)) #[] #[.pointer (some ⟨w.heap.size, 0, none⟩)]) ∧ w'.cell? ⟨w.heap.size, 0, none⟩ = some (.int .i8 7) ∧ w.heap.size < w'.heap.size ∧ Below w.heap.size w w' := reader_any 7 (by omega) w
set_option maxRecDepth 100000 in
set_option maxHeartbeats 4000000 in
theorem fill_any (d p n0 : Nat) (c0 c1 c2 v0 : Value) (w : World) (hd : n0 ≤ d) (hp : d < p) (hW : Words w) (hM : Masks w) (hn : n0 ≤ w.heap.size) (hg1 : 1 < n0) (hg4 : 4 < n0)
    (hbp : w.heap[p]? = some (.cells #[.pointer (some ⟨d, 0, none⟩)] 98 (0, 0))) (hbd : w.heap[d]? = some (.cells #[c0, c1, c2, v0] 74 (0, 0))) :
    Calls Tryd.prog 50 #[.pointer (some ⟨p, 0, none⟩)] w fun e w' => e = .returned (.tuple #[]) ∧ FillAt d p n0 c0 c1 c2 w 19 w' := by
  have hpl := blk_lt hbp
  have hdl := blk_lt hbd
  obtain ⟨kp, fp⟩ := blkc hbp
  obtain ⟨kd, fd⟩ := blkc hbd
  have HM := Lib.hid hM
  have HW := Lib.hid hW
  clear hM hW
  have hmk := make57
  have nz : d ≠ p := by omega
  have nw : d ≠ w.heap.size := by omega
  go_enter Tryd.func50, Tryd.ntmps50
  go_wp2_with fail
  go_region_held3 (fun W => W.cell? ⟨p, 0, none⟩ = some (.pointer (some ⟨d, 0, none⟩))) (first | go_keep | (simp [*, World.cell?_alloc_some, World.cell?_setCell_far, World.frozen?_alloc_old]; done)) (fail)
  refine then_intro ?_
  intro W hWW
  have hF : FillAt d p n0 c0 c1 c2 w 0 W := by
    subst hWW
    refine ⟨?_, ?_, ?_, .slice (some ⟨w.heap.size, 0, none⟩) 0 19, [], ?_, ?_, ?_⟩
    · exact (((Below.refl n0 w).setCell hd _).alloc (by simp; omega) _).drew
    · simp
    · exact blk_alloc (blk_far (by simp <;> omega) _ hbp) _
    · exact blk_alloc (blk_set 3 _ rfl hbd) _
    · refine ⟨rfl, .inr ⟨w.heap.size, 19, zero57, rfl, by omega, ?_, by omega, by decide, by decide, rfl⟩⟩
      exact blk_new _ _ (by simp)
    · intro j hj; omega
  clear hWW
  have hMW : Masks W := fun k hk => by
    have h := HM.out k hk
    exact (hF.1.cell (p := ⟨4, k, none⟩) hg4).trans h
  have hrng := masks_range hMW
  go_wp2_with (refine wpList_load_mid (by rfl) _ _ (by rfl) _ _ (by rfl) masksC _ hrng Tryd.underlying100 rfl masks_size ?_)
  go_loopw [9] (fun i wr => ∃ n : Nat, n ≤ 18 ∧ i = .int .i64 n ∧ FillAt d p n0 c0 c1 c2 w n wr) (fun i _ => 18 - (intOf i).toNat)
  case atStart => exact ⟨0, by omega, rfl, hF⟩
  case round =>
    obtain ⟨n, hn, rfl, hD⟩ := hrel
    have HF := Lib.hid hD
    obtain ⟨hB, hsz, hb0, v, xs, hb1, hown, hrows⟩ := hD
    obtain ⟨k0, f0⟩ := blkc hb0
    obtain ⟨k1, f1⟩ := blkc hb1
    have hpl' := blk_lt hb0
    have hdl' := blk_lt hb1
    have hvb : v.ownBlock ≠ some d := fun h => by have := (hown.lt d h).1; omega
    have hvp : v.ownBlock ≠ some p := fun h => by have := (hown.lt p h).1; omega
    have hvw : v.ownBlock ≠ some 1 := fun h => by have := (hown.lt _ h).1; omega
    have HB := Lib.hid hB
    have HR := Lib.hid hrows
    clear hB hrows hF hMW hrng
    by_cases hn5 : n < 18
    · have hidx := masks_index n hn5
      have hn0 : (0 : Int) ≤ (n : Int) := by omega
      have hn1 : (n : Int) < 18 := by omega
      have hn2 : (n : Int) < 19 := by omega
      have hwi : IntKind.i8.wrap (n : Int) = n := by simp [IntKind.wrap, IntKind.bits, IntKind.signed]; omega
      have hword : wr.cell? ⟨1, n, none⟩ = some (.int .u32 (wordI n)) := (HB.out.cell (p := ⟨1, n, none⟩) hg1).trans (HW.out n (by omega))
      have hgl : 1 < wr.heap.size := by omega
      obtain ⟨i0, hi0, hz0, hz1, hz2⟩ := info_parts infoRow
      clear kp fp kd fd hbp hbd hmk
      go_wp2_with fail
      refine wp_region_noPanic ?_
      refine wp_region_held_drew (S := (fun W => W.cell? ⟨p, 0, none⟩ = some (.pointer (some ⟨d, 0, none⟩)) ∧ W.cell? ⟨1, n, none⟩ = some (.int .u32 (wordI n)) ∧ W.frozen? ⟨d, 3, none⟩ = false ∧ d < W.heap.size ∧ p < W.heap.size)) (by kernel_rfl) ?_ (fun hHeld => ?_)
      · (try dsimp only); ((try go_split_ands); refine ⟨?_, ?_, ?_, ?_, ?_⟩ <;> first | with_reducible assumption | (with_reducible refine s_cell ?_ ?_ <;> with_reducible assumption) | (with_reducible refine s_fr ?_ ?_ <;> with_reducible assumption) | (with_reducible refine s_sz ?_; with_reducible assumption) | (go_simp; done) | (simp; omega))
      (refine wpAnyH_take (i := 0) (v := ?_) (by simp only [List.getElem?_toArray, List.getElem?_cons_succ, List.getElem?_cons_zero]; rfl) (by kernel_rfl) (by kernel_rfl) (by kernel_rfl) (by exact fun _ _ _ h => h) (Or.inl ⟨by rfl, ?_⟩) (by with_reducible assumption) ?_; rotate_left; (focus ((intro w hSw); (try dsimp only at hSw); go_simp <;> with_reducible rfl)); (try simp only [Act.put, List.setIfInBounds_toArray, List.set_cons_zero, List.set_cons_succ]))
      (refine wpAnyH_take (i := 1) (v := ?_) (by simp only [List.getElem?_toArray, List.getElem?_cons_succ, List.getElem?_cons_zero]; rfl) (by kernel_rfl) (by kernel_rfl) (by kernel_rfl) (by exact fun _ _ _ h => h) (Or.inl ⟨by rfl, ?_⟩) (by with_reducible assumption) ?_; rotate_left; (focus ((intro w hSw); (try dsimp only at hSw); go_simp <;> with_reducible rfl)); (try simp only [Act.put, List.setIfInBounds_toArray, List.set_cons_zero, List.set_cons_succ]))
      (refine wpAnyH_take (i := 2) (v := ?_) (by simp only [List.getElem?_toArray, List.getElem?_cons_succ, List.getElem?_cons_zero]; rfl) (by kernel_rfl) (by kernel_rfl) (by kernel_rfl) (by exact fun _ _ _ h => h) (Or.inl ⟨by rfl, ?_⟩) (by with_reducible assumption) ?_; rotate_left; (focus ((intro w hSw); (try dsimp only at hSw); go_simp <;> with_reducible rfl)); (try simp only [Act.put, List.setIfInBounds_toArray, List.set_cons_zero, List.set_cons_succ]))
      (refine wpAnyH_take (i := 3) (v := ?_) (by simp only [List.getElem?_toArray, List.getElem?_cons_succ, List.getElem?_cons_zero]; rfl) (by kernel_rfl) (by kernel_rfl) (by kernel_rfl) (by exact fun _ _ _ h => h) (Or.inl ⟨by rfl, ?_⟩) (by with_reducible assumption) ?_; rotate_left; (focus ((intro w hSw); (try dsimp only at hSw); go_simp <;> with_reducible rfl)); (try simp only [Act.put, List.setIfInBounds_toArray, List.set_cons_zero, List.set_cons_succ]))
      (refine wpAnyH_take (i := 5) (v := ?_) (by simp only [List.getElem?_toArray, List.getElem?_cons_succ, List.getElem?_cons_zero]; rfl) (by kernel_rfl) (by kernel_rfl) (by kernel_rfl) (by exact fun _ _ _ h => h) (Or.inl ⟨by rfl, ?_⟩) (by with_reducible assumption) ?_; rotate_left; (focus ((intro w hSw); (try dsimp only at hSw); go_simp <;> with_reducible rfl)); (try simp only [Act.put, List.setIfInBounds_toArray, List.set_cons_zero, List.set_cons_succ]))
      (refine wpAnyH_take (i := 6) (v := ?_) (by simp only [List.getElem?_toArray, List.getElem?_cons_succ, List.getElem?_cons_zero]; rfl) (by kernel_rfl) (by kernel_rfl) (by kernel_rfl) (by exact fun _ _ _ h => h) (Or.inl ⟨by rfl, ?_⟩) (by with_reducible assumption) ?_; rotate_left; (focus ((intro w hSw); (try dsimp only at hSw); go_simp <;> with_reducible rfl)); (try simp only [Act.put, List.setIfInBounds_toArray, List.set_cons_zero, List.set_cons_succ]))
      (refine wpAnyH_take (i := 7) (v := ?_) (by simp only [List.getElem?_toArray, List.getElem?_cons_succ, List.getElem?_cons_zero]; rfl) (by kernel_rfl) (by kernel_rfl) (by kernel_rfl) (by exact fun _ _ _ h => h) (Or.inl ⟨by rfl, ?_⟩) (by with_reducible assumption) ?_; rotate_left; (focus ((intro w hSw); (try dsimp only at hSw); go_simp <;> with_reducible rfl)); (try simp only [Act.put, List.setIfInBounds_toArray, List.set_cons_zero, List.set_cons_succ]))
      (refine wpAnyH_take (i := 8) (v := ?_) (by simp only [List.getElem?_toArray, List.getElem?_cons_succ, List.getElem?_cons_zero]; rfl) (by kernel_rfl) (by kernel_rfl) (by kernel_rfl) (by exact fun _ _ _ h => h) (Or.inl ⟨by rfl, ?_⟩) (by with_reducible assumption) ?_; rotate_left; (focus ((intro w hSw); (try dsimp only at hSw); go_simp <;> with_reducible rfl)); (try simp only [Act.put, List.setIfInBounds_toArray, List.set_cons_zero, List.set_cons_succ]))
      (refine wpAnyH_take (i := 9) (v := ?_) (by simp only [List.getElem?_toArray, List.getElem?_cons_succ, List.getElem?_cons_zero]; rfl) (by kernel_rfl) (by kernel_rfl) (by kernel_rfl) (by exact fun _ _ _ h => h) (Or.inl ⟨by rfl, ?_⟩) (by with_reducible assumption) ?_; rotate_left; (focus ((intro w hSw); (try dsimp only at hSw); go_simp <;> with_reducible rfl)); (try simp only [Act.put, List.setIfInBounds_toArray, List.set_cons_zero, List.set_cons_succ]))
      (refine wpAnyH_take (i := 10) (v := ?_) (by simp only [List.getElem?_toArray, List.getElem?_cons_succ, List.getElem?_cons_zero]; rfl) (by kernel_rfl) (by kernel_rfl) (by kernel_rfl) (by exact fun _ _ _ h => h) (Or.inl ⟨by rfl, ?_⟩) (by with_reducible assumption) ?_; rotate_left; (focus ((intro w hSw); (try dsimp only at hSw); go_simp <;> with_reducible rfl)); (try simp only [Act.put, List.setIfInBounds_toArray, List.set_cons_zero, List.set_cons_succ]))
      (refine wpAnyH_ready (rs := [4, 11]) (by kernel_rfl) (by simp) ?_)
      refine AllReadyH.cons (by simp only [List.getElem?_toArray, List.getElem?_cons_succ, List.getElem?_cons_zero]; rfl) (fun K hK => ?_) ?_
      · go_simp
        (refine hK.out _ _ ?_ ?_; (focus ((try dsimp only); ((try go_split_ands); refine ⟨?_, ?_, ?_, ?_, ?_⟩ <;> first | with_reducible assumption | (with_reducible refine s_cell ?_ ?_ <;> with_reducible assumption) | (with_reducible refine s_fr ?_ ?_ <;> with_reducible assumption) | (with_reducible refine s_sz ?_; with_reducible assumption) | (go_simp; done) | (simp; omega)))); clear hK K hHeld; intro hHeld; (try simp only [Act.put, List.setIfInBounds_toArray, List.set_cons_zero, List.set_cons_succ]))
        (refine wpAnyH_ready (rs := [11]) (by kernel_rfl) (by simp) ?_)
        refine AllReadyH.cons (by simp only [List.getElem?_toArray, List.getElem?_cons_succ, List.getElem?_cons_zero]; rfl) (fun K hK => ?_) ?_
        · go_simp
          go_at_call 51; (with_reducible refine (reader_any n hn5 _).mono ?_); rintro e w1 ⟨rfl, hq, hlt, hb⟩
          have hown1 := owns_below (World.ownsRow.drew hown) hb
          have hc := bcell hb
          have hc1 := (hc.2.1 p 0 hpl').trans (k0 0)
          have hc2 := (hc.2.1 d 3 hdl').trans (k1 3)
          have hc3 := (hc.2.1 1 n hgl).trans hword
          have hc4 := (hc.2.2 d 3 hdl').trans (f1 3)
          have hc5 : wr.heap.size ≤ w1.heap.size := hc.1
          have hc6 : p < w1.heap.size := Nat.lt_of_lt_of_le hpl' hc5
          have hc7 : d < w1.heap.size := Nat.lt_of_lt_of_le hdl' hc5
          have hc8 : 1 < w1.heap.size := Nat.lt_of_lt_of_le hgl hc5
          unfold rdV
          go_wp2_with fail
          (refine hK.out _ _ ?_ ?_; (focus ((try dsimp only); ((try go_split_ands); refine ⟨?_, ?_, ?_, ?_, ?_⟩ <;> first | with_reducible assumption | (with_reducible refine s_cell ?_ ?_ <;> with_reducible assumption) | (with_reducible refine s_fr ?_ ?_ <;> with_reducible assumption) | (with_reducible refine s_sz ?_; with_reducible assumption) | (go_simp; done) | (simp; omega)))); clear hK K hHeld; intro hHeld; (try simp only [Act.put, List.setIfInBounds_toArray, List.set_cons_zero, List.set_cons_succ]))
          (refine wpAnyH_take (i := 12) (v := ?_) (by simp only [List.getElem?_toArray, List.getElem?_cons_succ, List.getElem?_cons_zero]; rfl) (by kernel_rfl) (by kernel_rfl) (by kernel_rfl) (by exact fun _ _ _ h => h) (Or.inl ⟨by rfl, ?_⟩) (by with_reducible assumption) ?_; rotate_left; (focus ((intro w hSw); (try dsimp only at hSw); go_simp <;> with_reducible rfl)); (try simp only [Act.put, List.setIfInBounds_toArray, List.set_cons_zero, List.set_cons_succ]))
          (refine wpAnyH_ready (rs := [13]) (by kernel_rfl) (by simp) ?_)
          refine AllReadyH.cons (by simp only [List.getElem?_toArray, List.getElem?_cons_succ, List.getElem?_cons_zero]; rfl) (fun K hK => ?_) ?_
          · go_simp
            (refine hK.out _ _ ?_ ?_; (focus ((try dsimp only); ((try go_split_ands); refine ⟨?_, ?_, ?_, ?_, ?_⟩ <;> first | with_reducible assumption | (with_reducible refine s_cell ?_ ?_ <;> with_reducible assumption) | (with_reducible refine s_fr ?_ ?_ <;> with_reducible assumption) | (with_reducible refine s_sz ?_; with_reducible assumption) | (go_simp; done) | (simp; omega)))); clear hK K hHeld; intro hHeld; (try simp only [Act.put, List.setIfInBounds_toArray, List.set_cons_zero, List.set_cons_succ]))
            (refine wpAnyH_ready (rs := [14]) (by kernel_rfl) (by simp) ?_)
            refine AllReadyH.cons (by simp only [List.getElem?_toArray, List.getElem?_cons_succ, List.getElem?_cons_zero]; rfl) (fun K hK => ?_) ?_
            · refine step_append_lies _ (by rfl) _ _ _ (by rfl) (p + 1) 78 i0 _ 3 16 Tryd.underlying72 hi0 hz0 hz1 hz2 rfl (by omega) v n xs (by rfl) (hown1.alloc _)
               ⟨w1.heap.size, 0, none⟩ 1 1 [.int .u32 (maskI n), .int .u32 (wordI n), .func (.func (readF n)) #[] #[.pointer (some ⟨wr.heap.size, 0, none⟩)]] (by rfl) (by rfl) (World.news_of_block (cs := #[.int .u32 (maskI n), .int .u32 (wordI n), .func (.func (readF n)) #[] #[.pointer (some ⟨wr.heap.size, 0, none⟩)]]) (t := 78) (fr := (0, 0)) (heap_alloc_new w1 _)) (by simp [Value.oneCell'])
               (by omega) (by simp [maxLen]; omega) (by omega) (by simp; omega) (w1.heap.size + 1) (by simp) ?_
              intro g cap w2 hown2 hgrow hat hlt2
              have hg1' := (hgrow.cell_far ⟨p, 0, none⟩ (s_sz hc6) (Ne.symm hvp)).trans (s_cell hc6 hc1)
              have hg2' := (hgrow.cell_far ⟨d, 3, none⟩ (s_sz hc7) (Ne.symm hvb)).trans (s_cell hc7 hc2)
              have hg3' := (hgrow.cell_far ⟨1, n, none⟩ (s_sz hc8) (Ne.symm hvw)).trans (s_cell hc8 hc3)
              have hg4' := (hgrow.frozen_far ⟨d, 3, none⟩ (s_sz hc7) (Ne.symm hvb)).trans (s_fr hc7 hc4)
              have hg6 := Nat.lt_of_lt_of_le (s_sz hc6) hgrow.size
              have hg7 := Nat.lt_of_lt_of_le (s_sz hc7) hgrow.size
              (refine hK.out _ _ ?_ ?_; (focus ((try dsimp only); ((try go_split_ands); refine ⟨?_, ?_, ?_, ?_, ?_⟩ <;> first | with_reducible assumption | (with_reducible refine s_cell ?_ ?_ <;> with_reducible assumption) | (with_reducible refine s_fr ?_ ?_ <;> with_reducible assumption) | (with_reducible refine s_sz ?_; with_reducible assumption) | (go_simp; done) | (simp; omega)))); clear hK K hHeld; intro hHeld; (try simp only [Act.put, List.setIfInBounds_toArray, List.set_cons_zero, List.set_cons_succ]))
              (refine wpAnyH_take (i := 15) (v := ?_) (by simp only [List.getElem?_toArray, List.getElem?_cons_succ, List.getElem?_cons_zero]; rfl) (by kernel_rfl) (by kernel_rfl) (by kernel_rfl) (by exact fun _ _ _ h => h) (Or.inl ⟨by rfl, ?_⟩) (by with_reducible assumption) ?_; rotate_left; (focus ((intro w hSw); (try dsimp only at hSw); go_simp <;> with_reducible rfl)); (try simp only [Act.put, List.setIfInBounds_toArray, List.set_cons_zero, List.set_cons_succ]))
              (refine wpAnyH_take (i := 16) (v := ?_) (by simp only [List.getElem?_toArray, List.getElem?_cons_succ, List.getElem?_cons_zero]; rfl) (by kernel_rfl) (by kernel_rfl) (by kernel_rfl) (by exact fun _ _ _ h => h) (Or.inl ⟨by rfl, ?_⟩) (by with_reducible assumption) ?_; rotate_left; (focus ((intro w hSw); (try dsimp only at hSw); go_simp <;> with_reducible rfl)); (try simp only [Act.put, List.setIfInBounds_toArray, List.set_cons_zero, List.set_cons_succ]))
              (refine wpAnyH_ready (rs := [17]) (by kernel_rfl) (by simp) ?_)
              refine AllReadyH.cons (by simp only [List.getElem?_toArray, List.getElem?_cons_succ, List.getElem?_cons_zero]; rfl) (fun K hK => ?_) ?_
              · go_simp
                (refine hK.out _ _ ?_ ?_; (focus ((try dsimp only); ((try go_split_ands); refine ⟨?_, ?_, ?_, ?_, ?_⟩ <;> first | with_reducible assumption | (with_reducible refine s_cell ?_ ?_ <;> with_reducible assumption) | (with_reducible refine s_fr ?_ ?_ <;> with_reducible assumption) | (with_reducible refine s_sz ?_; with_reducible assumption) | (go_simp; done) | (simp; omega)))); clear hK K hHeld; intro hHeld; (try simp only [Act.put, List.setIfInBounds_toArray, List.set_cons_zero, List.set_cons_succ]))
                refine wpAnyH_done (by kernel_rfl) ?_ _
                refine NoPanic.normal ?_
                go_wp2
                refine ⟨⟨n + 1, by omega, by simp, ?_⟩, by simp [intOf]; omega⟩
                refine fill_grow hd hp HB.out hsz hb0 hb1 hown HR.out (drew_below hb) hgrow hown2 hat ?_
                refine ⟨fun _ => ⟨wr.heap.size, ?_, ?_, ?_, ?_, hpl', ?_⟩, fun h => by omega⟩
                · have e := hown.1; rw [List.getElem?_append_right (by omega), show 3 * n - xs.length = 0 by omega]; rfl
                · have e := hown.1; rw [List.getElem?_append_right (by omega), show 3 * n + 1 - xs.length = 1 by omega]; rfl
                · have e := hown.1; rw [List.getElem?_append_right (by omega), show 3 * n + 2 - xs.length = 2 by omega]; rfl
                · rw [World.cell?_setCell_other _ _ _ _ (by simp <;> omega)]
                  exact (hgrow.cell_far ⟨wr.heap.size, 0, none⟩ (s_sz hlt) (fun h => absurd (hown.lt _ h.symm).2 (Nat.lt_irrefl _))).trans (s_cell hlt hq)
                · intro h
                  have hgq : g = wr.heap.size := by simpa [Value.ownBlock] using h
                  rcases hat with h' | h'
                  · have := (hown.lt _ h').2; omega
                  · omega
              exact AllReadyH.nil
            exact AllReadyH.nil
          exact AllReadyH.nil
        exact AllReadyH.nil
      refine AllReadyH.cons (by simp only [List.getElem?_toArray, List.getElem?_cons_succ, List.getElem?_cons_zero]; rfl) (fun K hK => ?_) ?_
      · go_simp
        go_at_call 51; (with_reducible refine (reader_any n hn5 _).mono ?_); rintro e w1 ⟨rfl, hq, hlt, hb⟩
        have hown1 := owns_below (World.ownsRow.drew hown) hb
        have hc := bcell hb
        have hc1 := (hc.2.1 p 0 hpl').trans (k0 0)
        have hc2 := (hc.2.1 d 3 hdl').trans (k1 3)
        have hc3 := (hc.2.1 1 n hgl).trans hword
        have hc4 := (hc.2.2 d 3 hdl').trans (f1 3)
        have hc5 : wr.heap.size ≤ w1.heap.size := hc.1
        have hc6 : p < w1.heap.size := Nat.lt_of_lt_of_le hpl' hc5
        have hc7 : d < w1.heap.size := Nat.lt_of_lt_of_le hdl' hc5
        have hc8 : 1 < w1.heap.size := Nat.lt_of_lt_of_le hgl hc5
        unfold rdV
        go_wp2_with fail
        (refine hK.out _ _ ?_ ?_; (focus ((try dsimp only); ((try go_split_ands); refine ⟨?_, ?_, ?_, ?_, ?_⟩ <;> first | with_reducible assumption | (with_reducible refine s_cell ?_ ?_ <;> with_reducible assumption) | (with_reducible refine s_fr ?_ ?_ <;> with_reducible assumption) | (with_reducible refine s_sz ?_; with_reducible assumption) | (go_simp; done) | (simp; omega)))); clear hK K hHeld; intro hHeld; (try simp only [Act.put, List.setIfInBounds_toArray, List.set_cons_zero, List.set_cons_succ]))
        (refine wpAnyH_take (i := 12) (v := ?_) (by simp only [List.getElem?_toArray, List.getElem?_cons_succ, List.getElem?_cons_zero]; rfl) (by kernel_rfl) (by kernel_rfl) (by kernel_rfl) (by exact fun _ _ _ h => h) (Or.inl ⟨by rfl, ?_⟩) (by with_reducible assumption) ?_; rotate_left; (focus ((intro w hSw); (try dsimp only at hSw); go_simp <;> with_reducible rfl)); (try simp only [Act.put, List.setIfInBounds_toArray, List.set_cons_zero, List.set_cons_succ]))
        (refine wpAnyH_ready (rs := [4, 13]) (by kernel_rfl) (by simp) ?_)
        refine AllReadyH.cons (by simp only [List.getElem?_toArray, List.getElem?_cons_succ, List.getElem?_cons_zero]; rfl) (fun K hK => ?_) ?_
        · go_simp
          (refine hK.out _ _ ?_ ?_; (focus ((try dsimp only); ((try go_split_ands); refine ⟨?_, ?_, ?_, ?_, ?_⟩ <;> first | with_reducible assumption | (with_reducible refine s_cell ?_ ?_ <;> with_reducible assumption) | (with_reducible refine s_fr ?_ ?_ <;> with_reducible assumption) | (with_reducible refine s_sz ?_; with_reducible assumption) | (go_simp; done) | (simp; omega)))); clear hK K hHeld; intro hHeld; (try simp only [Act.put, List.setIfInBounds_toArray, List.set_cons_zero, List.set_cons_succ]))
          (refine wpAnyH_ready (rs := [13]) (by kernel_rfl) (by simp) ?_)
          refine AllReadyH.cons (by simp only [List.getElem?_toArray, List.getElem?_cons_succ, List.getElem?_cons_zero]; rfl) (fun K hK => ?_) ?_
          · go_simp
            (refine hK.out _ _ ?_ ?_; (focus ((try dsimp only); ((try go_split_ands); refine ⟨?_, ?_, ?_, ?_, ?_⟩ <;> first | with_reducible assumption | (with_reducible refine s_cell ?_ ?_ <;> with_reducible assumption) | (with_reducible refine s_fr ?_ ?_ <;> with_reducible assumption) | (with_reducible refine s_sz ?_; with_reducible assumption) | (go_simp; done) | (simp; omega)))); clear hK K hHeld; intro hHeld; (try simp only [Act.put, List.setIfInBounds_toArray, List.set_cons_zero, List.set_cons_succ]))
            (refine wpAnyH_ready (rs := [14]) (by kernel_rfl) (by simp) ?_)
            refine AllReadyH.cons (by simp only [List.getElem?_toArray, List.getElem?_cons_succ, List.getElem?_cons_zero]; rfl) (fun K hK => ?_) ?_
            · refine step_append_lies _ (by rfl) _ _ _ (by rfl) (p + 1) 78 i0 _ 3 16 Tryd.underlying72 hi0 hz0 hz1 hz2 rfl (by omega) v n xs (by rfl) (hown1.alloc _)
               ⟨w1.heap.size, 0, none⟩ 1 1 [.int .u32 (maskI n), .int .u32 (wordI n), .func (.func (readF n)) #[] #[.pointer (some ⟨wr.heap.size, 0, none⟩)]] (by rfl) (by rfl) (World.news_of_block (cs := #[.int .u32 (maskI n), .int .u32 (wordI n), .func (.func (readF n)) #[] #[.pointer (some ⟨wr.heap.size, 0, none⟩)]]) (t := 78) (fr := (0, 0)) (heap_alloc_new w1 _)) (by simp [Value.oneCell'])
               (by omega) (by simp [maxLen]; omega) (by omega) (by simp; omega) (w1.heap.size + 1) (by simp) ?_
              intro g cap w2 hown2 hgrow hat hlt2
              have hg1' := (hgrow.cell_far ⟨p, 0, none⟩ (s_sz hc6) (Ne.symm hvp)).trans (s_cell hc6 hc1)
              have hg2' := (hgrow.cell_far ⟨d, 3, none⟩ (s_sz hc7) (Ne.symm hvb)).trans (s_cell hc7 hc2)
              have hg3' := (hgrow.cell_far ⟨1, n, none⟩ (s_sz hc8) (Ne.symm hvw)).trans (s_cell hc8 hc3)
              have hg4' := (hgrow.frozen_far ⟨d, 3, none⟩ (s_sz hc7) (Ne.symm hvb)).trans (s_fr hc7 hc4)
              have hg6 := Nat.lt_of_lt_of_le (s_sz hc6) hgrow.size
              have hg7 := Nat.lt_of_lt_of_le (s_sz hc7) hgrow.size
              (refine hK.out _ _ ?_ ?_; (focus ((try dsimp only); ((try go_split_ands); refine ⟨?_, ?_, ?_, ?_, ?_⟩ <;> first | with_reducible assumption | (with_reducible refine s_cell ?_ ?_ <;> with_reducible assumption) | (with_reducible refine s_fr ?_ ?_ <;> with_reducible assumption) | (with_reducible refine s_sz ?_; with_reducible assumption) | (go_simp; done) | (simp; omega)))); clear hK K hHeld; intro hHeld; (try simp only [Act.put, List.setIfInBounds_toArray, List.set_cons_zero, List.set_cons_succ]))
              (refine wpAnyH_take (i := 15) (v := ?_) (by simp only [List.getElem?_toArray, List.getElem?_cons_succ, List.getElem?_cons_zero]; rfl) (by kernel_rfl) (by kernel_rfl) (by kernel_rfl) (by exact fun _ _ _ h => h) (Or.inl ⟨by rfl, ?_⟩) (by with_reducible assumption) ?_; rotate_left; (focus ((intro w hSw); (try dsimp only at hSw); go_simp <;> with_reducible rfl)); (try simp only [Act.put, List.setIfInBounds_toArray, List.set_cons_zero, List.set_cons_succ]))
              (refine wpAnyH_take (i := 16) (v := ?_) (by simp only [List.getElem?_toArray, List.getElem?_cons_succ, List.getElem?_cons_zero]; rfl) (by kernel_rfl) (by kernel_rfl) (by kernel_rfl) (by exact fun _ _ _ h => h) (Or.inl ⟨by rfl, ?_⟩) (by with_reducible assumption) ?_; rotate_left; (focus ((intro w hSw); (try dsimp only at hSw); go_simp <;> with_reducible rfl)); (try simp only [Act.put, List.setIfInBounds_toArray, List.set_cons_zero, List.set_cons_succ]))
              (refine wpAnyH_ready (rs := [17]) (by kernel_rfl) (by simp) ?_)
              refine AllReadyH.cons (by simp only [List.getElem?_toArray, List.getElem?_cons_succ, List.getElem?_cons_zero]; rfl) (fun K hK => ?_) ?_
              · go_simp
                (refine hK.out _ _ ?_ ?_; (focus ((try dsimp only); ((try go_split_ands); refine ⟨?_, ?_, ?_, ?_, ?_⟩ <;> first | with_reducible assumption | (with_reducible refine s_cell ?_ ?_ <;> with_reducible assumption) | (with_reducible refine s_fr ?_ ?_ <;> with_reducible assumption) | (with_reducible refine s_sz ?_; with_reducible assumption) | (go_simp; done) | (simp; omega)))); clear hK K hHeld; intro hHeld; (try simp only [Act.put, List.setIfInBounds_toArray, List.set_cons_zero, List.set_cons_succ]))
                refine wpAnyH_done (by kernel_rfl) ?_ _
                refine NoPanic.normal ?_
                go_wp2
                refine ⟨⟨n + 1, by omega, by simp, ?_⟩, by simp [intOf]; omega⟩
                refine fill_grow hd hp HB.out hsz hb0 hb1 hown HR.out (drew_below hb) hgrow hown2 hat ?_
                refine ⟨fun _ => ⟨wr.heap.size, ?_, ?_, ?_, ?_, hpl', ?_⟩, fun h => by omega⟩
                · have e := hown.1; rw [List.getElem?_append_right (by omega), show 3 * n - xs.length = 0 by omega]; rfl
                · have e := hown.1; rw [List.getElem?_append_right (by omega), show 3 * n + 1 - xs.length = 1 by omega]; rfl
                · have e := hown.1; rw [List.getElem?_append_right (by omega), show 3 * n + 2 - xs.length = 2 by omega]; rfl
                · rw [World.cell?_setCell_other _ _ _ _ (by simp <;> omega)]
                  exact (hgrow.cell_far ⟨wr.heap.size, 0, none⟩ (s_sz hlt) (fun h => absurd (hown.lt _ h.symm).2 (Nat.lt_irrefl _))).trans (s_cell hlt hq)
                · intro h
                  have hgq : g = wr.heap.size := by simpa [Value.ownBlock] using h
                  rcases hat with h' | h'
                  · have := (hown.lt _ h').2; omega
                  · omega
              exact AllReadyH.nil
            exact AllReadyH.nil
          exact AllReadyH.nil
        refine AllReadyH.cons (by simp only [List.getElem?_toArray, List.getElem?_cons_succ, List.getElem?_cons_zero]; rfl) (fun K hK => ?_) ?_
        · go_simp
          (refine hK.out _ _ ?_ ?_; (focus ((try dsimp only); ((try go_split_ands); refine ⟨?_, ?_, ?_, ?_, ?_⟩ <;> first | with_reducible assumption | (with_reducible refine s_cell ?_ ?_ <;> with_reducible assumption) | (with_reducible refine s_fr ?_ ?_ <;> with_reducible assumption) | (with_reducible refine s_sz ?_; with_reducible assumption) | (go_simp; done) | (simp; omega)))); clear hK K hHeld; intro hHeld; (try simp only [Act.put, List.setIfInBounds_toArray, List.set_cons_zero, List.set_cons_succ]))
          (refine wpAnyH_ready (rs := [4]) (by kernel_rfl) (by simp) ?_)
          refine AllReadyH.cons (by simp only [List.getElem?_toArray, List.getElem?_cons_succ, List.getElem?_cons_zero]; rfl) (fun K hK => ?_) ?_
          · go_simp
            (refine hK.out _ _ ?_ ?_; (focus ((try dsimp only); ((try go_split_ands); refine ⟨?_, ?_, ?_, ?_, ?_⟩ <;> first | with_reducible assumption | (with_reducible refine s_cell ?_ ?_ <;> with_reducible assumption) | (with_reducible refine s_fr ?_ ?_ <;> with_reducible assumption) | (with_reducible refine s_sz ?_; with_reducible assumption) | (go_simp; done) | (simp; omega)))); clear hK K hHeld; intro hHeld; (try simp only [Act.put, List.setIfInBounds_toArray, List.set_cons_zero, List.set_cons_succ]))
            (refine wpAnyH_ready (rs := [14]) (by kernel_rfl) (by simp) ?_)
            refine AllReadyH.cons (by simp only [List.getElem?_toArray, List.getElem?_cons_succ, List.getElem?_cons_zero]; rfl) (fun K hK => ?_) ?_
            · refine step_append_lies _ (by rfl) _ _ _ (by rfl) (p + 1) 78 i0 _ 3 16 Tryd.underlying72 hi0 hz0 hz1 hz2 rfl (by omega) v n xs (by rfl) (hown1.alloc _)
               ⟨w1.heap.size, 0, none⟩ 1 1 [.int .u32 (maskI n), .int .u32 (wordI n), .func (.func (readF n)) #[] #[.pointer (some ⟨wr.heap.size, 0, none⟩)]] (by rfl) (by rfl) (World.news_of_block (cs := #[.int .u32 (maskI n), .int .u32 (wordI n), .func (.func (readF n)) #[] #[.pointer (some ⟨wr.heap.size, 0, none⟩)]]) (t := 78) (fr := (0, 0)) (heap_alloc_new w1 _)) (by simp [Value.oneCell'])
               (by omega) (by simp [maxLen]; omega) (by omega) (by simp; omega) (w1.heap.size + 1) (by simp) ?_
              intro g cap w2 hown2 hgrow hat hlt2
              have hg1' := (hgrow.cell_far ⟨p, 0, none⟩ (s_sz hc6) (Ne.symm hvp)).trans (s_cell hc6 hc1)
              have hg2' := (hgrow.cell_far ⟨d, 3, none⟩ (s_sz hc7) (Ne.symm hvb)).trans (s_cell hc7 hc2)
              have hg3' := (hgrow.cell_far ⟨1, n, none⟩ (s_sz hc8) (Ne.symm hvw)).trans (s_cell hc8 hc3)
              have hg4' := (hgrow.frozen_far ⟨d, 3, none⟩ (s_sz hc7) (Ne.symm hvb)).trans (s_fr hc7 hc4)
              have hg6 := Nat.lt_of_lt_of_le (s_sz hc6) hgrow.size
              have hg7 := Nat.lt_of_lt_of_le (s_sz hc7) hgrow.size
              (refine hK.out _ _ ?_ ?_; (focus ((try dsimp only); ((try go_split_ands); refine ⟨?_, ?_, ?_, ?_, ?_⟩ <;> first | with_reducible assumption | (with_reducible refine s_cell ?_ ?_ <;> with_reducible assumption) | (with_reducible refine s_fr ?_ ?_ <;> with_reducible assumption) | (with_reducible refine s_sz ?_; with_reducible assumption) | (go_simp; done) | (simp; omega)))); clear hK K hHeld; intro hHeld; (try simp only [Act.put, List.setIfInBounds_toArray, List.set_cons_zero, List.set_cons_succ]))
              (refine wpAnyH_take (i := 15) (v := ?_) (by simp only [List.getElem?_toArray, List.getElem?_cons_succ, List.getElem?_cons_zero]; rfl) (by kernel_rfl) (by kernel_rfl) (by kernel_rfl) (by exact fun _ _ _ h => h) (Or.inl ⟨by rfl, ?_⟩) (by with_reducible assumption) ?_; rotate_left; (focus ((intro w hSw); (try dsimp only at hSw); go_simp <;> with_reducible rfl)); (try simp only [Act.put, List.setIfInBounds_toArray, List.set_cons_zero, List.set_cons_succ]))
              (refine wpAnyH_take (i := 16) (v := ?_) (by simp only [List.getElem?_toArray, List.getElem?_cons_succ, List.getElem?_cons_zero]; rfl) (by kernel_rfl) (by kernel_rfl) (by kernel_rfl) (by exact fun _ _ _ h => h) (Or.inl ⟨by rfl, ?_⟩) (by with_reducible assumption) ?_; rotate_left; (focus ((intro w hSw); (try dsimp only at hSw); go_simp <;> with_reducible rfl)); (try simp only [Act.put, List.setIfInBounds_toArray, List.set_cons_zero, List.set_cons_succ]))
              (refine wpAnyH_ready (rs := [17]) (by kernel_rfl) (by simp) ?_)
              refine AllReadyH.cons (by simp only [List.getElem?_toArray, List.getElem?_cons_succ, List.getElem?_cons_zero]; rfl) (fun K hK => ?_) ?_
              · go_simp
                (refine hK.out _ _ ?_ ?_; (focus ((try dsimp only); ((try go_split_ands); refine ⟨?_, ?_, ?_, ?_, ?_⟩ <;> first | with_reducible assumption | (with_reducible refine s_cell ?_ ?_ <;> with_reducible assumption) | (with_reducible refine s_fr ?_ ?_ <;> with_reducible assumption) | (with_reducible refine s_sz ?_; with_reducible assumption) | (go_simp; done) | (simp; omega)))); clear hK K hHeld; intro hHeld; (try simp only [Act.put, List.setIfInBounds_toArray, List.set_cons_zero, List.set_cons_succ]))
                refine wpAnyH_done (by kernel_rfl) ?_ _
                refine NoPanic.normal ?_
                go_wp2
                refine ⟨⟨n + 1, by omega, by simp, ?_⟩, by simp [intOf]; omega⟩
                refine fill_grow hd hp HB.out hsz hb0 hb1 hown HR.out (drew_below hb) hgrow hown2 hat ?_
                refine ⟨fun _ => ⟨wr.heap.size, ?_, ?_, ?_, ?_, hpl', ?_⟩, fun h => by omega⟩
                · have e := hown.1; rw [List.getElem?_append_right (by omega), show 3 * n - xs.length = 0 by omega]; rfl
                · have e := hown.1; rw [List.getElem?_append_right (by omega), show 3 * n + 1 - xs.length = 1 by omega]; rfl
                · have e := hown.1; rw [List.getElem?_append_right (by omega), show 3 * n + 2 - xs.length = 2 by omega]; rfl
                · rw [World.cell?_setCell_other _ _ _ _ (by simp <;> omega)]
                  exact (hgrow.cell_far ⟨wr.heap.size, 0, none⟩ (s_sz hlt) (fun h => absurd (hown.lt _ h.symm).2 (Nat.lt_irrefl _))).trans (s_cell hlt hq)
                · intro h
                  have hgq : g = wr.heap.size := by simpa [Value.ownBlock] using h
                  rcases hat with h' | h'
                  · have := (hown.lt _ h').2; omega
                  · omega
              exact AllReadyH.nil
            exact AllReadyH.nil
          exact AllReadyH.nil
        exact AllReadyH.nil
      exact AllReadyH.nil
    · obtain rfl : n = 18 := by omega
      have hm7 : wr.cell? ⟨4, 7, none⟩ = some (.int .u32 (maskI 7)) := (HB.out.cell (p := ⟨4, 7, none⟩) hg4).trans (HM.out 7 (by omega))
      have hgl : 4 < wr.heap.size := by omega
      obtain ⟨i0, hi0, hz0, hz1, hz2⟩ := info_parts infoRow
      clear kp fp kd fd hbp hbd hmk
      go_wp2_with (go_at_call 51; (with_reducible refine (reader_7 _).mono ?_); rintro e w5 ⟨rfl, hq, hlt, hb⟩)
      refine region_intro fun W hW => ?_
      have hwr : w5.heap.size < W.heap.size := by rw [← hW]; simp
      have hq' : W.cell? ⟨wr.heap.size, 0, none⟩ = some (.int .i8 7) := by rw [← hW]; exact s_cell hlt hq
      have hr' : W.cell? ⟨w5.heap.size, 0, none⟩ = some (.func (.func (readF 7)) #[] #[.pointer (some ⟨wr.heap.size, 0, none⟩)]) := by rw [← hW]; exact World.cell?_alloc_at _ _ _ _ rfl
      have hWb : Below wr.heap.size wr W := by rw [← hW]; exact hb.alloc hb.size _
      clear hW
      have hownW := owns_below hown hWb
      have hc := bcell hWb
      have hc1 := (hc.2.1 p 0 hpl').trans (k0 0)
      have hc2 := (hc.2.1 d 3 hdl').trans (k1 3)
      have hc3 := (hc.2.1 4 7 hgl).trans hm7
      have hc4 := (hc.2.2 d 3 hdl').trans (f1 3)
      have hc5 : wr.heap.size ≤ W.heap.size := hc.1
      have hc6 : p < W.heap.size := Nat.lt_of_lt_of_le hpl' hc5
      have hc7 : d < W.heap.size := Nat.lt_of_lt_of_le hdl' hc5
      have hc8 : 4 < W.heap.size := Nat.lt_of_lt_of_le hgl hc5
      have hvw4 : v.ownBlock ≠ some 4 := fun h => by have := (hown.lt _ h).1; omega
      clear hc
      refine wp_region_noPanic ?_
      refine wp_region_held_drew (S := (fun W => W.cell? ⟨p, 0, none⟩ = some (.pointer (some ⟨d, 0, none⟩)) ∧ W.cell? ⟨4, 7, none⟩ = some (.int .u32 (maskI 7)) ∧ W.frozen? ⟨d, 3, none⟩ = false ∧ d < W.heap.size ∧ p < W.heap.size)) (by kernel_rfl) ?_ (fun hHeld => ?_)
      · (try dsimp only); ((try go_split_ands); refine ⟨?_, ?_, ?_, ?_, ?_⟩ <;> first | with_reducible assumption | (with_reducible refine s_cell ?_ ?_ <;> with_reducible assumption) | (with_reducible refine s_fr ?_ ?_ <;> with_reducible assumption) | (with_reducible refine s_sz ?_; with_reducible assumption) | (go_simp; done) | (simp; omega))
      (refine wpAnyH_take (i := 0) (v := ?_) (by simp only [List.getElem?_toArray, List.getElem?_cons_succ, List.getElem?_cons_zero]; rfl) (by kernel_rfl) (by kernel_rfl) (by kernel_rfl) (by exact fun _ _ _ h => h) (Or.inl ⟨by rfl, ?_⟩) (by with_reducible assumption) ?_; rotate_left; (focus ((intro w hSw); (try dsimp only at hSw); go_simp <;> with_reducible rfl)); (try simp only [Act.put, List.setIfInBounds_toArray, List.set_cons_zero, List.set_cons_succ]))
      (refine wpAnyH_take (i := 1) (v := ?_) (by simp only [List.getElem?_toArray, List.getElem?_cons_succ, List.getElem?_cons_zero]; rfl) (by kernel_rfl) (by kernel_rfl) (by kernel_rfl) (by exact fun _ _ _ h => h) (Or.inl ⟨by rfl, ?_⟩) (by with_reducible assumption) ?_; rotate_left; (focus ((intro w hSw); (try dsimp only at hSw); go_simp <;> with_reducible rfl)); (try simp only [Act.put, List.setIfInBounds_toArray, List.set_cons_zero, List.set_cons_succ]))
      (refine wpAnyH_take (i := 2) (v := ?_) (by simp only [List.getElem?_toArray, List.getElem?_cons_succ, List.getElem?_cons_zero]; rfl) (by kernel_rfl) (by kernel_rfl) (by kernel_rfl) (by exact fun _ _ _ h => h) (Or.inl ⟨by rfl, ?_⟩) (by with_reducible assumption) ?_; rotate_left; (focus ((intro w hSw); (try dsimp only at hSw); go_simp <;> with_reducible rfl)); (try simp only [Act.put, List.setIfInBounds_toArray, List.set_cons_zero, List.set_cons_succ]))
      (refine wpAnyH_take (i := 3) (v := ?_) (by simp only [List.getElem?_toArray, List.getElem?_cons_succ, List.getElem?_cons_zero]; rfl) (by kernel_rfl) (by kernel_rfl) (by kernel_rfl) (by exact fun _ _ _ h => h) (Or.inl ⟨by rfl, ?_⟩) (by with_reducible assumption) ?_; rotate_left; (focus ((intro w hSw); (try dsimp only at hSw); go_simp <;> with_reducible rfl)); (try simp only [Act.put, List.setIfInBounds_toArray, List.set_cons_zero, List.set_cons_succ]))
      (refine wpAnyH_take (i := 5) (v := ?_) (by simp only [List.getElem?_toArray, List.getElem?_cons_succ, List.getElem?_cons_zero]; rfl) (by kernel_rfl) (by kernel_rfl) (by kernel_rfl) (by exact fun _ _ _ h => h) (Or.inl ⟨by rfl, ?_⟩) (by with_reducible assumption) ?_; rotate_left; (focus ((intro w hSw); (try dsimp only at hSw); go_simp <;> with_reducible rfl)); (try simp only [Act.put, List.setIfInBounds_toArray, List.set_cons_zero, List.set_cons_succ]))
      (refine wpAnyH_take (i := 6) (v := ?_) (by simp only [List.getElem?_toArray, List.getElem?_cons_succ, List.getElem?_cons_zero]; rfl) (by kernel_rfl) (by kernel_rfl) (by kernel_rfl) (by exact fun _ _ _ h => h) (Or.inl ⟨by rfl, ?_⟩) (by with_reducible assumption) ?_; rotate_left; (focus ((intro w hSw); (try dsimp only at hSw); go_simp <;> with_reducible rfl)); (try simp only [Act.put, List.setIfInBounds_toArray, List.set_cons_zero, List.set_cons_succ]))
      (refine wpAnyH_ready (rs := [4, 7]) (by kernel_rfl) (by simp) ?_)
      refine AllReadyH.cons (by simp only [List.getElem?_toArray, List.getElem?_cons_succ, List.getElem?_cons_zero]; rfl) (fun K hK => ?_) ?_
      · go_simp
        (refine hK.out _ _ ?_ ?_; (focus ((try dsimp only); ((try go_split_ands); refine ⟨?_, ?_, ?_, ?_, ?_⟩ <;> first | with_reducible assumption | (with_reducible refine s_cell ?_ ?_ <;> with_reducible assumption) | (with_reducible refine s_fr ?_ ?_ <;> with_reducible assumption) | (with_reducible refine s_sz ?_; with_reducible assumption) | (go_simp; done) | (simp; omega)))); clear hK K hHeld; intro hHeld; (try simp only [Act.put, List.setIfInBounds_toArray, List.set_cons_zero, List.set_cons_succ]))
        (refine wpAnyH_ready (rs := [7]) (by kernel_rfl) (by simp) ?_)
        refine AllReadyH.cons (by simp only [List.getElem?_toArray, List.getElem?_cons_succ, List.getElem?_cons_zero]; rfl) (fun K hK => ?_) ?_
        · go_simp
          (refine hK.out _ _ ?_ ?_; (focus ((try dsimp only); ((try go_split_ands); refine ⟨?_, ?_, ?_, ?_, ?_⟩ <;> first | with_reducible assumption | (with_reducible refine s_cell ?_ ?_ <;> with_reducible assumption) | (with_reducible refine s_fr ?_ ?_ <;> with_reducible assumption) | (with_reducible refine s_sz ?_; with_reducible assumption) | (go_simp; done) | (simp; omega)))); clear hK K hHeld; intro hHeld; (try simp only [Act.put, List.setIfInBounds_toArray, List.set_cons_zero, List.set_cons_succ]))
          (refine wpAnyH_take (i := 8) (v := ?_) (by simp only [List.getElem?_toArray, List.getElem?_cons_succ, List.getElem?_cons_zero]; rfl) (by kernel_rfl) (by kernel_rfl) (by kernel_rfl) (by exact fun _ _ _ h => h) (Or.inl ⟨by rfl, ?_⟩) (by with_reducible assumption) ?_; rotate_left; (focus ((intro w hSw); (try dsimp only at hSw); go_simp <;> with_reducible rfl)); (try simp only [Act.put, List.setIfInBounds_toArray, List.set_cons_zero, List.set_cons_succ]))
          (refine wpAnyH_ready (rs := [9]) (by kernel_rfl) (by simp) ?_)
          refine AllReadyH.cons (by simp only [List.getElem?_toArray, List.getElem?_cons_succ, List.getElem?_cons_zero]; rfl) (fun K hK => ?_) ?_
          · go_simp
            (refine hK.out _ _ ?_ ?_; (focus ((try dsimp only); ((try go_split_ands); refine ⟨?_, ?_, ?_, ?_, ?_⟩ <;> first | with_reducible assumption | (with_reducible refine s_cell ?_ ?_ <;> with_reducible assumption) | (with_reducible refine s_fr ?_ ?_ <;> with_reducible assumption) | (with_reducible refine s_sz ?_; with_reducible assumption) | (go_simp; done) | (simp; omega)))); clear hK K hHeld; intro hHeld; (try simp only [Act.put, List.setIfInBounds_toArray, List.set_cons_zero, List.set_cons_succ]))
            (refine wpAnyH_ready (rs := [10]) (by kernel_rfl) (by simp) ?_)
            refine AllReadyH.cons (by simp only [List.getElem?_toArray, List.getElem?_cons_succ, List.getElem?_cons_zero]; rfl) (fun K hK => ?_) ?_
            · refine step_append_lies _ (by rfl) _ _ _ (by rfl) (p + 1) 78 i0 _ 3 16 Tryd.underlying72 hi0 hz0 hz1 hz2 rfl (by omega) v 18 xs (by rfl) ((hownW.alloc _).drew)
                  ⟨W.heap.size, 0, none⟩ 1 1 [.int .u32 (maskI 7), .int .u32 3506438144, .func (.func 52) #[] #[.pointer (some ⟨w5.heap.size, 0, none⟩)]] (by rfl) (by rfl) (World.news_of_block (cs := #[.int .u32 (maskI 7), .int .u32 3506438144, .func (.func 52) #[] #[.pointer (some ⟨w5.heap.size, 0, none⟩)]]) (t := 78) (fr := (0, 0)) (heap_alloc_new W _)) (by simp [Value.oneCell'])
                  (by omega) (by simp [maxLen]) (by omega) (by simp; omega) (W.heap.size + 1) (by simp) ?_
              intro g cap w2 hown2 hgrow' hat hlt2
              have hgrow : (W.drew.alloc (.cells #[.int .u32 (maskI 7), .int .u32 3506438144, .func (.func 52) #[] #[.pointer (some ⟨w5.heap.size, 0, none⟩)]] 78)).grownBy w2 v.ownBlock := hgrow'
              have hg1' := (hgrow.cell_far ⟨p, 0, none⟩ (s_sz hc6) (Ne.symm hvp)).trans (s_cell hc6 hc1)
              have hg2' := (hgrow.cell_far ⟨d, 3, none⟩ (s_sz hc7) (Ne.symm hvb)).trans (s_cell hc7 hc2)
              have hg3' := (hgrow.cell_far ⟨4, 7, none⟩ (s_sz hc8) (Ne.symm hvw4)).trans (s_cell hc8 hc3)
              have hg4' := (hgrow.frozen_far ⟨d, 3, none⟩ (s_sz hc7) (Ne.symm hvb)).trans (s_fr hc7 hc4)
              have hg6 := Nat.lt_of_lt_of_le (s_sz hc6) hgrow.size
              have hg7 := Nat.lt_of_lt_of_le (s_sz hc7) hgrow.size
              (refine hK.out _ _ ?_ ?_; (focus ((try dsimp only); ((try go_split_ands); refine ⟨?_, ?_, ?_, ?_, ?_⟩ <;> first | with_reducible assumption | (with_reducible refine s_cell ?_ ?_ <;> with_reducible assumption) | (with_reducible refine s_fr ?_ ?_ <;> with_reducible assumption) | (with_reducible refine s_sz ?_; with_reducible assumption) | (go_simp; done) | (simp; omega)))); clear hK K hHeld; intro hHeld; (try simp only [Act.put, List.setIfInBounds_toArray, List.set_cons_zero, List.set_cons_succ]))
              (refine wpAnyH_take (i := 11) (v := ?_) (by simp only [List.getElem?_toArray, List.getElem?_cons_succ, List.getElem?_cons_zero]; rfl) (by kernel_rfl) (by kernel_rfl) (by kernel_rfl) (by exact fun _ _ _ h => h) (Or.inl ⟨by rfl, ?_⟩) (by with_reducible assumption) ?_; rotate_left; (focus ((intro w hSw); (try dsimp only at hSw); go_simp <;> with_reducible rfl)); (try simp only [Act.put, List.setIfInBounds_toArray, List.set_cons_zero, List.set_cons_succ]))
              (refine wpAnyH_take (i := 12) (v := ?_) (by simp only [List.getElem?_toArray, List.getElem?_cons_succ, List.getElem?_cons_zero]; rfl) (by kernel_rfl) (by kernel_rfl) (by kernel_rfl) (by exact fun _ _ _ h => h) (Or.inl ⟨by rfl, ?_⟩) (by with_reducible assumption) ?_; rotate_left; (focus ((intro w hSw); (try dsimp only at hSw); go_simp <;> with_reducible rfl)); (try simp only [Act.put, List.setIfInBounds_toArray, List.set_cons_zero, List.set_cons_succ]))
              (refine wpAnyH_ready (rs := [13]) (by kernel_rfl) (by simp) ?_)
              refine AllReadyH.cons (by simp only [List.getElem?_toArray, List.getElem?_cons_succ, List.getElem?_cons_zero]; rfl) (fun K hK => ?_) ?_
              · go_simp
                (refine hK.out _ _ ?_ ?_; (focus ((try dsimp only); ((try go_split_ands); refine ⟨?_, ?_, ?_, ?_, ?_⟩ <;> first | with_reducible assumption | (with_reducible refine s_cell ?_ ?_ <;> with_reducible assumption) | (with_reducible refine s_fr ?_ ?_ <;> with_reducible assumption) | (with_reducible refine s_sz ?_; with_reducible assumption) | (go_simp; done) | (simp; omega)))); clear hK K hHeld; intro hHeld; (try simp only [Act.put, List.setIfInBounds_toArray, List.set_cons_zero, List.set_cons_succ]))
                refine wpAnyH_done (by kernel_rfl) ?_ _
                refine NoPanic.normal ?_
                go_end0
                refine ⟨rfl, ?_⟩
                refine fill_grow (w1 := W.drew) hd hp HB.out hsz hb0 hb1 hown HR.out hWb.drew hgrow hown2 hat ?_
                have e := hown.1
                have hs : W.heap.size + 1 ≤ w2.heap.size := by have := hgrow.size; simpa using this
                have hkp : ∀ q x, wr.heap.size ≤ q → q < W.heap.size → W.cell? ⟨q, 0, none⟩ = some x → (w2.setCell ⟨d, 3, none⟩ (.slice (some ⟨g, 0, none⟩) (18 + 1) cap)).cell? ⟨q, 0, none⟩ = some x ∧ (Value.slice (some ⟨g, 0, none⟩) (18 + 1) cap).ownBlock ≠ some q := fun q x h1 h2 hx => by
                  have hne : v.ownBlock ≠ some q := fun h => by have := (hown.lt q h).2; omega
                  refine ⟨?_, fun h => ?_⟩
                  · rw [World.cell?_setCell_other _ _ _ _ (by simp <;> omega)]
                    exact (hgrow.cell_far ⟨q, 0, none⟩ (s_sz h2) (Ne.symm hne)).trans (s_cell h2 hx)
                  · have hgq : g = q := by simpa [Value.ownBlock] using h
                    rcases hat with h' | h'
                    · exact hne (by rw [h', hgq])
                    · omega
                have l5 : wr.heap.size < w5.heap.size := hlt
                obtain ⟨a1, a2⟩ := hkp _ _ (Nat.le_refl _) (by omega) hq'
                obtain ⟨b1, b2⟩ := hkp _ _ (by omega) hwr hr'
                refine ⟨fun h => by omega, fun _ => ⟨wr.heap.size, w5.heap.size, ?_, ?_, ?_, b1, a1, hpl', by omega, a2, b2⟩⟩
                · rw [List.getElem?_append_right (by omega), show 54 - xs.length = 0 by omega]; rfl
                · rw [List.getElem?_append_right (by omega), show 55 - xs.length = 1 by omega]; rfl
                · rw [List.getElem?_append_right (by omega), show 56 - xs.length = 2 by omega]; rfl
              exact AllReadyH.nil
            exact AllReadyH.nil
          exact AllReadyH.nil
        exact AllReadyH.nil
      refine AllReadyH.cons (by simp only [List.getElem?_toArray, List.getElem?_cons_succ, List.getElem?_cons_zero]; rfl) (fun K hK => ?_) ?_
      · go_simp
        (refine hK.out _ _ ?_ ?_; (focus ((try dsimp only); ((try go_split_ands); refine ⟨?_, ?_, ?_, ?_, ?_⟩ <;> first | with_reducible assumption | (with_reducible refine s_cell ?_ ?_ <;> with_reducible assumption) | (with_reducible refine s_fr ?_ ?_ <;> with_reducible assumption) | (with_reducible refine s_sz ?_; with_reducible assumption) | (go_simp; done) | (simp; omega)))); clear hK K hHeld; intro hHeld; (try simp only [Act.put, List.setIfInBounds_toArray, List.set_cons_zero, List.set_cons_succ]))
        (refine wpAnyH_take (i := 8) (v := ?_) (by simp only [List.getElem?_toArray, List.getElem?_cons_succ, List.getElem?_cons_zero]; rfl) (by kernel_rfl) (by kernel_rfl) (by kernel_rfl) (by exact fun _ _ _ h => h) (Or.inl ⟨by rfl, ?_⟩) (by with_reducible assumption) ?_; rotate_left; (focus ((intro w hSw); (try dsimp only at hSw); go_simp <;> with_reducible rfl)); (try simp only [Act.put, List.setIfInBounds_toArray, List.set_cons_zero, List.set_cons_succ]))
        (refine wpAnyH_ready (rs := [4, 9]) (by kernel_rfl) (by simp) ?_)
        refine AllReadyH.cons (by simp only [List.getElem?_toArray, List.getElem?_cons_succ, List.getElem?_cons_zero]; rfl) (fun K hK => ?_) ?_
        · go_simp
          (refine hK.out _ _ ?_ ?_; (focus ((try dsimp only); ((try go_split_ands); refine ⟨?_, ?_, ?_, ?_, ?_⟩ <;> first | with_reducible assumption | (with_reducible refine s_cell ?_ ?_ <;> with_reducible assumption) | (with_reducible refine s_fr ?_ ?_ <;> with_reducible assumption) | (with_reducible refine s_sz ?_; with_reducible assumption) | (go_simp; done) | (simp; omega)))); clear hK K hHeld; intro hHeld; (try simp only [Act.put, List.setIfInBounds_toArray, List.set_cons_zero, List.set_cons_succ]))
          (refine wpAnyH_ready (rs := [9]) (by kernel_rfl) (by simp) ?_)
          refine AllReadyH.cons (by simp only [List.getElem?_toArray, List.getElem?_cons_succ, List.getElem?_cons_zero]; rfl) (fun K hK => ?_) ?_
          · go_simp
            (refine hK.out _ _ ?_ ?_; (focus ((try dsimp only); ((try go_split_ands); refine ⟨?_, ?_, ?_, ?_, ?_⟩ <;> first | with_reducible assumption | (with_reducible refine s_cell ?_ ?_ <;> with_reducible assumption) | (with_reducible refine s_fr ?_ ?_ <;> with_reducible assumption) | (with_reducible refine s_sz ?_; with_reducible assumption) | (go_simp; done) | (simp; omega)))); clear hK K hHeld; intro hHeld; (try simp only [Act.put, List.setIfInBounds_toArray, List.set_cons_zero, List.set_cons_succ]))
            (refine wpAnyH_ready (rs := [10]) (by kernel_rfl) (by simp) ?_)
            refine AllReadyH.cons (by simp only [List.getElem?_toArray, List.getElem?_cons_succ, List.getElem?_cons_zero]; rfl) (fun K hK => ?_) ?_
            · refine step_append_lies _ (by rfl) _ _ _ (by rfl) (p + 1) 78 i0 _ 3 16 Tryd.underlying72 hi0 hz0 hz1 hz2 rfl (by omega) v 18 xs (by rfl) ((hownW.alloc _).drew)
                  ⟨W.heap.size, 0, none⟩ 1 1 [.int .u32 (maskI 7), .int .u32 3506438144, .func (.func 52) #[] #[.pointer (some ⟨w5.heap.size, 0, none⟩)]] (by rfl) (by rfl) (World.news_of_block (cs := #[.int .u32 (maskI 7), .int .u32 3506438144, .func (.func 52) #[] #[.pointer (some ⟨w5.heap.size, 0, none⟩)]]) (t := 78) (fr := (0, 0)) (heap_alloc_new W _)) (by simp [Value.oneCell'])
                  (by omega) (by simp [maxLen]) (by omega) (by simp; omega) (W.heap.size + 1) (by simp) ?_
              intro g cap w2 hown2 hgrow' hat hlt2
              have hgrow : (W.drew.alloc (.cells #[.int .u32 (maskI 7), .int .u32 3506438144, .func (.func 52) #[] #[.pointer (some ⟨w5.heap.size, 0, none⟩)]] 78)).grownBy w2 v.ownBlock := hgrow'
              have hg1' := (hgrow.cell_far ⟨p, 0, none⟩ (s_sz hc6) (Ne.symm hvp)).trans (s_cell hc6 hc1)
              have hg2' := (hgrow.cell_far ⟨d, 3, none⟩ (s_sz hc7) (Ne.symm hvb)).trans (s_cell hc7 hc2)
              have hg3' := (hgrow.cell_far ⟨4, 7, none⟩ (s_sz hc8) (Ne.symm hvw4)).trans (s_cell hc8 hc3)
              have hg4' := (hgrow.frozen_far ⟨d, 3, none⟩ (s_sz hc7) (Ne.symm hvb)).trans (s_fr hc7 hc4)
              have hg6 := Nat.lt_of_lt_of_le (s_sz hc6) hgrow.size
              have hg7 := Nat.lt_of_lt_of_le (s_sz hc7) hgrow.size
              (refine hK.out _ _ ?_ ?_; (focus ((try dsimp only); ((try go_split_ands); refine ⟨?_, ?_, ?_, ?_, ?_⟩ <;> first | with_reducible assumption | (with_reducible refine s_cell ?_ ?_ <;> with_reducible assumption) | (with_reducible refine s_fr ?_ ?_ <;> with_reducible assumption) | (with_reducible refine s_sz ?_; with_reducible assumption) | (go_simp; done) | (simp; omega)))); clear hK K hHeld; intro hHeld; (try simp only [Act.put, List.setIfInBounds_toArray, List.set_cons_zero, List.set_cons_succ]))
              (refine wpAnyH_take (i := 11) (v := ?_) (by simp only [List.getElem?_toArray, List.getElem?_cons_succ, List.getElem?_cons_zero]; rfl) (by kernel_rfl) (by kernel_rfl) (by kernel_rfl) (by exact fun _ _ _ h => h) (Or.inl ⟨by rfl, ?_⟩) (by with_reducible assumption) ?_; rotate_left; (focus ((intro w hSw); (try dsimp only at hSw); go_simp <;> with_reducible rfl)); (try simp only [Act.put, List.setIfInBounds_toArray, List.set_cons_zero, List.set_cons_succ]))
              (refine wpAnyH_take (i := 12) (v := ?_) (by simp only [List.getElem?_toArray, List.getElem?_cons_succ, List.getElem?_cons_zero]; rfl) (by kernel_rfl) (by kernel_rfl) (by kernel_rfl) (by exact fun _ _ _ h => h) (Or.inl ⟨by rfl, ?_⟩) (by with_reducible assumption) ?_; rotate_left; (focus ((intro w hSw); (try dsimp only at hSw); go_simp <;> with_reducible rfl)); (try simp only [Act.put, List.setIfInBounds_toArray, List.set_cons_zero, List.set_cons_succ]))
              (refine wpAnyH_ready (rs := [13]) (by kernel_rfl) (by simp) ?_)
              refine AllReadyH.cons (by simp only [List.getElem?_toArray, List.getElem?_cons_succ, List.getElem?_cons_zero]; rfl) (fun K hK => ?_) ?_
              · go_simp
                (refine hK.out _ _ ?_ ?_; (focus ((try dsimp only); ((try go_split_ands); refine ⟨?_, ?_, ?_, ?_, ?_⟩ <;> first | with_reducible assumption | (with_reducible refine s_cell ?_ ?_ <;> with_reducible assumption) | (with_reducible refine s_fr ?_ ?_ <;> with_reducible assumption) | (with_reducible refine s_sz ?_; with_reducible assumption) | (go_simp; done) | (simp; omega)))); clear hK K hHeld; intro hHeld; (try simp only [Act.put, List.setIfInBounds_toArray, List.set_cons_zero, List.set_cons_succ]))
                refine wpAnyH_done (by kernel_rfl) ?_ _
                refine NoPanic.normal ?_
                go_end0
                refine ⟨rfl, ?_⟩
                refine fill_grow (w1 := W.drew) hd hp HB.out hsz hb0 hb1 hown HR.out hWb.drew hgrow hown2 hat ?_
                have e := hown.1
                have hs : W.heap.size + 1 ≤ w2.heap.size := by have := hgrow.size; simpa using this
                have hkp : ∀ q x, wr.heap.size ≤ q → q < W.heap.size → W.cell? ⟨q, 0, none⟩ = some x → (w2.setCell ⟨d, 3, none⟩ (.slice (some ⟨g, 0, none⟩) (18 + 1) cap)).cell? ⟨q, 0, none⟩ = some x ∧ (Value.slice (some ⟨g, 0, none⟩) (18 + 1) cap).ownBlock ≠ some q := fun q x h1 h2 hx => by
                  have hne : v.ownBlock ≠ some q := fun h => by have := (hown.lt q h).2; omega
                  refine ⟨?_, fun h => ?_⟩
                  · rw [World.cell?_setCell_other _ _ _ _ (by simp <;> omega)]
                    exact (hgrow.cell_far ⟨q, 0, none⟩ (s_sz h2) (Ne.symm hne)).trans (s_cell h2 hx)
                  · have hgq : g = q := by simpa [Value.ownBlock] using h
                    rcases hat with h' | h'
                    · exact hne (by rw [h', hgq])
                    · omega
                have l5 : wr.heap.size < w5.heap.size := hlt
                obtain ⟨a1, a2⟩ := hkp _ _ (Nat.le_refl _) (by omega) hq'
                obtain ⟨b1, b2⟩ := hkp _ _ (by omega) hwr hr'
                refine ⟨fun h => by omega, fun _ => ⟨wr.heap.size, w5.heap.size, ?_, ?_, ?_, b1, a1, hpl', by omega, a2, b2⟩⟩
                · rw [List.getElem?_append_right (by omega), show 54 - xs.length = 0 by omega]; rfl
                · rw [List.getElem?_append_right (by omega), show 55 - xs.length = 1 by omega]; rfl
                · rw [List.getElem?_append_right (by omega), show 56 - xs.length = 2 by omega]; rfl
              exact AllReadyH.nil
            exact AllReadyH.nil
          exact AllReadyH.nil
        refine AllReadyH.cons (by simp only [List.getElem?_toArray, List.getElem?_cons_succ, List.getElem?_cons_zero]; rfl) (fun K hK => ?_) ?_
        · go_simp
          (refine hK.out _ _ ?_ ?_; (focus ((try dsimp only); ((try go_split_ands); refine ⟨?_, ?_, ?_, ?_, ?_⟩ <;> first | with_reducible assumption | (with_reducible refine s_cell ?_ ?_ <;> with_reducible assumption) | (with_reducible refine s_fr ?_ ?_ <;> with_reducible assumption) | (with_reducible refine s_sz ?_; with_reducible assumption) | (go_simp; done) | (simp; omega)))); clear hK K hHeld; intro hHeld; (try simp only [Act.put, List.setIfInBounds_toArray, List.set_cons_zero, List.set_cons_succ]))
          (refine wpAnyH_ready (rs := [4]) (by kernel_rfl) (by simp) ?_)
          refine AllReadyH.cons (by simp only [List.getElem?_toArray, List.getElem?_cons_succ, List.getElem?_cons_zero]; rfl) (fun K hK => ?_) ?_
          · go_simp
            (refine hK.out _ _ ?_ ?_; (focus ((try dsimp only); ((try go_split_ands); refine ⟨?_, ?_, ?_, ?_, ?_⟩ <;> first | with_reducible assumption | (with_reducible refine s_cell ?_ ?_ <;> with_reducible assumption) | (with_reducible refine s_fr ?_ ?_ <;> with_reducible assumption) | (with_reducible refine s_sz ?_; with_reducible assumption) | (go_simp; done) | (simp; omega)))); clear hK K hHeld; intro hHeld; (try simp only [Act.put, List.setIfInBounds_toArray, List.set_cons_zero, List.set_cons_succ]))
            (refine wpAnyH_ready (rs := [10]) (by kernel_rfl) (by simp) ?_)
            refine AllReadyH.cons (by simp only [List.getElem?_toArray, List.getElem?_cons_succ, List.getElem?_cons_zero]; rfl) (fun K hK => ?_) ?_
            · refine step_append_lies _ (by rfl) _ _ _ (by rfl) (p + 1) 78 i0 _ 3 16 Tryd.underlying72 hi0 hz0 hz1 hz2 rfl (by omega) v 18 xs (by rfl) ((hownW.alloc _).drew)
                  ⟨W.heap.size, 0, none⟩ 1 1 [.int .u32 (maskI 7), .int .u32 3506438144, .func (.func 52) #[] #[.pointer (some ⟨w5.heap.size, 0, none⟩)]] (by rfl) (by rfl) (World.news_of_block (cs := #[.int .u32 (maskI 7), .int .u32 3506438144, .func (.func 52) #[] #[.pointer (some ⟨w5.heap.size, 0, none⟩)]]) (t := 78) (fr := (0, 0)) (heap_alloc_new W _)) (by simp [Value.oneCell'])
                  (by omega) (by simp [maxLen]) (by omega) (by simp; omega) (W.heap.size + 1) (by simp) ?_
              intro g cap w2 hown2 hgrow' hat hlt2
              have hgrow : (W.drew.alloc (.cells #[.int .u32 (maskI 7), .int .u32 3506438144, .func (.func 52) #[] #[.pointer (some ⟨w5.heap.size, 0, none⟩)]] 78)).grownBy w2 v.ownBlock := hgrow'
              have hg1' := (hgrow.cell_far ⟨p, 0, none⟩ (s_sz hc6) (Ne.symm hvp)).trans (s_cell hc6 hc1)
              have hg2' := (hgrow.cell_far ⟨d, 3, none⟩ (s_sz hc7) (Ne.symm hvb)).trans (s_cell hc7 hc2)
              have hg3' := (hgrow.cell_far ⟨4, 7, none⟩ (s_sz hc8) (Ne.symm hvw4)).trans (s_cell hc8 hc3)
              have hg4' := (hgrow.frozen_far ⟨d, 3, none⟩ (s_sz hc7) (Ne.symm hvb)).trans (s_fr hc7 hc4)
              have hg6 := Nat.lt_of_lt_of_le (s_sz hc6) hgrow.size
              have hg7 := Nat.lt_of_lt_of_le (s_sz hc7) hgrow.size
              (refine hK.out _ _ ?_ ?_; (focus ((try dsimp only); ((try go_split_ands); refine ⟨?_, ?_, ?_, ?_, ?_⟩ <;> first | with_reducible assumption | (with_reducible refine s_cell ?_ ?_ <;> with_reducible assumption) | (with_reducible refine s_fr ?_ ?_ <;> with_reducible assumption) | (with_reducible refine s_sz ?_; with_reducible assumption) | (go_simp; done) | (simp; omega)))); clear hK K hHeld; intro hHeld; (try simp only [Act.put, List.setIfInBounds_toArray, List.set_cons_zero, List.set_cons_succ]))
              (refine wpAnyH_take (i := 11) (v := ?_) (by simp only [List.getElem?_toArray, List.getElem?_cons_succ, List.getElem?_cons_zero]; rfl) (by kernel_rfl) (by kernel_rfl) (by kernel_rfl) (by exact fun _ _ _ h => h) (Or.inl ⟨by rfl, ?_⟩) (by with_reducible assumption) ?_; rotate_left; (focus ((intro w hSw); (try dsimp only at hSw); go_simp <;> with_reducible rfl)); (try simp only [Act.put, List.setIfInBounds_toArray, List.set_cons_zero, List.set_cons_succ]))
              (refine wpAnyH_take (i := 12) (v := ?_) (by simp only [List.getElem?_toArray, List.getElem?_cons_succ, List.getElem?_cons_zero]; rfl) (by kernel_rfl) (by kernel_rfl) (by kernel_rfl) (by exact fun _ _ _ h => h) (Or.inl ⟨by rfl, ?_⟩) (by with_reducible assumption) ?_; rotate_left; (focus ((intro w hSw); (try dsimp only at hSw); go_simp <;> with_reducible rfl)); (try simp only [Act.put, List.setIfInBounds_toArray, List.set_cons_zero, List.set_cons_succ]))
              (refine wpAnyH_ready (rs := [13]) (by kernel_rfl) (by simp) ?_)
              refine AllReadyH.cons (by simp only [List.getElem?_toArray, List.getElem?_cons_succ, List.getElem?_cons_zero]; rfl) (fun K hK => ?_) ?_
              · go_simp
                (refine hK.out _ _ ?_ ?_; (focus ((try dsimp only); ((try go_split_ands); refine ⟨?_, ?_, ?_, ?_, ?_⟩ <;> first | with_reducible assumption | (with_reducible refine s_cell ?_ ?_ <;> with_reducible assumption) | (with_reducible refine s_fr ?_ ?_ <;> with_reducible assumption) | (with_reducible refine s_sz ?_; with_reducible assumption) | (go_simp; done) | (simp; omega)))); clear hK K hHeld; intro hHeld; (try simp only [Act.put, List.setIfInBounds_toArray, List.set_cons_zero, List.set_cons_succ]))
                refine wpAnyH_done (by kernel_rfl) ?_ _
                refine NoPanic.normal ?_
                go_end0
                refine ⟨rfl, ?_⟩
                refine fill_grow (w1 := W.drew) hd hp HB.out hsz hb0 hb1 hown HR.out hWb.drew hgrow hown2 hat ?_
                have e := hown.1
                have hs : W.heap.size + 1 ≤ w2.heap.size := by have := hgrow.size; simpa using this
                have hkp : ∀ q x, wr.heap.size ≤ q → q < W.heap.size → W.cell? ⟨q, 0, none⟩ = some x → (w2.setCell ⟨d, 3, none⟩ (.slice (some ⟨g, 0, none⟩) (18 + 1) cap)).cell? ⟨q, 0, none⟩ = some x ∧ (Value.slice (some ⟨g, 0, none⟩) (18 + 1) cap).ownBlock ≠ some q := fun q x h1 h2 hx => by
                  have hne : v.ownBlock ≠ some q := fun h => by have := (hown.lt q h).2; omega
                  refine ⟨?_, fun h => ?_⟩
                  · rw [World.cell?_setCell_other _ _ _ _ (by simp <;> omega)]
                    exact (hgrow.cell_far ⟨q, 0, none⟩ (s_sz h2) (Ne.symm hne)).trans (s_cell h2 hx)
                  · have hgq : g = q := by simpa [Value.ownBlock] using h
                    rcases hat with h' | h'
                    · exact hne (by rw [h', hgq])
                    · omega
                have l5 : wr.heap.size < w5.heap.size := hlt
                obtain ⟨a1, a2⟩ := hkp _ _ (Nat.le_refl _) (by omega) hq'
                obtain ⟨b1, b2⟩ := hkp _ _ (by omega) hwr hr'
                refine ⟨fun h => by omega, fun _ => ⟨wr.heap.size, w5.heap.size, ?_, ?_, ?_, b1, a1, hpl', by omega, a2, b2⟩⟩
                · rw [List.getElem?_append_right (by omega), show 54 - xs.length = 0 by omega]; rfl
                · rw [List.getElem?_append_right (by omega), show 55 - xs.length = 1 by omega]; rfl
                · rw [List.getElem?_append_right (by omega), show 56 - xs.length = 2 by omega]; rfl
              exact AllReadyH.nil
            exact AllReadyH.nil
          exact AllReadyH.nil
        exact AllReadyH.nil
      exact AllReadyH.nil
end Go.Proofs.YtailocbophkmmaaDoor
