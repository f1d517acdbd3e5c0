/-
  sync.Once runs the decoder's function; the decoder's table.
-/
import Derived.Test.YtailocbophkmmaaDoorIsaSync
import Derived.Test.YtailocbophkmmaaDoorIsaTable
namespace Go.Proofs.YtailocbophkmmaaDoor
open Go.RowKit FP

theorem fill_to {d p n0 k : Nat} {c0 c1 c2 : Value} {w w0 wr : World} (h : FillAt d p n0 c0 c1 c2 w k wr) (hB : Below n0 w0 w) (hs : w0.heap.size ≤ w.heap.size) : FillAt d p n0 c0 c1 c2 w0 k wr := by
  obtain ⟨h1, h2, h3⟩ := h
  exact ⟨hB.trans h1, by omega, h3⟩
theorem fill_drew {d p n0 k : Nat} {c0 c1 c2 : Value} {w wr : World} (h : FillAt d p n0 c0 c1 c2 w k wr) : FillAt d p n0 c0 c1 c2 w k wr.drew := by
  obtain ⟨h1, h2, h3, v, xs, h4, h5, h6⟩ := h
  exact ⟨h1.drew, h2, h3, v, xs, h4, h5.drew, h6⟩
theorem rows_set {p d i k : Nat} {v x : Value} {xs : List Value} {wr : World} (hp : d < p) (h : RowsL wr p v k xs) : RowsL (wr.setCell ⟨d, i, none⟩ x) p v k xs := by
  intro j hj
  have hc : ∀ q, p < q → (wr.setCell ⟨d, i, none⟩ x).cell? ⟨q, 0, none⟩ = wr.cell? ⟨q, 0, none⟩ := fun q hq => World.cell?_setCell_other _ _ _ _ (by simp <;> omega)
  refine ⟨fun h18 => ?_, fun h18 => ?_⟩
  · obtain ⟨q, a, b, c, e, f, g⟩ := (h j hj).1 h18
    exact ⟨q, a, b, c, (hc q f).trans e, f, g⟩
  · obtain ⟨q, r, a, b, c, e, e2, f, f2, g, g2⟩ := (h j hj).2 h18
    exact ⟨q, r, a, b, c, (hc r f2).trans e, (hc q f).trans e2, f, f2, g, g2⟩
theorem fill_set0 {d p n0 k : Nat} {c0 c1 c2 : Value} {w wr : World} (hd : n0 ≤ d) (hp : d < p) (h : FillAt d p n0 c0 c1 c2 w k wr) (x : Value) : FillAt d p n0 x c1 c2 w k (wr.setCell ⟨d, 0, none⟩ x) := by
  obtain ⟨h1, h2, h3, v, xs, h4, h5, h6⟩ := h
  exact ⟨h1.setCell hd _, by simpa using h2, blk_far (by simp <;> omega) _ h3, v, xs, blk_set 0 _ rfl h4, ownsRow_setCell_below h5 (show d < p + 1 by omega) _, rows_set hp h6⟩
theorem fill_set1 {d p n0 k : Nat} {c0 c1 c2 : Value} {w wr : World} (hd : n0 ≤ d) (hp : d < p) (h : FillAt d p n0 c0 c1 c2 w k wr) (x : Value) : FillAt d p n0 c0 x c2 w k (wr.setCell ⟨d, 1, none⟩ x) := by
  obtain ⟨h1, h2, h3, v, xs, h4, h5, h6⟩ := h
  exact ⟨h1.setCell hd _, by simpa using h2, blk_far (by simp <;> omega) _ h3, v, xs, blk_set 1 _ rfl h4, ownsRow_setCell_below h5 (show d < p + 1 by omega) _, rows_set hp h6⟩
set_option maxRecDepth 100000 in
set_option maxHeartbeats 1600000 in
theorem slow_any (d p n0 : Nat) (c2 v0 : Value) (w : World) (hd : n0 ≤ d) (hp : d < p) (hW : Words w) (hM : Masks w) (hn : n0 ≤ w.heap.size) (hg1 : 1 < n0) (hg4 : 4 < n0)
    (hbp : w.heap[p]? = some (.cells #[.pointer (some ⟨d, 0, none⟩)] 98 (0, 0))) (hbd : w.heap[d]? = some (.cells #[.int .u32 0, .int .i32 0, c2, v0] 74 (0, 0))) :
    Calls Tryd.prog 64 #[.pointer (some ⟨d, 0, none⟩), .func (.func 50) #[] #[.pointer (some ⟨p, 0, none⟩)]] w fun e w' => e = .returned (.tuple #[]) ∧ FillAt d p n0 (.int .u32 1) (.int .i32 0) c2 w 19 w' := by
  obtain ⟨kd, fd⟩ := blkc hbd
  have k0 : w.cell? ⟨d, 0, none⟩ = some (.int .u32 0) := kd 0
  have k1 : w.cell? ⟨d, 1, none⟩ = some (.int .i32 0) := kd 1
  have f1 := fd 1
  obtain ⟨w1, hw1⟩ : ∃ w1, w.setCell ⟨d, 1, none⟩ (.int .i32 1) = w1 := ⟨_, rfl⟩
  have l1 : w1.cell? ⟨d, 0, none⟩ = some (.int .u32 0) := by rw [← hw1, World.cell?_setCell_other _ _ _ _ (by simp)]; exact k0
  have hB1 : Below n0 w w1 := by rw [← hw1]; exact (Below.refl n0 w).setCell hd _
  have hs1 : w.heap.size = w1.heap.size := by rw [← hw1]; simp
  have hbp1 : w1.heap[p]? = some (.cells #[.pointer (some ⟨d, 0, none⟩)] 98 (0, 0)) := by rw [← hw1]; exact blk_far (by simp <;> omega) _ hbp
  have hbd1 : w1.heap[d]? = some (.cells #[.int .u32 0, .int .i32 1, c2, v0] 74 (0, 0)) := by rw [← hw1]; exact blk_set 1 _ rfl hbd
  have hW1 : Words w1 := fun k hk => (hB1.cell (p := ⟨1, k, none⟩) hg1).trans (hW k hk)
  have hM1 : Masks w1 := fun k hk => (hB1.cell (p := ⟨4, k, none⟩) hg4).trans (hM k hk)
  have hfill := Lib.hid (fill_any d p n0 (.int .u32 0) (.int .i32 1) c2 v0 w1 hd hp hW1 hM1 (by omega) hg1 hg4 hbp1 hbd1)
  have HB1 := Lib.hid hB1
  clear hW hM hW1 hM1 hbp1 hbd1 hbp hbd hB1 kd fd
  have hnot : ∀ (x : Bool) (w : World), (Op.unary .not (.bool x)).run Tryd.prog w = .ok (.bool (!x)) w := fun _ _ => rfl
  go_enter_defers Tryd.func64, Tryd.ntmps64
  go_wp2_with (first | (go_at_call 80; (with_reducible refine (lock_free _ _ k1 f1).mono ?_); rintro e w' ⟨rfl, rfl⟩; rw [hw1]) | (go_at_call 63; (with_reducible refine (load_false _ _ l1).mono ?_); rintro e w' ⟨rfl, rfl⟩) | (go_at_call 50; (with_reducible refine hfill.out.mono ?_); rintro e w2 ⟨rfl, hF⟩))
  have hF0 := fill_to hF HB1.out (by omega)
  obtain ⟨-, -, -, v, xs, hd4, -, -⟩ := hF
  obtain ⟨q2, z2⟩ := blkc hd4
  have q20 : w2.cell? ⟨d, 0, none⟩ = some (.int .u32 0) := q2 0
  have q21 : w2.cell? ⟨d, 1, none⟩ = some (.int .i32 1) := q2 1
  have z20 := z2 0
  have z21 := z2 1
  clear q2 z2 hd4
  try go_wp2
  refine leaves_cons (f := 82) (args := #[.pointer (some ⟨d, 0, none⟩), .bool true]) (by simp) (by simp [go_sem]) ?_
  refine (store_deferred ⟨d, 0, none⟩ (.int .u32 0) .returning _ q20 z20).mono ?_
  rintro e u' w'' ⟨rfl, rfl, rfl⟩
  refine leaves_cons (f := 81) (args := #[.pointer (some ⟨d, 1, none⟩)]) (by simp [settle]) (by simp [go_sem]) ?_
  refine (unlock_deferred ⟨d, 1, none⟩ _ _ ?_ (by simpa using z21)).mono ?_
  · rw [World.cell?_setCell_other _ _ _ _ (by simp), World.cell?_drew]; exact q21
  rintro e u' w'' ⟨rfl, rfl, rfl⟩
  simp [Leaves, settle, results, Tryd.results64]
  exact fill_set1 hd hp (fill_set0 hd hp (fill_drew hF0) _) _
theorem do_any (d p n0 : Nat) (c2 v0 : Value) (w : World) (hd : n0 ≤ d) (hp : d < p) (hW : Words w) (hM : Masks w) (hn : n0 ≤ w.heap.size) (hg1 : 1 < n0) (hg4 : 4 < n0)
    (hbp : w.heap[p]? = some (.cells #[.pointer (some ⟨d, 0, none⟩)] 98 (0, 0))) (hbd : w.heap[d]? = some (.cells #[.int .u32 0, .int .i32 0, c2, v0] 74 (0, 0))) :
    Calls Tryd.prog 49 #[.pointer (some ⟨d, 0, none⟩), .func (.func 50) #[] #[.pointer (some ⟨p, 0, none⟩)]] w fun e w' => e = .returned (.tuple #[]) ∧ FillAt d p n0 (.int .u32 1) (.int .i32 0) c2 w 19 w' := by
  have k0 : w.cell? ⟨d, 0, none⟩ = some (.int .u32 0) := (blkc hbd).1 0
  have hs := Lib.hid (slow_any d p n0 c2 v0 w hd hp hW hM hn hg1 hg4 hbp hbd)
  clear hW hM hbp hbd
  go_enter Tryd.func49, Tryd.ntmps49
  go_wp2_with (first | (go_at_call 63; (with_reducible refine (load_false _ _ k0).mono ?_); rintro e w' ⟨rfl, rfl⟩) | (go_at_call 64; (with_reducible refine hs.out.mono ?_); rintro e w2 ⟨rfl, hF⟩))
  go_end0
  exact ⟨rfl, hF⟩
/-- What the decoder's table answers: nineteen rows of its own. -/
def TableAt (n0 : Nat) (w : World) (b : Value) (w' : World) : Prop :=
  Below n0 w w' ∧ w.heap.size ≤ w'.heap.size ∧ ∃ p xs, n0 ≤ p ∧ w'.ownsRow (p + 1) 78 3 b 19 xs ∧ RowsL w' p b 19 xs
theorem table_any (d n0 : Nat) (c2 v0 : Value) (w : World) (hd : n0 ≤ d) (hW : Words w) (hM : Masks w) (hn : n0 ≤ w.heap.size) (hg1 : 1 < n0) (hg4 : 4 < n0)
    (hbd : w.heap[d]? = some (.cells #[.int .u32 0, .int .i32 0, c2, v0] 74 (0, 0))) :
    Calls Tryd.prog 30 #[.pointer (some ⟨d, 0, none⟩)] w fun e w' => ∃ b, e = .returned b ∧ TableAt n0 w b w' := by
  have hdl := blk_lt hbd
  obtain ⟨w1, hw1⟩ : ∃ w1, w.alloc (.cells #[.pointer (some ⟨d, 0, none⟩)] 98) = w1 := ⟨_, rfl⟩
  have hB1 : Below n0 w w1 := by rw [← hw1]; exact (Below.refl n0 w).alloc hn _
  have hs1 : w1.heap.size = w.heap.size + 1 := by rw [← hw1]; simp
  have hbp1 : w1.heap[w.heap.size]? = some (.cells #[.pointer (some ⟨d, 0, none⟩)] 98 (0, 0)) := by rw [← hw1]; exact blk_new _ _ rfl
  have hbd1 : w1.heap[d]? = some (.cells #[.int .u32 0, .int .i32 0, c2, v0] 74 (0, 0)) := by rw [← hw1]; exact blk_alloc hbd _
  have hW1 : Words w1 := fun k hk => (hB1.cell (p := ⟨1, k, none⟩) hg1).trans (hW k hk)
  have hM1 : Masks w1 := fun k hk => (hB1.cell (p := ⟨4, k, none⟩) hg4).trans (hM k hk)
  have hs := Lib.hid (do_any d w.heap.size n0 c2 v0 w1 hd hdl hW1 hM1 (by omega) hg1 hg4 hbp1 hbd1)
  have HB1 := Lib.hid hB1
  have cp : w1.cell? ⟨w.heap.size, 0, none⟩ = some (.pointer (some ⟨d, 0, none⟩)) := (blkc hbp1).1 0
  clear hW hM hW1 hM1 hbp1 hbd1 hbd hB1
  go_enter Tryd.func30, Tryd.ntmps30
  go_wp2_with (go_at_call 49; (try rw [hw1]); (with_reducible refine hs.out.mono ?_); rintro e w2 ⟨rfl, h1, h2, h3, v, xs, h4, h5, h6⟩; have c0 : w2.cell? ⟨w.heap.size, 0, none⟩ = some (.pointer (some ⟨d, 0, none⟩)) := (blkc h3).1 0; have c3 : w2.cell? ⟨d, 3, none⟩ = some v := (blkc h4).1 3)
  go_ret
  exact ⟨_, rfl, HB1.out.trans h1, by omega, w.heap.size, xs, hn, h5, h6⟩
end Go.Proofs.YtailocbophkmmaaDoor
