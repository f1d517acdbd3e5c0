/-
  Package tenementref07: positive, Digits, Name, Shape, Text.
-/
import Derived.Test.YtailocbophkmmaaDoorIsaNames
import Derived.Test.YtailocbophkmmaaDoorRefEnc2
import Derived.Lib.ItoaMem
namespace Go.Proofs.YtailocbophkmmaaDoor
open Go.RowKit FP

theorem ba (l m : List UInt8) : (⟨l.toArray⟩ : ByteArray) ++ ⟨m.toArray⟩ = ⟨(l ++ m).toArray⟩ := by
  apply ByteArray.ext; simp
theorem conv1c (W : World) (b : Nat) (z : Int) (hc : W.cell? ⟨b, 0, none⟩ = some (.int .u8 z)) : ∀ i, i < 1 → W.cell? ⟨b, 0 + i, none⟩ = some (.int .u8 ([z].getD i 0)) := fun i hi => by
  obtain rfl : i = 0 := Nat.lt_one_iff.1 hi
  exact hc
theorem conv1 (W : World) (b : Nat) (z : Int) (hc : W.cell? ⟨b, 0, none⟩ = some (.int .u8 z)) : (convert 110 9 (.slice (some ⟨b, 0, none⟩) 1 1)).run Tryd.prog W = .ok (.string ⟨#[UInt8.ofNat z.toNat]⟩) W :=
  run_convert_bytes_arg (P := Tryd.prog) W 110 5 Tryd.underlying110 Tryd.underlying5 b 0 1 1 [z] rfl (fun i hi => conv1c W b z hc i hi) 9 Tryd.underlying9
theorem dec_len : ∀ (N u : Nat), u < 10 ^ (N + 1) → (Lib.decDigits u).length ≤ N + 1
  | 0, u, h => by rw [Lib.decDigits_one (by simpa using h)]; simp
  | N + 1, u, h => by
    by_cases hs : u < 10
    · rw [Lib.decDigits_one hs]; simp
    · rw [Lib.decDigits, dif_neg hs]
      have := dec_len N (u / 10) (by rw [Nat.pow_succ] at h; omega)
      simp only [List.length_append, List.length_singleton]
      omega
theorem dec_len64 (u : Nat) (h : u < 18446744073709551616) : (Lib.decDigits u).length ≤ 20 := dec_len 19 u (Nat.lt_trans h (by decide))
theorem digit_nat (n : Int) (h0 : 0 ≤ n) : (48 + n).toNat = 48 + n.toNat := by omega
set_option maxRecDepth 100000 in
set_option maxHeartbeats 1000000 in
theorem positive_any : ∀ (N : Nat) (n : Int) (w : World), 0 ≤ n → n.toNat < N → n < 18446744073709551616 →
    Calls Tryd.prog 58 #[.int .u64 n] w fun e w' => e = .returned (.string ⟨(Lib.decDigits n.toNat).toArray⟩) ∧ Below w.heap.size w w'
  | 0, n, w, h0, h, h1 => by omega
  | N + 1, n, w, h0, h, h1 => by
    by_cases hs : n < 10
    · have HE : Hid (Lib.decDigits n.toNat = [UInt8.ofNat (48 + n).toNat]) := Lib.hid (by rw [Lib.decDigits_one (by omega), digit_nat n h0])
      go_enter Tryd.func58, Tryd.ntmps58
      go_wp2
      erw [conv1 (w.alloc (.cells #[.int .u8 (48 + n)] 5)) w.heap.size (48 + n) (World.cell?_alloc_at _ _ _ _ rfl)]
      go_wp2
      go_ret
      exact ⟨by rw [HE.out]; rfl, (by repeat (first | (with_reducible exact Below.refl _ _) | (with_reducible assumption) | (with_reducible refine bthen (by with_reducible assumption) ?_) | (with_reducible refine balloc _ ?_) | (with_reducible refine bdrewN _ ?_) | (with_reducible refine bdrew ?_) | (with_reducible refine bset (by first | exact Nat.le_refl _ | (dsimp only; omega)) ?_)))⟩
    · obtain ⟨q, hq⟩ : ∃ q, n / 10 = q := ⟨_, rfl⟩
      obtain ⟨r, hr⟩ : ∃ r, n % 10 = r := ⟨_, rfl⟩
      have hq1 : n.tdiv 10 = q := by rw [Int.tdiv_eq_ediv_of_nonneg h0]; exact hq
      have hr1 : n.tmod 10 = r := by rw [Int.tmod_eq_emod_of_nonneg h0]; exact hr
      have hqb : 0 ≤ q ∧ q < 18446744073709551616 := by omega
      have hrb : 0 ≤ r ∧ r < 10 := by omega
      have hqN : q.toNat < N := by omega
      have w1 : IntKind.u64.wrap q = q := wrap_u64 q hqb.1 hqb.2
      have w2 : IntKind.u64.wrap (48 + r) = 48 + r := wrap_u64 _ (by omega) (by omega)
      have w3 : IntKind.u8.wrap (48 + r) = 48 + r := by simp [IntKind.wrap, IntKind.bits, IntKind.signed]; omega
      have HE : Hid (Lib.decDigits n.toNat = Lib.decDigits q.toNat ++ [UInt8.ofNat (48 + r).toNat]) := Lib.hid (by
        rw [Lib.decDigits, dif_neg (by omega), digit_nat _ hrb.1, show q.toNat = n.toNat / 10 by omega, show r.toNat = n.toNat % 10 by omega])
      have IH := Lib.hid (fun W => positive_any N q W hqb.1 hqN hqb.2)
      have hsz : w.heap.size < w.heap.size + 1 := by omega
      have hln := dec_len64 q.toNat (by omega)
      have hif : ¬ 9223372036854775807 < (Lib.decDigits q.toNat).length + 1 := by omega
      clear hq hr hln
      go_enter Tryd.func58, Tryd.ntmps58
      go_wp2
      refine wp_region_held_drew (S := fun _ => True) (by kernel_rfl) trivial (fun hHeld => ?_)
      (refine wpAnyH_take (i := 0) (v := ?_) (by simp only [List.getElem?_toArray, List.getElem?_cons_succ, List.getElem?_cons_zero]; rfl) (by kernel_rfl) (by kernel_rfl) (by kernel_rfl) (by exact fun _ _ _ h => h) (Or.inl ⟨by rfl, ?_⟩) (by with_reducible assumption) ?_; rotate_left; (focus ((intro w hSw); (try dsimp only at hSw); go_simp <;> with_reducible rfl)); (try simp only [Act.put, List.setIfInBounds_toArray, List.set_cons_zero, List.set_cons_succ]))
      (refine wpAnyH_take (i := 1) (v := ?_) (by simp only [List.getElem?_toArray, List.getElem?_cons_succ, List.getElem?_cons_zero]; rfl) (by kernel_rfl) (by kernel_rfl) (by kernel_rfl) (by exact fun _ _ _ h => h) (Or.inl ⟨by rfl, ?_⟩) (by with_reducible assumption) ?_; rotate_left; (focus ((intro w hSw); (try dsimp only at hSw); go_simp <;> with_reducible rfl)); (try simp only [Act.put, List.setIfInBounds_toArray, List.set_cons_zero, List.set_cons_succ]))
      (refine wpAnyH_take (i := 3) (v := ?_) (by simp only [List.getElem?_toArray, List.getElem?_cons_succ, List.getElem?_cons_zero]; rfl) (by kernel_rfl) (by kernel_rfl) (by kernel_rfl) (by exact fun _ _ _ h => h) (Or.inl ⟨by rfl, ?_⟩) (by with_reducible assumption) ?_; rotate_left; (focus ((intro w hSw); (try dsimp only at hSw); go_simp <;> with_reducible rfl)); (try simp only [Act.put, List.setIfInBounds_toArray, List.set_cons_zero, List.set_cons_succ]))
      (refine wpAnyH_take (i := 4) (v := ?_) (by simp only [List.getElem?_toArray, List.getElem?_cons_succ, List.getElem?_cons_zero]; rfl) (by kernel_rfl) (by kernel_rfl) (by kernel_rfl) (by exact fun _ _ _ h => h) (Or.inl ⟨by rfl, ?_⟩) (by with_reducible assumption) ?_; rotate_left; (focus ((intro w hSw); (try dsimp only at hSw); go_simp <;> with_reducible rfl)); (try simp only [Act.put, List.setIfInBounds_toArray, List.set_cons_zero, List.set_cons_succ]))
      (refine wpAnyH_take (i := 5) (v := ?_) (by simp only [List.getElem?_toArray, List.getElem?_cons_succ, List.getElem?_cons_zero]; rfl) (by kernel_rfl) (by kernel_rfl) (by kernel_rfl) (by exact fun _ _ _ h => h) (Or.inl ⟨by rfl, ?_⟩) (by with_reducible assumption) ?_; rotate_left; (focus ((intro w hSw); (try dsimp only at hSw); go_simp <;> with_reducible rfl)); (try simp only [Act.put, List.setIfInBounds_toArray, List.set_cons_zero, List.set_cons_succ]))
      (refine wpAnyH_take (i := 6) (v := ?_) (by simp only [List.getElem?_toArray, List.getElem?_cons_succ, List.getElem?_cons_zero]; rfl) (by kernel_rfl) (by kernel_rfl) (by kernel_rfl) (by exact fun _ _ _ h => h) (Or.inl ⟨by rfl, ?_⟩) (by with_reducible assumption) ?_; rotate_left; (focus ((intro w hSw); (try dsimp only at hSw); go_simp <;> with_reducible rfl)); (try simp only [Act.put, List.setIfInBounds_toArray, List.set_cons_zero, List.set_cons_succ]))
      (refine wpAnyH_ready (rs := [2, 7]) (by kernel_rfl) (by simp) ?_)
      refine AllReadyH.cons (by simp only [List.getElem?_toArray, List.getElem?_cons_succ, List.getElem?_cons_zero]; rfl) (fun K hK => ?_) ?_
      · go_simp
        with_reducible refine (IH.out _).mono ?_
        rintro e w5 ⟨rfl, hb⟩
        go_simp
        (refine hK.out _ _ ?_ ?_; (focus ((try dsimp only); (try trivial))); clear hK K hHeld; intro hHeld; (try simp only [Act.put, List.setIfInBounds_toArray, List.set_cons_zero, List.set_cons_succ]))
        (refine wpAnyH_ready (rs := [7]) (by kernel_rfl) (by simp) ?_)
        refine AllReadyH.cons (by simp only [List.getElem?_toArray, List.getElem?_cons_succ, List.getElem?_cons_zero]; rfl) (fun K hK => ?_) ?_
        · go_simp
          (refine hK.out _ _ ?_ ?_; (focus ((try dsimp only); (try trivial))); clear hK K hHeld; intro hHeld; (try simp only [Act.put, List.setIfInBounds_toArray, List.set_cons_zero, List.set_cons_succ]))
          (refine wpAnyH_ready (rs := [8]) (by kernel_rfl) (by simp) ?_)
          refine AllReadyH.cons (by simp only [List.getElem?_toArray, List.getElem?_cons_succ, List.getElem?_cons_zero]; rfl) (fun K hK => ?_) ?_
          · go_simp
            erw [conv1 (w5.alloc (.cells #[.int .u8 (48 + r)] 5)) w5.heap.size (48 + r) (World.cell?_alloc_at _ _ _ _ rfl)]
            go_simp
            (refine hK.out _ _ ?_ ?_; (focus ((try dsimp only); (try trivial))); clear hK K hHeld; intro hHeld; (try simp only [Act.put, List.setIfInBounds_toArray, List.set_cons_zero, List.set_cons_succ]))
            (refine wpAnyH_take (i := 9) (v := ?_) (by simp only [List.getElem?_toArray, List.getElem?_cons_succ, List.getElem?_cons_zero]; rfl) (by kernel_rfl) (by kernel_rfl) (by kernel_rfl) (by exact fun _ _ _ h => h) (Or.inl ⟨by rfl, ?_⟩) (by with_reducible assumption) ?_; rotate_left; (focus ((intro w hSw); (try dsimp only at hSw); go_simp <;> with_reducible rfl)); (try simp only [Act.put, List.setIfInBounds_toArray, List.set_cons_zero, List.set_cons_succ]))
            (refine wpAnyH_ready (rs := [10]) (by kernel_rfl) (by simp) ?_)
            refine AllReadyH.cons (by simp only [List.getElem?_toArray, List.getElem?_cons_succ, List.getElem?_cons_zero]; rfl) (fun K hK => ?_) ?_
            · go_simp
              (refine hK.out _ _ ?_ ?_; (focus ((try dsimp only); (try trivial))); clear hK K hHeld; intro hHeld; (try simp only [Act.put, List.setIfInBounds_toArray, List.set_cons_zero, List.set_cons_succ]))
              refine wpAnyH_done (by kernel_rfl) ?_ _
              go_wp2
              go_ret
              exact ⟨by rw [HE.out, ← ba]; rfl, (by repeat (first | (with_reducible exact Below.refl _ _) | (with_reducible assumption) | (with_reducible refine bthen (by with_reducible assumption) ?_) | (with_reducible refine balloc _ ?_) | (with_reducible refine bdrewN _ ?_) | (with_reducible refine bdrew ?_) | (with_reducible refine bset (by first | exact Nat.le_refl _ | (dsimp only; omega)) ?_)))⟩
            exact AllReadyH.nil
          exact AllReadyH.nil
        exact AllReadyH.nil
      refine AllReadyH.cons (by simp only [List.getElem?_toArray, List.getElem?_cons_succ, List.getElem?_cons_zero]; rfl) (fun K hK => ?_) ?_
      · go_simp
        (refine hK.out _ _ ?_ ?_; (focus ((try dsimp only); (try trivial))); clear hK K hHeld; intro hHeld; (try simp only [Act.put, List.setIfInBounds_toArray, List.set_cons_zero, List.set_cons_succ]))
        (refine wpAnyH_ready (rs := [2, 8]) (by kernel_rfl) (by simp) ?_)
        refine AllReadyH.cons (by simp only [List.getElem?_toArray, List.getElem?_cons_succ, List.getElem?_cons_zero]; rfl) (fun K hK => ?_) ?_
        · go_simp
          with_reducible refine (IH.out _).mono ?_
          rintro e w5 ⟨rfl, hb⟩
          go_simp
          (refine hK.out _ _ ?_ ?_; (focus ((try dsimp only); (try trivial))); clear hK K hHeld; intro hHeld; (try simp only [Act.put, List.setIfInBounds_toArray, List.set_cons_zero, List.set_cons_succ]))
          (refine wpAnyH_ready (rs := [8]) (by kernel_rfl) (by simp) ?_)
          refine AllReadyH.cons (by simp only [List.getElem?_toArray, List.getElem?_cons_succ, List.getElem?_cons_zero]; rfl) (fun K hK => ?_) ?_
          · go_simp
            erw [conv1 w5 w.heap.size (48 + r) ((hb.cell (p := ⟨w.heap.size, 0, none⟩) (by simp)).trans (World.cell?_alloc_at _ _ _ _ rfl))]
            go_simp
            (refine hK.out _ _ ?_ ?_; (focus ((try dsimp only); (try trivial))); clear hK K hHeld; intro hHeld; (try simp only [Act.put, List.setIfInBounds_toArray, List.set_cons_zero, List.set_cons_succ]))
            (refine wpAnyH_take (i := 9) (v := ?_) (by simp only [List.getElem?_toArray, List.getElem?_cons_succ, List.getElem?_cons_zero]; rfl) (by kernel_rfl) (by kernel_rfl) (by kernel_rfl) (by exact fun _ _ _ h => h) (Or.inl ⟨by rfl, ?_⟩) (by with_reducible assumption) ?_; rotate_left; (focus ((intro w hSw); (try dsimp only at hSw); go_simp <;> with_reducible rfl)); (try simp only [Act.put, List.setIfInBounds_toArray, List.set_cons_zero, List.set_cons_succ]))
            (refine wpAnyH_ready (rs := [10]) (by kernel_rfl) (by simp) ?_)
            refine AllReadyH.cons (by simp only [List.getElem?_toArray, List.getElem?_cons_succ, List.getElem?_cons_zero]; rfl) (fun K hK => ?_) ?_
            · go_simp
              (refine hK.out _ _ ?_ ?_; (focus ((try dsimp only); (try trivial))); clear hK K hHeld; intro hHeld; (try simp only [Act.put, List.setIfInBounds_toArray, List.set_cons_zero, List.set_cons_succ]))
              refine wpAnyH_done (by kernel_rfl) ?_ _
              go_wp2
              go_ret
              exact ⟨by rw [HE.out, ← ba]; rfl, (by repeat (first | (with_reducible exact Below.refl _ _) | (with_reducible assumption) | (with_reducible refine bthen (by with_reducible assumption) ?_) | (with_reducible refine balloc _ ?_) | (with_reducible refine bdrewN _ ?_) | (with_reducible refine bdrew ?_) | (with_reducible refine bset (by first | exact Nat.le_refl _ | (dsimp only; omega)) ?_)))⟩
            exact AllReadyH.nil
          exact AllReadyH.nil
        refine AllReadyH.cons (by simp only [List.getElem?_toArray, List.getElem?_cons_succ, List.getElem?_cons_zero]; rfl) (fun K hK => ?_) ?_
        · go_simp
          erw [conv1 (w.drew.alloc (.cells #[.int .u8 (48 + r)] 5)) w.heap.size (48 + r) (World.cell?_alloc_at _ _ _ _ rfl)]
          go_simp
          (refine hK.out _ _ ?_ ?_; (focus ((try dsimp only); (try trivial))); clear hK K hHeld; intro hHeld; (try simp only [Act.put, List.setIfInBounds_toArray, List.set_cons_zero, List.set_cons_succ]))
          (refine wpAnyH_ready (rs := [2]) (by kernel_rfl) (by simp) ?_)
          refine AllReadyH.cons (by simp only [List.getElem?_toArray, List.getElem?_cons_succ, List.getElem?_cons_zero]; rfl) (fun K hK => ?_) ?_
          · go_simp
            with_reducible refine (IH.out _).mono ?_
            rintro e w5 ⟨rfl, hb⟩
            go_simp
            (refine hK.out _ _ ?_ ?_; (focus ((try dsimp only); (try trivial))); clear hK K hHeld; intro hHeld; (try simp only [Act.put, List.setIfInBounds_toArray, List.set_cons_zero, List.set_cons_succ]))
            (refine wpAnyH_take (i := 9) (v := ?_) (by simp only [List.getElem?_toArray, List.getElem?_cons_succ, List.getElem?_cons_zero]; rfl) (by kernel_rfl) (by kernel_rfl) (by kernel_rfl) (by exact fun _ _ _ h => h) (Or.inl ⟨by rfl, ?_⟩) (by with_reducible assumption) ?_; rotate_left; (focus ((intro w hSw); (try dsimp only at hSw); go_simp <;> with_reducible rfl)); (try simp only [Act.put, List.setIfInBounds_toArray, List.set_cons_zero, List.set_cons_succ]))
            (refine wpAnyH_ready (rs := [10]) (by kernel_rfl) (by simp) ?_)
            refine AllReadyH.cons (by simp only [List.getElem?_toArray, List.getElem?_cons_succ, List.getElem?_cons_zero]; rfl) (fun K hK => ?_) ?_
            · go_simp
              (refine hK.out _ _ ?_ ?_; (focus ((try dsimp only); (try trivial))); clear hK K hHeld; intro hHeld; (try simp only [Act.put, List.setIfInBounds_toArray, List.set_cons_zero, List.set_cons_succ]))
              refine wpAnyH_done (by kernel_rfl) ?_ _
              go_wp2
              go_ret
              exact ⟨by rw [HE.out, ← ba]; rfl, (by repeat (first | (with_reducible exact Below.refl _ _) | (with_reducible assumption) | (with_reducible refine bthen (by with_reducible assumption) ?_) | (with_reducible refine balloc _ ?_) | (with_reducible refine bdrewN _ ?_) | (with_reducible refine bdrew ?_) | (with_reducible refine bset (by first | exact Nat.le_refl _ | (dsimp only; omega)) ?_)))⟩
            exact AllReadyH.nil
          exact AllReadyH.nil
        exact AllReadyH.nil
      exact AllReadyH.nil
end Go.Proofs.YtailocbophkmmaaDoor
