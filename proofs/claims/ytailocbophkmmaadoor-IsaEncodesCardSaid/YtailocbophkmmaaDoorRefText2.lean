/-
  Package tenementref07: Digits, Name, Shape, Text.
-/
import Derived.Test.YtailocbophkmmaaDoorRefText
import Derived.Lib.ItoaLen
namespace Go.Proofs.YtailocbophkmmaaDoor
open Go.RowKit FP

theorem ret_bs {a b : ByteArray} (h : a = b) : Ending.returned (.string a) = .returned (.string b) := by rw [h]
theorem refdigits_any (n : Int) (w : World) (h0 : -1000000 ≤ n) (h1 : n ≤ 1000000) :
    Calls Tryd.prog 40 #[.int .i64 n] w fun e w' => e = .returned (.string ⟨(Lib.itoa n).toArray⟩) ∧ Below w.heap.size w w' := by
  by_cases hs : n < 0
  · obtain ⟨p, hp⟩ : ∃ p, -n = p := ⟨_, rfl⟩
    have hpb : 0 ≤ p ∧ p ≤ 1000000 := by omega
    have HE : Hid ((⟨#[45]⟩ : ByteArray) ++ ⟨(Lib.decDigits p.toNat).toArray⟩ = ⟨(Lib.itoa n).toArray⟩) := Lib.hid (by unfold Lib.itoa; rw [if_pos hs, show n.natAbs = p.toNat by omega]; exact ba [45] _)
    have w1 : IntKind.u64.wrap p = p := wrap_u64 p hpb.1 (by omega)
    have hln := dec_len64 p.toNat (by omega)
    have hif : ¬ 9223372036854775807 < 1 + (Lib.decDigits p.toNat).length := by omega
    clear hln
    go_enter Tryd.func40, Tryd.ntmps40
    go_wp2_with (go_at_call 58; (with_reducible refine (positive_any (p.toNat + 1) p _ hpb.1 (by omega) (by omega)).mono ?_); rintro e w' ⟨rfl, hb⟩; obtain ⟨hz, hc, hf⟩ := bcell hb; (try simp only [World.size_alloc] at hz); (try simp only [World.size_setCell] at hz); (try simp only [World.size_drew] at hz); (try simp only [World.heap_drewN] at hz); (try have hs0 : w.heap.size < w'.heap.size := by omega); (try have hs1 : w.heap.size + 1 < w'.heap.size := by omega); (try have hs2 : w.heap.size + 2 < w'.heap.size := by omega))
    go_ret
    exact ⟨ret_bs HE.out, (by repeat (first | (with_reducible exact Below.refl _ _) | (with_reducible assumption) | (with_reducible refine bthen (by with_reducible assumption) ?_) | (with_reducible refine balloc _ ?_) | (with_reducible refine bdrewN _ ?_) | (with_reducible refine bdrew ?_) | (with_reducible refine bset (by first | exact Nat.le_refl _ | (dsimp only; omega)) ?_)))⟩
  · have HE : Hid (Lib.itoa n = Lib.decDigits n.toNat) := Lib.hid (by unfold Lib.itoa; rw [if_neg hs])
    have w1 : IntKind.u64.wrap n = n := wrap_u64 n (by omega) (by omega)
    go_enter Tryd.func40, Tryd.ntmps40
    go_wp2_with (go_at_call 58; (with_reducible refine (positive_any (n.toNat + 1) n _ (by omega) (by omega) (by omega)).mono ?_); rintro e w' ⟨rfl, hb⟩; obtain ⟨hz, hc, hf⟩ := bcell hb; (try simp only [World.size_alloc] at hz); (try simp only [World.size_setCell] at hz); (try simp only [World.size_drew] at hz); (try simp only [World.heap_drewN] at hz); (try have hs0 : w.heap.size < w'.heap.size := by omega); (try have hs1 : w.heap.size + 1 < w'.heap.size := by omega); (try have hs2 : w.heap.size + 2 < w'.heap.size := by omega))
    go_ret
    exact ⟨by rw [HE.out]; rfl, (by repeat (first | (with_reducible exact Below.refl _ _) | (with_reducible assumption) | (with_reducible refine bthen (by with_reducible assumption) ?_) | (with_reducible refine balloc _ ?_) | (with_reducible refine bdrewN _ ?_) | (with_reducible refine bdrew ?_) | (with_reducible refine bset (by first | exact Nat.le_refl _ | (dsimp only; omega)) ?_)))⟩
theorem refname_in (k : Nat) (w : World) (hk : k < 19) :
    Calls Tryd.prog 38 #[.int .i8 k] w fun e w' => e = .returned (.string ⟨(nameL k).toArray⟩) ∧ Below w.heap.size w w' := by
  rcases k_cases hk with rfl | rfl | rfl | rfl | rfl | rfl | rfl | rfl | rfl | rfl | rfl | rfl | rfl | rfl | rfl | rfl | rfl | rfl | rfl
  all_goals
    go_enter Tryd.func38, Tryd.ntmps38
    go_wp2
    go_ret
    exact ⟨rfl, (by repeat (first | (with_reducible exact Below.refl _ _) | (with_reducible assumption) | (with_reducible refine bthen (by with_reducible assumption) ?_) | (with_reducible refine balloc _ ?_) | (with_reducible refine bdrewN _ ?_) | (with_reducible refine bdrew ?_) | (with_reducible refine bset (by first | exact Nat.le_refl _ | (dsimp only; omega)) ?_)))⟩
/-- Which fields an operation's text has: D, N, M, I. -/
def shapeL : Nat → List UInt8
  | 1 => [68, 73] | 15 => [68, 73] | 16 => [68, 73]
  | 2 => [68, 78, 77] | 3 => [68, 78, 77] | 4 => [68, 78, 77] | 5 => [68, 78, 77] | 6 => [68, 78, 77] | 11 => [68, 78, 77]
  | 7 => [68, 78, 73]
  | 8 => [68, 78] | 9 => [68, 78] | 10 => [68, 78] | 12 => [68, 78]
  | 14 => [73]
  | _ => []
theorem refshape_in (k : Nat) (w : World) (hk : k < 19) :
    Calls Tryd.prog 39 #[.int .i8 k] w fun e w' => e = .returned (.string ⟨(shapeL k).toArray⟩) ∧ Below w.heap.size w w' := by
  rcases k_cases hk with rfl | rfl | rfl | rfl | rfl | rfl | rfl | rfl | rfl | rfl | rfl | rfl | rfl | rfl | rfl | rfl | rfl | rfl | rfl
  all_goals
    go_enter Tryd.func39, Tryd.ntmps39
    go_wp2
    go_ret
    exact ⟨rfl, (by repeat (first | (with_reducible exact Below.refl _ _) | (with_reducible assumption) | (with_reducible refine bthen (by with_reducible assumption) ?_) | (with_reducible refine balloc _ ?_) | (with_reducible refine bdrewN _ ?_) | (with_reducible refine bdrew ?_) | (with_reducible refine bset (by first | exact Nat.le_refl _ | (dsimp only; omega)) ?_)))⟩
theorem shape_index (k : Nat) (hk : k < 19) (j : Nat) (hj : j < (shapeL k).length) : ∃ c : Int, (c = 68 ∨ c = 78 ∨ c = 77 ∨ c = 73) ∧ (shapeL k)[j] = UInt8.ofNat c.toNat ∧ ∀ h : j < (⟨(shapeL k).toArray⟩ : ByteArray).size, (((⟨(shapeL k).toArray⟩ : ByteArray)[j]'h).toNat : Int) = c := by
  rcases k_cases hk with rfl | rfl | rfl | rfl | rfl | rfl | rfl | rfl | rfl | rfl | rfl | rfl | rfl | rfl | rfl | rfl | rfl | rfl | rfl
  all_goals
    first
      | exact absurd (show j < 0 from hj) (Nat.not_lt_zero j)
      | (have hj1 : j < 1 := hj
         obtain rfl : j = 0 := by omega
         exact ⟨73, by decide, rfl, fun _ => rfl⟩)
      | (have hj2 : j < 2 := hj
         obtain rfl | rfl : j = 0 ∨ j = 1 := by omega
         · exact ⟨68, by decide, rfl, fun _ => rfl⟩
         · first | exact ⟨78, by decide, rfl, fun _ => rfl⟩ | exact ⟨73, by decide, rfl, fun _ => rfl⟩)
      | (have hj3 : j < 3 := hj
         obtain rfl | rfl | rfl : j = 0 ∨ j = 1 ∨ j = 2 := by omega
         · exact ⟨68, by decide, rfl, fun _ => rfl⟩
         · exact ⟨78, by decide, rfl, fun _ => rfl⟩
         · first | exact ⟨77, by decide, rfl, fun _ => rfl⟩ | exact ⟨73, by decide, rfl, fun _ => rfl⟩)
/-- What a field's letter tells. -/
def fieldT (d n m imm : Int) (c : UInt8) : List UInt8 := if c = 68 then 120 :: Lib.itoa d else if c = 78 then 120 :: Lib.itoa n else if c = 77 then 120 :: Lib.itoa m else Lib.itoa imm
/-- The text ahead of field j. -/
def textAt (k : Nat) (d n m imm : Int) : Nat → List UInt8
  | 0 => nameL k
  | j + 1 => textAt k d n m imm j ++ ((if j = 0 then 32 else 44) :: fieldT d n m imm ((shapeL k).getD j 0))
def textL (k : Nat) (d n m imm : Int) : List UInt8 := textAt k d n m imm (shapeL k).length
theorem fieldT_len (d n m imm : Int) (c : UInt8) (hd : -1000000 ≤ d ∧ d ≤ 1000000) (hn : -1000000 ≤ n ∧ n ≤ 1000000) (hm : -1000000 ≤ m ∧ m ≤ 1000000) (hi : -1000000 ≤ imm ∧ imm ≤ 1000000) : (fieldT d n m imm c).length ≤ 22 := by
  have e := fun (z : Int) (h : -1000000 ≤ z ∧ z ≤ 1000000) => Lib.itoa_length_le z (by omega) (by omega)
  have := e d hd; have := e n hn; have := e m hm; have := e imm hi
  unfold fieldT
  repeat' split
  all_goals (try simp only [List.length_cons]); omega
theorem nameL_len (k : Nat) : (nameL k).length ≤ 4 := by unfold nameL; split <;> simp
theorem textAt_len (k : Nat) (d n m imm : Int) (hd : -1000000 ≤ d ∧ d ≤ 1000000) (hn : -1000000 ≤ n ∧ n ≤ 1000000) (hm : -1000000 ≤ m ∧ m ≤ 1000000) (hi : -1000000 ≤ imm ∧ imm ≤ 1000000) : ∀ j, (textAt k d n m imm j).length ≤ 4 + 23 * j
  | 0 => by simpa [textAt] using nameL_len k
  | j + 1 => by
    have h1 := textAt_len k d n m imm hd hn hm hi j
    have h2 := fieldT_len d n m imm ((shapeL k).getD j 0) hd hn hm hi
    simp only [textAt, List.length_append, List.length_cons]
    omega
theorem cat3 (s t : List UInt8) (a x : UInt8) : (⟨s.toArray⟩ : ByteArray) ++ ⟨#[a]⟩ ++ ⟨#[x]⟩ ++ ⟨t.toArray⟩ = ⟨(s ++ a :: x :: t).toArray⟩ := by apply ByteArray.ext; simp
theorem cat2 (s t : List UInt8) (a : UInt8) : (⟨s.toArray⟩ : ByteArray) ++ ⟨#[a]⟩ ++ ⟨t.toArray⟩ = ⟨(s ++ a :: t).toArray⟩ := by apply ByteArray.ext; simp
theorem text_step {k : Nat} {d n m imm : Int} {j : Nat} {s f : List UInt8} {c : Int} (hs : s = textAt k d n m imm j) (hf : shapeL k = f) (hj : j < f.length) (hc : f[j] = UInt8.ofNat c.toNat) : s ++ ((if j = 0 then 32 else 44) :: fieldT d n m imm (UInt8.ofNat c.toNat)) = textAt k d n m imm (j + 1) := by
  subst hs hf
  rw [textAt, ← hc]
  simp [hj]
set_option maxRecDepth 100000 in
set_option maxHeartbeats 4000000 in
theorem reftext_in (k : Nat) (d n m imm : Int) (w : World) (h : okB k d n m imm = true) (hd : -1000000 ≤ d ∧ d ≤ 1000000) (hn : -1000000 ≤ n ∧ n ≤ 1000000) (hm : -1000000 ≤ m ∧ m ≤ 1000000) (hi : -1000000 ≤ imm ∧ imm ≤ 1000000) :
    Calls Tryd.prog 18 #[.agg #[.int .i8 k, .int .i8 d, .int .i8 n, .int .i8 m, .int .i64 imm]] w fun e w' => e = .returned (.string ⟨(textL k d n m imm).toArray⟩) ∧ Below w.heap.size w w' := by
  have hk : k < 19 := by have := (okB_cases h).1; omega
  have HC := Lib.hid (chkA_t h)
  have hsl : (shapeL k).length ≤ 3 := by unfold shapeL; split <;> simp
  have HL := Lib.hid (textAt_len k d n m imm hd hn hm hi)
  have HX := Lib.hid (shape_index k hk)
  obtain ⟨f, hf⟩ : ∃ f, shapeL k = f := ⟨_, rfl⟩
  have HF := Lib.hid hf
  have hfl : f.length ≤ 3 := by rw [← hf]; exact hsl
  clear h hf hsl
  go_enter Tryd.func18, Tryd.ntmps18
  go_wp2_with (first | (go_at_call 34; (with_reducible refine (refchk_any k d n m imm _).mono ?_); rintro e w' ⟨rfl, hb⟩; rw [HC.out]; obtain ⟨hz, hc, hf⟩ := bcell hb; (try simp only [World.size_alloc] at hz); (try simp only [World.size_setCell] at hz); (try simp only [World.size_drew] at hz); (try simp only [World.heap_drewN] at hz); (try have hs0 : w.heap.size < w'.heap.size := by omega); (try have hs1 : w.heap.size + 1 < w'.heap.size := by omega); (try have hs2 : w.heap.size + 2 < w'.heap.size := by omega)) | (go_at_call 38; (with_reducible refine (refname_in k _ hk).mono ?_); rintro e w' ⟨rfl, hb⟩; obtain ⟨hz, hc, hf⟩ := bcell hb; (try simp only [World.size_alloc] at hz); (try simp only [World.size_setCell] at hz); (try simp only [World.size_drew] at hz); (try simp only [World.heap_drewN] at hz); (try have hs0 : w.heap.size < w'.heap.size := by omega); (try have hs1 : w.heap.size + 1 < w'.heap.size := by omega); (try have hs2 : w.heap.size + 2 < w'.heap.size := by omega)) | (go_at_call 39; (with_reducible refine (refshape_in k _ hk).mono ?_); rintro e w' ⟨rfl, hb⟩; rw [HF.out]; obtain ⟨hz, hc, hf⟩ := bcell hb; (try simp only [World.size_alloc] at hz); (try simp only [World.size_setCell] at hz); (try simp only [World.size_drew] at hz); (try simp only [World.heap_drewN] at hz); (try have hs0 : w.heap.size < w'.heap.size := by omega); (try have hs1 : w.heap.size + 1 < w'.heap.size := by omega); (try have hs2 : w.heap.size + 2 < w'.heap.size := by omega)))
  have hB0 : Below w.heap.size w w' := (by repeat (first | (with_reducible exact Below.refl _ _) | (with_reducible assumption) | (with_reducible refine bthen (by with_reducible assumption) ?_) | (with_reducible refine balloc _ ?_) | (with_reducible refine bdrewN _ ?_) | (with_reducible refine bdrew ?_) | (with_reducible refine bset (by first | exact Nat.le_refl _ | (dsimp only; omega)) ?_)))
  have HB0 := Lib.hid hB0
  obtain ⟨kc, kf⟩ : (∀ i, w'.cell? ⟨w.heap.size, i, none⟩ = (#[.int .i8 k, .int .i8 d, .int .i8 n, .int .i8 m, .int .i64 imm] : Array Value)[i]?) ∧ True := ⟨fun i => by go_simp, trivial⟩
  go_loopw [3, 5] (fun v i wr => ∃ (j : Nat) (s : List UInt8), j ≤ f.length ∧ v = .string ⟨s.toArray⟩ ∧ i = .int .i64 j ∧ Hid (s = textAt k d n m imm j) ∧ Below w'.heap.size w' wr) (fun _ i _ => (f.length - intOf i).toNat)
  case atStart => exact ⟨0, nameL k, by omega, rfl, rfl, Lib.hid rfl, Below.refl _ _⟩
  case round =>
    obtain ⟨j, s, hj, rfl, rfl, HS, hB⟩ := hrel
    have hsr := hB.size
    have HB := Lib.hid hB
    have kc2 : ∀ i, wr.cell? ⟨w.heap.size, i, none⟩ = (#[.int .i8 k, .int .i8 d, .int .i8 n, .int .i8 m, .int .i64 imm] : Array Value)[i]? := fun i => (hB.cell (p := ⟨w.heap.size, i, none⟩) (by omega)).trans (kc i)
    clear hB
    by_cases hjl : j < f.length
    · obtain ⟨c, hc, hcf, hcr⟩ : ∃ c : Int, (c = 68 ∨ c = 78 ∨ c = 77 ∨ c = 73) ∧ f[j] = UInt8.ofNat c.toNat ∧ ∀ h : j < (⟨f.toArray⟩ : ByteArray).size, (((⟨f.toArray⟩ : ByteArray)[j]'h).toNat : Int) = c := by
        have e := HF.out
        subst e
        exact HX.out j hjl
      have hsln : s.length ≤ 100 := by have h1 := HL.out j; rw [← HS.out] at h1; omega
      have hf1 : ¬ 9223372036854775807 < s.length + 1 := by omega
      have hf2 : ¬ 9223372036854775807 < s.length + 1 + 1 := by omega
      have e := fun (z : Int) (h : -1000000 ≤ z ∧ z ≤ 1000000) => Lib.itoa_length_le z (by omega) (by omega)
      have hfd : ¬ 9223372036854775807 < s.length + 1 + 1 + (Lib.itoa d).length := by have := e d hd; omega
      have hfn : ¬ 9223372036854775807 < s.length + 1 + 1 + (Lib.itoa n).length := by have := e n hn; omega
      have hfm : ¬ 9223372036854775807 < s.length + 1 + 1 + (Lib.itoa m).length := by have := e m hm; omega
      have hfi : ¬ 9223372036854775807 < s.length + 1 + (Lib.itoa imm).length := by have := e imm hi; omega
      have HCF := Lib.hid hcf
      clear hcf e hsln
      have HST := Lib.hid (text_step HS.out HF.out hjl HCF.out)
      clear HCF
      by_cases hj0 : j = 0
      · subst hj0
        rw [if_pos rfl] at HST
        rcases hc with rfl | rfl | rfl | rfl
        all_goals
          go_wp2_with ((go_at_call 40; (with_reducible refine (refdigits_any _ _ (by omega) (by omega)).mono ?_); rintro e w' ⟨rfl, hb⟩; obtain ⟨hz, hc, hf⟩ := bcell hb; (try simp only [World.size_alloc] at hz); (try simp only [World.size_setCell] at hz); (try simp only [World.size_drew] at hz); (try simp only [World.heap_drewN] at hz); (try have hs0 : w.heap.size < w'.heap.size := by omega); (try have hs1 : w.heap.size + 1 < w'.heap.size := by omega); (try have hs2 : w.heap.size + 2 < w'.heap.size := by omega)))
          have hB := HB.out
          refine ⟨⟨1, _, by omega, congrArg Value.string ?_, rfl, Lib.hid rfl, (by repeat (first | (with_reducible exact Below.refl _ _) | (with_reducible assumption) | (with_reducible refine bthen (by with_reducible assumption) ?_) | (with_reducible refine balloc _ ?_) | (with_reducible refine bdrewN _ ?_) | (with_reducible refine bdrew ?_) | (with_reducible refine bset (by first | exact Nat.le_refl _ | (dsimp only; omega)) ?_)))⟩, by simp [intOf]; omega⟩
          first
            | exact (cat3 s _ 32 120).trans (congrArg (fun l : List UInt8 => (⟨l.toArray⟩ : ByteArray)) HST.out)
            | exact (cat2 s _ 32).trans (congrArg (fun l : List UInt8 => (⟨l.toArray⟩ : ByteArray)) HST.out)
      · have hj1 : ((j : Int) == 0) = false := by simpa using hj0
        rw [if_neg hj0] at HST
        rcases hc with rfl | rfl | rfl | rfl
        all_goals
          go_wp2_with ((go_at_call 40; (with_reducible refine (refdigits_any _ _ (by omega) (by omega)).mono ?_); rintro e w' ⟨rfl, hb⟩; obtain ⟨hz, hc, hf⟩ := bcell hb; (try simp only [World.size_alloc] at hz); (try simp only [World.size_setCell] at hz); (try simp only [World.size_drew] at hz); (try simp only [World.heap_drewN] at hz); (try have hs0 : w.heap.size < w'.heap.size := by omega); (try have hs1 : w.heap.size + 1 < w'.heap.size := by omega); (try have hs2 : w.heap.size + 2 < w'.heap.size := by omega)))
          have hB := HB.out
          refine ⟨⟨j + 1, _, by omega, congrArg Value.string ?_, rfl, Lib.hid rfl, (by repeat (first | (with_reducible exact Below.refl _ _) | (with_reducible assumption) | (with_reducible refine bthen (by with_reducible assumption) ?_) | (with_reducible refine balloc _ ?_) | (with_reducible refine bdrewN _ ?_) | (with_reducible refine bdrew ?_) | (with_reducible refine bset (by first | exact Nat.le_refl _ | (dsimp only; omega)) ?_)))⟩, by simp [intOf]; omega⟩
          first
            | exact (cat3 s _ 44 120).trans (congrArg (fun l : List UInt8 => (⟨l.toArray⟩ : ByteArray)) HST.out)
            | exact (cat2 s _ 44).trans (congrArg (fun l : List UInt8 => (⟨l.toArray⟩ : ByteArray)) HST.out)
    · obtain rfl : j = f.length := by omega
      have HE : Hid (s = textL k d n m imm) := Lib.hid (by rw [HS.out, textL, HF.out])
      go_wp2
      go_ret
      have hB := HB.out
      have hB0 := HB0.out
      exact ⟨by rw [← HE.out]; rfl, (by repeat (first | (with_reducible exact Below.refl _ _) | (with_reducible assumption) | (with_reducible refine bthen (by with_reducible assumption) ?_) | (with_reducible refine balloc _ ?_) | (with_reducible refine bdrewN _ ?_) | (with_reducible refine bdrew ?_) | (with_reducible refine bset (by first | exact Nat.le_refl _ | (dsimp only; omega)) ?_)))⟩
end Go.Proofs.YtailocbophkmmaaDoor
