/-
  Package syndrome: plain laws: there and back; no two have one text.
-/
import Derived.Test.YtailocbophkmmaaDoorSynText
namespace Go.Proofs.YtailocbophkmmaaDoor
open Go.RowKit FP

theorem get_parts (a b : Int) (hb0 : 0 ≤ b) (hb : b < 67108864) (ha0 : 0 ≤ a) (ha : a < 64) : getI (a * 67108864 + b) 31 26 = a := by
  have e1 : (26 : Int).toNat = 26 := rfl
  have e2 : ((31 : Int) - 26 + 1).toNat = 6 := rfl
  simp only [getI, e1, e2]; omega
theorem get66 (a b : Int) (hb0 : 0 ≤ b) (hb : b < 128) : getI (a * 67108864 + 33554432 + b) 6 6 = b / 64 := by
  have e1 : (6 : Int).toNat = 6 := rfl
  have e2 : ((6 : Int) - 6 + 1).toNat = 1 := rfl
  simp only [getI, e1, e2]; omega
theorem get50 (a b : Int) (hb0 : 0 ≤ b) (hb : b < 128) : getI (a * 67108864 + 33554432 + b) 5 0 = b % 64 := by
  have e1 : (0 : Int).toNat = 0 := rfl
  have e2 : ((5 : Int) - 0 + 1).toNat = 6 := rfl
  simp only [getI, e1, e2]; omega
theorem may_cases {c : Int} {s : Bool} {f l v : Int} (h : mayB c s f l v = true) : (c = 0 ∨ c = 1 ∨ c = 3 ∨ c = 4) ∧ s = false ∧ f = 0 ∧ l = 0 ∧ v = 0 ∨ c = 2 ∧ dataB f l = true := by grind [mayB]
/-- Decode of Encode. -/
theorem back (c : Int) (s : Bool) (f l v : Int) (h : mayB c s f l v = true) : dC (esrI c s f l) = c ∧ dS (esrI c s f l) = s ∧ dF (esrI c s f l) = f ∧ dL (esrI c s f l) = l := by
  have hc : dC (esrI c s f l) = c := by
    rcases may_cases h with ⟨rfl | rfl | rfl | rfl, rfl, rfl, rfl, rfl⟩ | ⟨rfl, hd⟩
    · decide
    · decide
    · decide
    · decide
    · have hb := causeI_bd (s := s) hd
      have : getI (esrI 2 s f l) 31 26 = 36 := by
        have e : esrI 2 s f l = 36 * 67108864 + (33554432 + causeI s f l) := by simp [esrI, codeI]; omega
        rw [e]; exact get_parts _ _ (by omega) (by omega) (by omega) (by omega)
      rw [dC, this]; decide
  refine ⟨hc, ?_⟩
  rcases may_cases h with ⟨h4, rfl, rfl, rfl, rfl⟩ | ⟨rfl, hd⟩
  · have hne : c ≠ 2 := by omega
    simp [dS, dF, dL, hc, hne]
  · have hb := causeI_bd (s := s) hd
    have e : esrI 2 s f l = 36 * 67108864 + 33554432 + causeI s f l := by simp [esrI, codeI]
    have g1 : getI (esrI 2 s f l) 6 6 = causeI s f l / 64 := by rw [e]; exact get66 _ _ (by omega) (by omega)
    have g2 : getI (esrI 2 s f l) 5 0 = causeI s f l % 64 := by rw [e]; exact get50 _ _ (by omega) (by omega)
    simp only [dS, dF, dL, hc, g1, g2]
    obtain ⟨h0, h1, hf⟩ := dataB_bd hd
    refine ⟨?_, ?_, ?_⟩
    · rcases hf with rfl | rfl | rfl <;> cases s <;> simp [causeI] <;> omega
    · rcases hf with rfl | rfl | rfl <;> cases s <;> grind [causeI, faultK, dataB]
    · rcases hf with rfl | rfl | rfl <;> cases s <;> grind [causeI, faultL, dataB]
theorem back_v (c : Int) (s : Bool) (f l v : Int) (h : mayB c s f l v = true) : decV (esrI c s f l) v = .tuple #[.agg #[.int .i8 c, .bool s, .int .i8 f, .int .i8 l, .int .u64 v], .int .i64 0] := by
  obtain ⟨e1, e2, e3, e4⟩ := back c s f l v h
  have : dOk (esrI c s f l) v = true := by simp [dOk, e1, e2, e3, e4, h]
  simp [decV, this, e1, e2, e3, e4]
theorem enc_inj {c c' : Int} {s s' : Bool} {f f' l l' v v' : Int} (h : mayB c s f l v = true) (h' : mayB c' s' f' l' v' = true) (he : esrI c s f l = esrI c' s' f' l') : c = c' ∧ s = s' ∧ f = f' ∧ l = l' := by
  obtain ⟨e1, e2, e3, e4⟩ := back c s f l v h
  obtain ⟨g1, g2, g3, g4⟩ := back c' s' f' l' v' h'
  rw [he] at e1 e2 e3 e4
  exact ⟨e1.symm.trans g1, e2.symm.trans g2, e3.symm.trans g3, e4.symm.trans g4⟩

/-! The text. -/
theorem hexC_inj {a b : Nat} (ha : a < 16) (hb : b < 16) (h : UInt8.ofNat (hexC a).toNat = UInt8.ofNat (hexC b).toNat) : a = b := by
  have h2 : (UInt8.ofNat (hexC a).toNat).toNat = (UInt8.ofNat (hexC b).toNat).toNat := by rw [h]
  simp only [hexC, UInt8.toNat_ofNat'] at h2
  split at h2 <;> split at h2 <;> omega
theorem low_inj : ∀ (n : Nat) (u v : Nat), (low u n).map (fun x => UInt8.ofNat x.toNat) = (low v n).map (fun x => UInt8.ofNat x.toNat) → u % 16 ^ n = v % 16 ^ n := by
  intro n
  induction n with
  | zero => intro u v _; simp [Nat.mod_one]
  | succ n ih =>
    intro u v h
    simp only [low, List.map_cons, List.cons.injEq] at h
    have h1 := hexC_inj (Nat.mod_lt _ (by omega)) (Nat.mod_lt _ (by omega)) h.1
    have h2 := ih u v h.2
    rw [Nat.pow_succ, Nat.mod_mul, Nat.mod_mul, h1, h2]
theorem hexLen_lt (u : Nat) : u < 16 ^ hexLen u := by
  induction u using Nat.strongRecOn with
  | ind u ih =>
    by_cases hu : u < 16
    · rw [hexLen, dif_pos hu]; omega
    · rw [hexLen, dif_neg hu, Nat.pow_succ]
      have := ih (u / 16) (by omega)
      omega
theorem hexL_inj {u v : Nat} (h : (hexL u).map (fun x => UInt8.ofNat x.toNat) = (hexL v).map (fun x => UInt8.ofNat x.toNat)) : u = v := by
  have hl : hexLen u = hexLen v := by
    have := congrArg List.length h
    simpa [hexL, low_len] using this
  rw [hexL, hexL, hl] at h
  have := low_inj _ _ _ h
  rw [Nat.mod_eq_of_lt (hexLen_lt v), Nat.mod_eq_of_lt (by rw [← hl]; exact hexLen_lt u)] at this
  exact this
/-- The text of data as a list. -/
def dataL (s : Bool) (f l : Int) (v : Nat) : List UInt8 :=
  (if s then [115, 116, 111, 114, 101, 32] else [108, 111, 97, 100, 32]) ++ ((if f = 2 then [112, 101, 114, 109] else if f = 3 then [97, 108, 105, 103, 110] else [116, 114, 97, 110, 115, 48 + UInt8.ofNat l.toNat]) ++ 32 :: (hexL v).map (fun x => UInt8.ofNat x.toNat))
def textL (c : Int) (s : Bool) (f l : Int) (v : Nat) : List UInt8 :=
  if mayB c s f l v then
    if c = 0 then [110, 111, 110, 101] else if c = 1 then [99, 97, 108, 108] else if c = 3 then [105, 110, 115, 116, 114] else if c = 4 then [116, 105, 99, 107] else dataL s f l v
  else [63]
theorem textS_list (c : Int) (s : Bool) (f l : Int) (v : Nat) : (textS c s f l v).data.toList = textL c s f l v := by
  unfold textS textL
  split
  · split; rfl
    split; rfl
    split; rfl
    split; rfl
    simp only [dataL, kindS, strOfNums]
    cases s <;> by_cases h2 : f = 2 <;> by_cases h3 : f = 3 <;> simp [h2, h3]
  · rfl
theorem dataL_inj {s s' : Bool} {f f' l l' : Int} {v v' : Nat} (h : dataB f l = true) (h' : dataB f' l' = true) (he : dataL s f l v = dataL s' f' l' v') : s = s' ∧ f = f' ∧ l = l' ∧ v = v' := by
  obtain ⟨a0, a1, hf⟩ := dataB_bd h
  obtain ⟨b0, b1, hf'⟩ := dataB_bd h'
  have hl : f = 1 ∧ (l = 0 ∨ l = 1 ∨ l = 2 ∨ l = 3) ∨ f = 2 ∧ l = 3 ∨ f = 3 ∧ l = 0 := by grind [dataB]
  have hl' : f' = 1 ∧ (l' = 0 ∨ l' = 1 ∨ l' = 2 ∨ l' = 3) ∨ f' = 2 ∧ l' = 3 ∨ f' = 3 ∧ l' = 0 := by grind [dataB]
  have key : s = s' ∧ f = f' ∧ l = l' ∧ (hexL v).map (fun x => UInt8.ofNat x.toNat) = (hexL v').map (fun x => UInt8.ofNat x.toNat) := by
    clear h h' a0 a1 b0 b1 hf hf'
    rcases hl with ⟨rfl, rfl | rfl | rfl | rfl⟩ | ⟨rfl, rfl⟩ | ⟨rfl, rfl⟩ <;> rcases hl' with ⟨rfl, rfl | rfl | rfl | rfl⟩ | ⟨rfl, rfl⟩ | ⟨rfl, rfl⟩ <;> cases s <;> cases s' <;> simp [dataL] at he ⊢ <;> exact he
  exact ⟨key.1, key.2.1, key.2.2.1, hexL_inj key.2.2.2⟩
theorem text_inj {c c' : Int} {s s' : Bool} {f f' l l' : Int} {v v' : Nat} (h : mayB c s f l v = true) (h' : mayB c' s' f' l' v' = true) (he : textS c s f l v = textS c' s' f' l' v') : c = c' ∧ s = s' ∧ f = f' ∧ l = l' ∧ v = v' := by
  have hl : textL c s f l v = textL c' s' f' l' v' := by rw [← textS_list, ← textS_list, he]
  simp only [textL, h, h', if_true] at hl
  have hv : c ≠ 2 → v = 0 := by rcases may_cases h with ⟨_, _, _, _, e⟩ | ⟨rfl, _⟩ <;> omega
  have hv' : c' ≠ 2 → v' = 0 := by rcases may_cases h' with ⟨_, _, _, _, e⟩ | ⟨rfl, _⟩ <;> omega
  rcases may_cases h with ⟨rfl | rfl | rfl | rfl, rfl, rfl, rfl, _⟩ | ⟨rfl, hd⟩ <;> rcases may_cases h' with ⟨rfl | rfl | rfl | rfl, rfl, rfl, rfl, _⟩ | ⟨rfl, hd'⟩
  case inr.inr =>
    simp at hl
    obtain ⟨e1, e2, e3, e4⟩ := dataL_inj hd hd' hl
    exact ⟨rfl, e1, e2, e3, e4⟩
  all_goals first
    | exact ⟨rfl, rfl, rfl, rfl, by have := hv (by decide); have := hv' (by decide); omega⟩
    | (exfalso; revert hl; simp; done)
    | (exfalso; revert hl; cases s <;> simp [dataL]; done)
    | (exfalso; revert hl; cases s' <;> simp [dataL]; done)
theorem text_q {c : Int} {s : Bool} {f l : Int} {v : Nat} (h : mayB c s f l v = true) : textS c s f l v ≠ ⟨#[63]⟩ := by
  intro he
  have hl : textL c s f l v = [63] := by rw [← textS_list, he]
  rw [textL, if_pos h] at hl
  rcases may_cases h with ⟨rfl | rfl | rfl | rfl, rfl, rfl, rfl, _⟩ | ⟨rfl, hd⟩
  · simp at hl
  · simp at hl
  · simp at hl
  · simp at hl
  · cases s <;> simp [dataL] at hl
end Go.Proofs.YtailocbophkmmaaDoor
