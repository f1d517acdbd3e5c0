/-
  A slice of structs that comes in, opened: what its cells hold.
-/
import Derived.Test.YtailocbophkmmaaDoorLaidKit
set_option maxRecDepth 100000
namespace Go.Proofs.YtailocbophkmmaaDoor
open Go.ChangeShapes Go.WideShapes Go.ChangeAt Go.RowKit Go.WideElems Go.Deep

theorem add_none (b off n : Nat) : (⟨b, off, none⟩ : Addr).add n = ⟨b, off + n, none⟩ := by
  unfold Addr.add
  split
  · subst_vars; rfl
  · rfl
section
variable {H : Type} {enc : TypeId × Value → H} {P : Program} {w : World} {base : Nat} {spare : Nat → Bool} {held : Bool} {fuel : Nat} {t e : TypeId} {cs : List Value}
/-- Element i of a slice: its cells, and each field's reading. -/
theorem slice_struct {fs : Array Field} {b off len cap : Nat} {x : DataW H × List MemPlace} (ht : P.underlying t = some (.slice e)) (he : P.underlying e = some (.struct fs))
    (h : DataW.trod enc P w base spare held fuel t [.slice (some ⟨b, off, none⟩) len cap] = some x) (i : Nat) (hi : i < len) :
    ∃ cs : List Value, (∀ k v, cs[k]? = some v → w.cell? ⟨b, off + i * P.cellsOf e + k, none⟩ = some v) ∧ ∀ (j : Nat) (f : Field), fs[j]? = some f → ∃ m y, DataW.trod enc P w base spare held m f.type ((cs.drop f.offset).take (P.cellsOf f.type)) = some y := by
  rcases DataW.trod_slice ht h with ⟨hcs, -⟩ | ⟨a', len', cap', elems, rest, n, rfl, hcs, -, -, -, -, hlen, hel, -, -⟩
  · simp at hcs
  · simp only [List.cons.injEq, Value.slice.injEq, Option.some.injEq, and_true] at hcs
    obtain ⟨rfl, rfl, rfl⟩ := hcs
    have h1 := hel i hi
    rw [List.getElem?_eq_getElem (by omega), Option.bind_eq_some_iff] at h1
    obtain ⟨cs, hc, hr⟩ := h1
    refine ⟨cs, fun k v hk => ?_, fun j f hf => ?_⟩
    · unfold World.cells? at hc
      split at hc
      · have hl := Lib.mapM_length hc
        have hkl : k < P.cellsOf e := by have := (List.getElem?_eq_some_iff.1 hk).1; simp at hl; omega
        obtain ⟨v', h2, h3⟩ := Lib.mapM_at hc k k (by simp [hkl])
        rw [hk] at h2
        obtain rfl := Option.some.inj h2
        rw [add_none, add_none] at h3
        exact h3
      · cases hc
    · obtain ⟨xs, m, -, -, -, hl, hg⟩ := DataW.trod_struct he hr
      have hj : j < fs.size := (Array.getElem?_eq_some_iff.1 hf).1
      exact ⟨m, xs[j]'(by omega), (hg j f hf).trans (List.getElem?_eq_getElem (by omega))⟩
/-- A field that is a number. -/
theorem field_int {b o m : Nat} {k : IntKind} {f : Field} {cs : List Value} {y : DataW H × List MemPlace} (hk : P.underlying f.type = some (.int k)) (hcell : ∀ q v, cs[q]? = some v → w.cell? ⟨b, o + q, none⟩ = some v) (h : DataW.trod enc P w base spare held m f.type ((cs.drop f.offset).take (P.cellsOf f.type)) = some y) :
    ∃ n, w.cell? ⟨b, o + f.offset, none⟩ = some (.int k n) ∧ (Lit.int k n).wf = true := by
  obtain ⟨n, hn, -, hw⟩ := DataW.trod_int hk h
  exact ⟨n, hcell _ _ (take1 hn), hw⟩
end
end Go.Proofs.YtailocbophkmmaaDoor
