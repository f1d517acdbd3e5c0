/-
  Tables of structs and of strings that a row lists: what their cells hold.
-/
import Derived.Test.YtailocbophkmmaaDoorRowKit
namespace Go.Proofs.YtailocbophkmmaaDoor
open Go.ChangeShapes Go.WideShapes Go.ChangeAt Go.RowKit Go.WideElems Go.Deep

/-- The value of a literal. -/
def litVal : Lit → Value
  | .int k z => .int k z
  | .bool b => .bool b
  | .string s => .string ⟨s.toArray⟩
  | _ => .nilIface
section
variable {H : Type} {enc : TypeId × Value → H} {P : Program} {w : World} {base : Nat} {spare : Nat → Bool} {held : Bool} {fuel : Nat} {t e : TypeId} {cs : List Value} {p : List MemPlace}
theorem int_get {k : IntKind} {l : Lit} (ht : P.underlying t = some (.int k)) (h : DataW.trod enc P w base spare held fuel t cs = some (.lit l, p)) : cs = [litVal l] := by
  obtain ⟨n, rfl, hx, _⟩ := DataW.trod_int ht h
  simp only [Prod.mk.injEq, DataW.lit.injEq] at hx
  obtain ⟨rfl, -⟩ := hx
  rfl
theorem bool_get {l : Lit} (ht : P.underlying t = some .bool) (h : DataW.trod enc P w base spare held fuel t cs = some (.lit l, p)) : cs = [litVal l] := by
  obtain ⟨n, rfl, hx⟩ := DataW.trod_bool ht h
  simp only [Prod.mk.injEq, DataW.lit.injEq] at hx
  obtain ⟨rfl, -⟩ := hx
  rfl
theorem string_get {l : Lit} (ht : P.underlying t = some .string) (h : DataW.trod enc P w base spare held fuel t cs = some (.lit l, p)) : cs = [litVal l] := by
  obtain ⟨n, rfl, hx, _⟩ := DataW.trod_string ht h
  simp only [Prod.mk.injEq, DataW.lit.injEq] at hx
  obtain ⟨rfl, -⟩ := hx
  rfl
/-- The type is one of integers, of truths or of strings. -/
def flatT (P : Program) (t : TypeId) : Bool := match P.underlying t with
  | some (.int _) => true
  | some .bool => true
  | some .string => true
  | _ => false
theorem lit_get {l : Lit} (ht : flatT P t = true) (h : DataW.trod enc P w base spare held fuel t cs = some (.lit l, p)) : cs = [litVal l] := by
  unfold flatT at ht
  split at ht
  · exact int_get (by assumption) h
  · exact bool_get (by assumption) h
  · exact string_get (by assumption) h
  · cases ht
theorem arr_get {n : Nat} {ds : List (DataW H)} (ht : P.underlying t = some (.array n e)) (h : DataW.trod enc P w base spare held fuel t cs = some (.agg ds, p)) (i : Nat) (d : DataW H) (hd : ds[i]? = some d) :
    ∃ m q, DataW.trod enc P w base spare held m e ((cs.drop (i * P.cellsOf e)).take (P.cellsOf e)) = some (d, q) := by
  obtain ⟨xs, m, rfl, hx, _, hl, hg⟩ := DataW.trod_array ht h
  simp only [Prod.mk.injEq, DataW.agg.injEq] at hx
  obtain ⟨rfl, rfl⟩ := hx
  have hi : i < xs.length := by
    have := (List.getElem?_eq_some_iff.1 hd).1
    simpa using this
  have h1 := hg i (by omega)
  rw [List.getElem?_eq_getElem hi] at h1
  simp only [List.getElem?_map, List.getElem?_eq_getElem hi, Option.map_some, Option.some.injEq] at hd
  exact ⟨m, xs[i].2, by rw [h1, ← hd]⟩
theorem str_get {fs : Array Field} {ds : List (DataW H)} (ht : P.underlying t = some (.struct fs)) (h : DataW.trod enc P w base spare held fuel t cs = some (.agg ds, p)) (j : Nat) (f : Field) (d : DataW H) (hf : fs[j]? = some f) (hd : ds[j]? = some d) :
    ∃ m q, DataW.trod enc P w base spare held m f.type ((cs.drop f.offset).take (P.cellsOf f.type)) = some (d, q) := by
  obtain ⟨xs, m, rfl, hx, _, hl, hg⟩ := DataW.trod_struct ht h
  simp only [Prod.mk.injEq, DataW.agg.injEq] at hx
  obtain ⟨rfl, rfl⟩ := hx
  have hi : j < xs.length := by
    have := (List.getElem?_eq_some_iff.1 hd).1
    simpa using this
  have h1 := hg j f hf
  rw [List.getElem?_eq_getElem hi] at h1
  simp only [List.getElem?_map, List.getElem?_eq_getElem hi, Option.map_some, Option.some.injEq] at hd
  exact ⟨m, xs[j].2, by rw [h1, ← hd]⟩
theorem take1 {a n : Nat} {v : Value} (h : (cs.drop a).take n = [v]) : cs[a]? = some v := by
  have h1 := congrArg (·[0]?) h
  simp only [List.getElem?_take, List.getElem?_drop, List.getElem?_cons_zero, Nat.add_zero] at h1
  split at h1
  · exact h1
  · cases h1
theorem take2 {a b o n : Nat} {v : Value} (h : (((cs.drop a).take b).drop o).take n = [v]) : cs[a + o]? = some v := by
  have h1 := take1 h
  simp only [List.getElem?_take, List.getElem?_drop] at h1
  split at h1
  · exact h1
  · cases h1
/-- The first variable of a row's list. -/
theorem laid_head {name : String} {d : DataW Unit} {rest : List (String × DataW Unit)} {W : World} {g : Nat} (hg : P.globalNamed name = some g) (hty : (P.globals[g]?).map (·.type) = some t) (h : laidMet P ((name, d) :: rest) W) :
    ∃ cs fuel p, (∀ i, W.cell? ⟨g, i, none⟩ = cs[i]?) ∧ DataW.trod (fun _ => ()) P W 0 (fun _ => true) false fuel t cs = some (d, p) := by
  obtain ⟨ps, ⟨g', t', cs, fuel, p, q, hg', ht', hvar, hd, _, _⟩, _⟩ := h
  obtain rfl := Option.some.inj (hg.symm.trans hg')
  obtain rfl := Option.some.inj (hty.symm.trans ht')
  exact ⟨cs.toList, fuel, p, fun i => by simpa using World.var?_cell hg hvar i, hd⟩
/-- An array of one-cell elements: cell i. -/
theorem laid_arr {name : String} {ds : List (DataW Unit)} {rest : List (String × DataW Unit)} {W : World} {g n : Nat} (hg : P.globalNamed name = some g) (hty : (P.globals[g]?).map (·.type) = some t) (ht : P.underlying t = some (.array n e)) (he : flatT P e = true) (hc : P.cellsOf e = 1)
    (h : laidMet P ((name, .agg ds) :: rest) W) (i : Nat) (l : Lit) (hd : ds[i]? = some (.lit l)) : W.cell? ⟨g, i, none⟩ = some (litVal l) := by
  obtain ⟨cs, fuel, p, hcell, hr⟩ := laid_head hg hty h
  obtain ⟨m, q, h1⟩ := arr_get ht hr i _ hd
  rw [hcell, ← take1 (lit_get he h1), hc, Nat.mul_one]
/-- An array of structs of one-cell fields: field j of element i. -/
theorem laid_str {name : String} {ds es : List (DataW Unit)} {rest : List (String × DataW Unit)} {W : World} {g n : Nat} {fs : Array Field} {f : Field} (hg : P.globalNamed name = some g) (hty : (P.globals[g]?).map (·.type) = some t) (ht : P.underlying t = some (.array n e)) (he : P.underlying e = some (.struct fs))
    (h : laidMet P ((name, .agg ds) :: rest) W) (i j : Nat) (l : Lit) (hd : ds[i]? = some (.agg es)) (hf : fs[j]? = some f) (ht2 : flatT P f.type = true) (hl : es[j]? = some (.lit l)) : W.cell? ⟨g, i * P.cellsOf e + f.offset, none⟩ = some (litVal l) := by
  obtain ⟨cs, fuel, p, hcell, hr⟩ := laid_head hg hty h
  obtain ⟨m, q, h1⟩ := arr_get ht hr i _ hd
  obtain ⟨m2, q2, h2⟩ := str_get he h1 j f _ hf hl
  rw [hcell, ← take2 (lit_get ht2 h2)]
end
end Go.Proofs.YtailocbophkmmaaDoor
