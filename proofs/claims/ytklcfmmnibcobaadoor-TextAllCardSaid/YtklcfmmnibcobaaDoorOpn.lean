import Derived.Test.YtklcfmmnibcobaaDoorProg
import Derived.OpenShut
import Derived.WideShapes
import Derived.Deep.Slices
import Derived.Deep.Fields
import Derived.WalkKit
namespace Go.Proofs.YtklcfmmnibcobaaDoor
open Go.ChangeShapes Go.WideShapes Go.Deep
section
variable {H : Type} {enc : TypeId × Value → H} {P : Program} {w : World} {base b0 : Nat} {spare : Nat → Bool} {held : Bool} {r : Reach}

/-- An array of integers that came in, by value. -/
theorem open_int_array {t e : TypeId} {n : Nat} {k : IntKind} {v : Value} {d : DataW H} {p : List MemPlace} (ht : P.underlying t = some (.array n e)) (he : P.underlying e = some (.int k)) (hce : P.cellsOf e = 1) (hct : P.cellsOf t = n)
    (hv : Value.okWide P w r b0 t v) (h : DataW.Trod enc P w base spare held t v d p) : ∃ zs : List Int, zs.length = n ∧ v = .agg (zs.map fun z => Value.int k z).toArray ∧ ∀ z ∈ zs, (Lit.int k z).wf = true := by
  simp only [Value.okWide, ht] at hv
  obtain ⟨cs, rfl, hcs, _⟩ := hv
  obtain ⟨fuel, hf⟩ := h
  obtain ⟨xs, m, _, _, hl, hxl, hall⟩ := DataW.trod_array ht hf
  have hl' : cs.toList.length = n := by simpa [Value.cells, hct] using hl
  have each : ∀ i (hi : i < n), ∃ z, cs.toList[i]? = some (.int k z) ∧ (Lit.int k z).wf = true := by
    intro i hi
    have h1 := hall i hi
    rw [hce, List.getElem?_eq_getElem (by omega)] at h1
    obtain ⟨z, hz, _, hw⟩ := DataW.trod_int he h1
    refine ⟨z, ?_, hw⟩
    have := congrArg (·[0]?) hz
    simpa [Value.cells, List.getElem?_take, List.getElem?_drop] using this
  have : ∀ (l : List Value), (∀ i (hi : i < l.length), ∃ z, l[i]? = some (.int k z) ∧ (Lit.int k z).wf = true) → ∃ zs : List Int, l = zs.map (fun z => Value.int k z) ∧ ∀ z ∈ zs, (Lit.int k z).wf = true := by
    intro l
    induction l with
    | nil => intro _; exact ⟨[], rfl, by simp⟩
    | cons a r ih =>
      intro h
      obtain ⟨z, hz, hw⟩ := h 0 (by simp)
      obtain ⟨zs, hzs, hws⟩ := ih (fun i hi => by simpa using h (i + 1) (by simpa using hi))
      have hz' : a = .int k z := by simpa using hz
      exact ⟨z :: zs, by rw [hzs, hz']; rfl, fun y hy => by
        rcases List.mem_cons.1 hy with rfl | hy
        · exact hw
        · exact hws y hy⟩
  obtain ⟨zs, hzs, hws⟩ := this cs.toList (fun i hi => each i (by omega))
  refine ⟨zs, by rw [← hl', hzs]; simp, ?_, hws⟩
  congr 1
  rw [← hzs]
end
theorem two_of {zs : List Int} (h : zs.length = 2) : ∃ a b, zs = [a, b] := by
  match zs, h with
  | [a, b], _ => exact ⟨a, b, rfl⟩
theorem four_of {zs : List Int} (h : zs.length = 4) : ∃ a b c d, zs = [a, b, c, d] := by
  match zs, h with
  | [a, b, c, d], _ => exact ⟨a, b, c, d, rfl⟩
theorem in64 {n : Int} (h : (Lit.int .i64 n).wf = true) : -9223372036854775808 ≤ n ∧ n ≤ 9223372036854775807 := bounds_i64 h
end Go.Proofs.YtklcfmmnibcobaaDoor
