import Derived.Test.YtlggegjjhbknaaaDoorVplays
import Derived.Deep.Slices
import Derived.Deep.Fields
import Derived.ChangeSame
import Derived.WalkKit
import Derived.ProofKit
namespace Go.Proofs.YtlggegjjhbknaaaDoor
open Go.ChangeShapes Go.WideShapes Go.Deep
section
variable {H : Type} {enc : TypeId × Value → H} {P : Program} {w : World} {base : Nat} {spare : Nat → Bool} {held : Bool}
theorem open_slice_fields {t e : TypeId} {fs : Array Field} {fuel : Nat} {cs : List Value} {x : DataW H × List MemPlace} (ht : P.underlying t = some (.slice e)) (he : P.underlying e = some (.struct fs))
    (hone : oneCellFields P fs = true) (hC : P.cellsOf e = fs.size) (h : DataW.trod enc P w base spare held fuel t cs = some x) :
    (cs = [.slice none 0 0] ∧ x = (.nil, [])) ∨
    ∃ (a : Addr) (len cap m : Nat) (D : Nat → DataW H) (Pl : Nat → List MemPlace), cs = [.slice (some a) len cap] ∧ base ≤ a.block ∧ len ≤ cap ∧ cap ≤ maxLen ∧ m = (if spare a.block then cap else len) ∧
      x = (.slice ((List.range len).map D) ((List.range (m - len)).map fun j => D (len + j)), MemPlace.row a (m * fs.size) ++ (List.range m).flatMap Pl) ∧
      ∀ i, i < m → ∃ (ys : List (DataW H × List MemPlace)) (n : Nat), D i = .agg (ys.map (·.1)) ∧ Pl i = ys.flatMap (·.2) ∧ ys.length = fs.size ∧
        ∀ (j : Nat) (f : Field), fs[j]? = some f → ∃ (v : Value) (y : DataW H × List MemPlace), w.cell? (a.add (i * fs.size + j)) = some v ∧ ys[j]? = some y ∧ DataW.trod enc P w base spare held n f.type [v] = some y := by
  rcases open_slice ht h with h0 | ⟨a, len, cap, m, n, D, Pl, hcs, hb, hl, hm, hmm, hx, hi⟩
  · exact .inl h0
  · refine .inr ⟨a, len, cap, m, D, Pl, hcs, hb, hl, hm, hmm, by rw [hC] at hx; exact hx, fun i him => ?_⟩
    obtain ⟨cs', hc, ht'⟩ := hi i him
    rw [hC] at hc
    obtain ⟨ys, n', hn', hy, hlen, hyl, hf⟩ := DataW.trod_struct he ht'
    obtain ⟨_, hcl, hat⟩ := World.cells?_some hc
    simp only [Prod.mk.injEq] at hy
    refine ⟨ys, n', hy.1, hy.2, hyl, fun j f hj => ?_⟩
    obtain ⟨ho, hk⟩ := hone_of hone j f hj
    have hjl : j < fs.size := (Array.getElem?_eq_some_iff.1 hj).1
    have hcell := hat j hjl
    have hv : cs'[j]? = some (cs'[j]'(by omega)) := List.getElem?_eq_getElem (by omega)
    have h1 := hf j f hj
    rw [ho, hk] at h1
    have hone' : (cs'.drop j).take 1 = [cs'[j]'(by omega)] := by
      rw [List.drop_eq_getElem_cons (by omega)]
      rfl
    rw [hone'] at h1
    have hys : ys[j]? = some (ys[j]'(by omega)) := List.getElem?_eq_getElem (by omega)
    refine ⟨_, _, ?_, hys, h1.trans hys⟩
    rw [← Go.Deep.add_add, hcell, hv]
end

theorem cells44 : Tryd.prog.cellsOf 44 = 3 := by kernel_rfl

theorem open_ops {H : Type} {enc : TypeId × Value → H} {W : World} {base b0 : Nat} {spare : Nat → Bool} {held : Bool} {r : Reach} {v : Value} {d : DataW H} {p : List MemPlace} (hv : Value.okWide Tryd.prog W r b0 39 v)
    (h : DataW.Trod enc Tryd.prog W base spare held 39 v d p) : v = .slice none 0 0 ∨ ∃ a len cap, v = .slice (some a) len cap ∧ len ≤ maxLen ∧ OpsAt W a len := by
  obtain ⟨a1, l1, c1, rfl⟩ := okWide_slice Tryd.underlying39 hv
  obtain ⟨fuel, hf⟩ := h
  rcases open_slice_fields Tryd.underlying39 Tryd.underlying44 (by kernel_rfl) (cells44.trans (by rfl)) hf with ⟨hc, _⟩ | ⟨a, len, cap, m, D, Pl, hc, _, hl, hm, hmm, _, hall⟩
  · exact .inl (by simpa [Value.cells] using hc)
  · refine .inr ⟨a, len, cap, by simpa [Value.cells] using hc, Nat.le_trans hl hm, fun i hi => ?_⟩
    have him : i < m := by rw [hmm]; split <;> omega
    obtain ⟨ys, n, _, _, _, hf⟩ := hall i him
    obtain ⟨v0, y0, g0, _, t0⟩ := hf 0 _ rfl
    obtain ⟨v1, y1, g1, _, t1⟩ := hf 1 _ rfl
    obtain ⟨v2, y2, g2, _, t2⟩ := hf 2 _ rfl
    obtain ⟨n0, e0, _, w0⟩ := DataW.trod_int (k := .u8) Tryd.underlying5 t0
    obtain ⟨s1, e1, _, _⟩ := DataW.trod_string Tryd.underlying9 t1
    obtain ⟨s2, e2, _, _⟩ := DataW.trod_string Tryd.underlying9 t2
    simp only [List.cons.injEq, and_true] at e0 e1 e2
    subst e0 e1 e2
    simp [Lit.wf] at w0
    have w1 : 0 ≤ n0 ∧ n0 ≤ 255 := w0
    refine ⟨UInt8.ofNat n0.toNat, s1, s2, ?_, ?_, ?_⟩
    · have e : ((UInt8.ofNat n0.toNat).toNat : Int) = n0 := by
        rw [UInt8.toNat_ofNat_of_lt' (by have : UInt8.size = 256 := rfl; omega)]
        omega
      rw [Go.Deep.add_add, e]
      exact g0
    · rw [Go.Deep.add_add]; exact g1
    · rw [Go.Deep.add_add]; exact g2

set_option maxRecDepth 100000 in
set_option maxHeartbeats 4000000 in
theorem plays_nil (w : World) (hm : ML w) :
    Calls Tryd.prog 7 #[.slice none 0 0] w fun e w' => e = .returned (.bool true) ∧ Go.RowKit.Below w.heap.size w w' := by
  have h0 := ML.pos hm
  go_enter Tryd.func7, Tryd.ntmps7
  go_wp2_with fail
  refine (shown_any hm h0).mono ?_
  rintro e w1 ⟨rfl, hb1⟩
  have HB1 := Go.Lib.hid hb1
  clear hb1
  go_wp2_with fail
  refine (new_any _).mono ?_
  rintro e w2 ⟨rfl, _, hb2, _⟩
  have b2 : Go.RowKit.Below w.heap.size w w2 := chain HB1.out hb2
  have hk2 : Go.RowKit.Below w2.heap.size w2 (w2.alloc (.cells #[.slice none 0 0, .slice none 0 0] 42)) := (Go.RowKit.Below.refl _ _).alloc (Nat.le_refl _) _
  have HB := Go.Lib.hid (chain b2 hk2)
  clear hb2 b2 hk2
  go_wp2_with fail
  go_loopg [6] 0 (fun g iv wr => iv = .int .i64 0 ∧ wr = w2.alloc (.cells #[.slice none 0 0, .slice none 0 0] 42))
  case atStart => exact ⟨rfl, rfl⟩
  case round =>
    obtain ⟨rfl, rfl⟩ := hrel
    go_wp2_with fail
    go_ret
    exact ⟨rfl, HB.out⟩

theorem plays_law {H : Type} {enc : TypeId × Value → H} {W : World} {base b0 : Nat} {spare : Nat → Bool} {held : Bool} {r : Reach} {v : Value} {d : DataW H} {p : List MemPlace} (hv : Value.okWide Tryd.prog W r b0 39 v)
    (h : DataW.Trod enc Tryd.prog W base spare held 39 v d p) (hm : ML W) : Calls Tryd.prog 7 #[v] W fun e w' => e = .returned (.bool true) ∧ Go.RowKit.Below W.heap.size W w' := by
  rcases open_ops hv h with rfl | ⟨a, len, cap, rfl, hl, ho⟩
  · exact plays_nil W hm
  · exact plays_some a len cap W hm ho hl
end Go.Proofs.YtlggegjjhbknaaaDoor
