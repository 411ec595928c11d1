import Derived.Test.YtlggegjjhbknaaaDoorVrn
namespace Go.Proofs.YtlggegjjhbknaaaDoor
open Go.RowKit Go.Shelf Go.Lib Go.Maps Go.WideMaps

abbrev KVs := List (Bs × Bs)
def ks (kv : KVs) : List Bs := kv.map (·.1)
def vs (kv : KVs) : List Bs := kv.map (·.2)
def atN (kv : KVs) (k : Bs) : Option Nat := kv.findIdx? (fun p => decide (p.1 = k))
def atI (kv : KVs) (k : Bs) : Int := match atN kv k with | some i => i | none => -1

/-- The reference's '*Vars' at block q. -/
structure RefAt (w : World) (q : Nat) (kv : KVs) : Prop where
  ex : ∃ nv vv, w.heap[q]? = some (.cells #[nv, vv] 42 (0, 0)) ∧ RS w nv (ks kv) ∧ RS w vv (vs kv)

theorem RS.lt {w : World} {v : Value} {l : List Bs} (h : RS w v l) (hl : l ≠ []) : ∃ g c, v = .slice (some ⟨g, 0, none⟩) l.length c ∧ g < w.heap.size ∧ ∀ j x, l[j]? = some x → w.cell? ⟨g, j, none⟩ = some (.string ⟨x.toArray⟩) := by
  rcases h with ⟨_, h⟩ | ⟨g, c, rfl, hc⟩
  · exact absurd h hl
  · refine ⟨g, c, rfl, ?_, hc⟩
    cases l with
    | nil => exact absurd rfl hl
    | cons x r => exact World.block_lt_of_cell? w _ (hc 0 x rfl)

/-- What reads in the one world reads in the other, where the blocks that hold texts stay. -/
theorem RS.move {w w' : World} {v : Value} {l : List Bs} (h : RS w v l) (hk : ∀ g, g < w.heap.size → (∃ x, w.cell? ⟨g, 0, none⟩ = some (.string x)) → ∀ j, w'.cell? ⟨g, j, none⟩ = w.cell? ⟨g, j, none⟩) : RS w' v l := by
  rcases h with h | ⟨g, c, rfl, hc⟩
  · exact .inl h
  · refine .inr ⟨g, c, rfl, fun j x hx => ?_⟩
    have h0 : ∃ y, l[0]? = some y := by
      cases l with
      | nil => simp at hx
      | cons y r => exact ⟨y, rfl⟩
    obtain ⟨y, hy⟩ := h0
    rw [hk g (World.block_lt_of_cell? w _ (hc 0 y hy)) ⟨_, hc 0 y hy⟩ j]
    exact hc j x hx

theorem RS.under {w w' : World} {v : Value} {l : List Bs} (h : RS w v l) (hb : Below w.heap.size w w') : RS w' v l :=
  h.move fun g hg _ j => hb.cell (p := ⟨g, j, none⟩) hg

theorem RefAt.under {w w' : World} {q : Nat} {kv : KVs} (h : RefAt w q kv) (hb : Below w.heap.size w w') : RefAt w' q kv := by
  obtain ⟨nv, vv, h1, h2, h3⟩ := h.ex
  exact ⟨nv, vv, (hb.block q (lt_of_block h1)).trans h1, h2.under hb, h3.under hb⟩

theorem RefAt.lt {w : World} {q : Nat} {kv : KVs} (h : RefAt w q kv) : q < w.heap.size := by
  obtain ⟨nv, vv, h1, _⟩ := h.ex
  exact lt_of_block h1

/-- A map that turns: the reference's stay. -/
theorem RefAt.turned {w w' : World} {q b n : Nat} {kv : KVs} {f : KV} (h : RefAt w q kv) (hm : HoldsMap w b f n) (hg : w.grownBy w' (some b)) : RefAt w' q kv := by
  obtain ⟨nv, vv, h1, h2, h3⟩ := h.ex
  obtain ⟨D, ⟨es, clock, hb, _⟩, _⟩ := hm
  have hne : ∀ g x, w.cell? ⟨g, 0, none⟩ = some (.string x) → g ≠ b := by
    rintro g x hx rfl
    simp [World.cell?, hb] at hx
  refine ⟨nv, vv, (hg.block q (lt_of_block h1) ?_).trans h1, h2.move ?_, h3.move ?_⟩
  · intro e
    injection e with e
    subst e
    rw [h1] at hb
    cases hb
  · rintro g hgl ⟨x, hx⟩ j
    exact World.cell?_of_block (hg.block g hgl (fun e => hne g x hx (Option.some.inj e)))
  · rintro g hgl ⟨x, hx⟩ j
    exact World.cell?_of_block (hg.block g hgl (fun e => hne g x hx (Option.some.inj e)))

theorem atN_some {kv : KVs} {k : Bs} {i : Nat} (hi : i < kv.length) (h : kv[i].1 = k) (hall : ∀ j (hj : j < i), kv[j].1 ≠ k) : atN kv k = some i := by
  unfold atN
  rw [List.findIdx?_eq_some_iff_getElem]
  exact ⟨hi, by simpa using h, fun j hj => by simpa using hall j hj⟩

theorem atN_none {kv : KVs} {k : Bs} (hall : ∀ j (hj : j < kv.length), kv[j].1 ≠ k) : atN kv k = none := by
  unfold atN
  rw [List.findIdx?_eq_none_iff]
  intro p hp
  obtain ⟨j, hj, rfl⟩ := List.mem_iff_getElem.1 hp
  simpa using hall j hj

set_option maxHeartbeats 2000000 in
theorem at_any {w : World} {q : Nat} {kv : KVs} (h : RefAt w q kv) (hl : kv.length ≤ 1000) (k : Bs) :
    Calls Tryd.prog 31 #[.pointer (some ⟨q, 0, none⟩), .string ⟨k.toArray⟩] w fun e w' => e = .returned (.int .i64 (atI kv k)) ∧ w' = w := by
  obtain ⟨nv, vv, h1, h2, _⟩ := h.ex
  have c0 : w.cell? ⟨q, 0, none⟩ = some nv := by rw [cell_of_row w q 0 #[nv, vv] 42 (0, 0) h1]; rfl
  clear h h1
  rcases h2 with ⟨rfl, h0⟩ | ⟨g, c, rfl, hc⟩
  · have hkv : kv = [] := List.map_eq_nil_iff.1 h0
    have e0 : atI kv k = -1 := by subst hkv; rfl
    rw [e0]
    clear h0 hkv e0
    go_enter Tryd.func31, Tryd.ntmps31
    go_wp2_with fail
    go_loopg [5] 0 (fun gg iv wr => iv = .int .i64 0 ∧ wr = w)
    case atStart => exact ⟨rfl, rfl⟩
    case round =>
      obtain ⟨rfl, rfl⟩ := hrel
      go_wp2_with fail
      go_ret
      exact ⟨rfl, rfl⟩
  · have hkl : (ks kv).length = kv.length := by simp [ks]
    rw [hkl] at c0
    have HC := Lib.hid hc
    have HKL := Lib.hid hkl
    clear hc hkl
    go_enter Tryd.func31, Tryd.ntmps31
    go_wp2_with fail
    go_loopg [5] kv.length (fun gg iv wr => wr = w ∧ ∃ i : Nat, i ≤ kv.length ∧ gg = kv.length - i ∧ iv = .int .i64 i ∧ ∀ j (hj : j < kv.length), j < i → kv[j].1 ≠ k)
    case atStart => exact ⟨rfl, 0, by omega, by omega, rfl, by intro j _ h; omega⟩
    case round =>
      obtain ⟨rfl, i, hi, rfl, rfl, hall⟩ := hrel
      have HALL := Lib.hid hall
      clear hall
      by_cases hlt : i < kv.length
      · have ci := HC.out i kv[i].1 (by simp [ks, List.getElem?_eq_getElem hlt])
        obtain ⟨x, hx⟩ : ∃ x, kv[i].1 = x := ⟨_, rfl⟩
        rw [hx] at ci
        have HX := Lib.hid hx
        clear hx
        by_cases hxk : x = k
        · subst hxk
          go_wp2_with fail
          go_ret
          have e := atN_some hlt HX.out (fun j hj => HALL.out j (by omega) hj)
          refine ⟨?_, rfl⟩
          unfold atI
          rw [e]
          rfl
        · have hxb : (x == k) = false := by simpa using hxk
          have HXK := Lib.hid hxk
          clear hxk
          go_wp2_with fail
          go_roundg (kv.length - (i + 1))
          case measure => omega
          case rel =>
            refine ⟨rfl, i + 1, by omega, rfl, by go_num, fun j hj hji => ?_⟩
            by_cases hje : j = i
            · subst hje; rw [HX.out]; exact HXK.out
            · exact HALL.out j hj (by omega)
      · go_wp2_with fail
        go_ret
        have e := atN_none (kv := kv) (k := k) (fun j hj => HALL.out j hj (by omega))
        refine ⟨?_, rfl⟩
        unfold atI
        rw [e]
        rfl

def lookKV (kv : KVs) (k : Bs) : Option Bs := (atN kv k).map fun i => ((vs kv)[i]?).getD []

theorem atN_lt {kv : KVs} {k : Bs} {i : Nat} (h : atN kv k = some i) : i < kv.length := by
  unfold atN at h
  rw [List.findIdx?_eq_some_iff_getElem] at h
  exact h.1

theorem rget_any {w : World} {q : Nat} {kv : KVs} (h : RefAt w q kv) (hl : kv.length ≤ 1000) (k : Bs) :
    Calls Tryd.prog 20 #[.pointer (some ⟨q, 0, none⟩), .string ⟨k.toArray⟩] w fun e w' => e = .returned (.tuple #[.string ⟨((lookKV kv k).getD []).toArray⟩, .bool (lookKV kv k).isSome]) ∧ w' = w := by
  have ha := at_any h hl k
  obtain ⟨nv, vv, h1, _, h3⟩ := h.ex
  have c1 : w.cell? ⟨q, 1, none⟩ = some vv := by rw [cell_of_row w q 1 #[nv, vv] 42 (0, 0) h1]; rfl
  unfold lookKV
  unfold atI at ha
  cases e : atN kv k with
  | none =>
    rw [e] at ha
    have HA := Lib.hid ha
    clear ha h h1 h3 c1 e
    simp only [Option.map_none, Option.getD_none, Option.isSome_none]
    go_enter Tryd.func20, Tryd.ntmps20
    go_wp2_with fail
    refine HA.out.mono ?_
    rintro e wA ⟨rfl, rfl⟩
    go_wp2_with fail
    go_ret2
    exact ⟨rfl, rfl⟩
  | some i =>
    rw [e] at ha
    have hi := atN_lt e
    have hvl : (vs kv).length = kv.length := by simp [vs]
    obtain ⟨x, hx⟩ : ∃ x, (vs kv)[i]? = some x := ⟨_, List.getElem?_eq_getElem (by omega)⟩
    obtain ⟨g, c, rfl, _, hc⟩ := h3.lt (by intro e0; rw [e0] at hvl; simp at hvl; omega)
    have ci := hc i x hx
    simp only [Option.map_some, Option.getD_some, Option.isSome_some, hx]
    rw [hvl] at c1
    have HA := Lib.hid ha
    clear ha h h1 h3 e hc hx hvl
    simp only at HA
    go_enter Tryd.func20, Tryd.ntmps20
    go_wp2_with fail
    refine HA.out.mono ?_
    rintro e wA ⟨rfl, rfl⟩
    go_wp2_with fail
    go_ret2
    exact ⟨rfl, rfl⟩
end Go.Proofs.YtlggegjjhbknaaaDoor
