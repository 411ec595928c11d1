import Derived.Test.YtlggegjjhbknaaaDoorVrx
namespace Go.Proofs.YtlggegjjhbknaaaDoor
open Go.RowKit Go.Shelf Go.Lib Go.Maps Go.WideMaps

theorem clone_any {w : World} {p b n : Nat} {f : KV} (h : VarsAt w p b f n) :
    Calls Tryd.prog 22 #[.pointer (some ⟨p, 0, none⟩)] w fun e w' => ∃ p' b', e = .returned (.pointer (some ⟨p', 0, none⟩)) ∧ VarsAt w' p' b' f n ∧ Below w.heap.size w w' ∧ w.heap.size ≤ p' ∧ w.heap.size ≤ b' := by
  have hc := cell_of_one h.cell
  obtain ⟨D, hown, hat⟩ := h.map
  have hcon := AnyW.maps_Clone_owns Tryd.cloneM _ _ b n D w hown
  change Calls Tryd.prog 32 _ _ _ at hcon
  have HC := Lib.hid hcon
  have HAT := Lib.hid hat
  clear hcon hown hat h
  go_enter Tryd.func22, Tryd.ntmps22
  go_wp2_with fail
  refine HC.out.mono ?_
  rintro e w1 ⟨rfl, h1, _, hB⟩
  have H1 := Lib.hid h1
  have HB := Lib.hid hB
  clear h1 hB
  go_wp2_with fail
  go_ret
  have hk : Below w1.heap.size w1 (w1.alloc (.cells #[.map (some w.heap.size)] 48)) := (Below.refl _ _).alloc (Nat.le_refl _) _
  refine ⟨w1.heap.size, w.heap.size, rfl, ⟨heap_alloc_new _ _, ?_⟩, HB.out.trans (hk.mono HB.out.size), HB.out.size, Nat.le_refl _⟩
  exact HoldsMap.of_block ⟨D, H1.out, HAT.out⟩ (hk.block _ H1.out.lt)

theorem atN_nil (k : Bs) : atN [] k = none := rfl
theorem atN_cons (p : Bs × Bs) (r : KVs) (k : Bs) : atN (p :: r) k = if p.1 = k then some 0 else (atN r k).map (· + 1) := by
  unfold atN
  rw [List.findIdx?_cons]
  by_cases h : p.1 = k <;> simp [h]
theorem look_nil (k : Bs) : lookKV [] k = none := rfl
theorem look_cons (p : Bs × Bs) (r : KVs) (k : Bs) : lookKV (p :: r) k = if p.1 = k then some p.2 else lookKV r k := by
  unfold lookKV
  rw [atN_cons]
  by_cases h : p.1 = k
  · simp [h, vs]
  · simp only [h, if_false]
    cases atN r k with
    | none => rfl
    | some i => simp [vs]
theorem look_isSome (kv : KVs) (k : Bs) : (lookKV kv k).isSome = (atN kv k).isSome := by
  unfold lookKV; simp

theorem look_snoc (kv : KVs) (k v : Bs) (h : atN kv k = none) : lookKV (kv ++ [(k, v)]) = upd (lookKV kv) k v := by
  funext x
  induction kv with
  | nil => simp [look_cons, look_nil, upd, eq_comm]
  | cons p r ih =>
    rw [atN_cons] at h
    by_cases hp : p.1 = k
    · simp [hp] at h
    · simp only [hp, if_false, Option.map_eq_none_iff] at h
      rw [List.cons_append, look_cons, ih h]
      unfold upd
      rw [look_cons]
      by_cases hx : p.1 = x
      · subst hx; simp [hp]
      · simp [hx]

theorem look_set (kv : KVs) (k v : Bs) (i : Nat) (h : atN kv k = some i) : lookKV (kv.set i (k, v)) = upd (lookKV kv) k v := by
  funext x
  induction kv generalizing i with
  | nil => simp [atN_nil] at h
  | cons p r ih =>
    rw [atN_cons] at h
    by_cases hp : p.1 = k
    · simp only [hp, if_true, Option.some.injEq] at h
      subst h
      simp only [List.set_cons_zero, look_cons, upd, hp]
      by_cases hx : x = k
      · subst hx; simp
      · simp [hx, Ne.symm hx]
    · simp only [hp, if_false, Option.map_eq_some_iff] at h
      obtain ⟨j, hj, rfl⟩ := h
      rw [List.set_cons_succ, look_cons, ih j hj]
      unfold upd
      rw [look_cons]
      by_cases hx : p.1 = x
      · subst hx; simp [hp]
      · simp [hx]

theorem set_code (kv : KVs) (k v : Bs) : setCode (lookKV kv) kv.length k v = setC kv k v := by
  unfold setCode setC
  rw [look_isSome]
  by_cases h : 1000 < v.length
  · simp [h]
  · simp only [h, if_false]
    cases atN kv k <;> simp

theorem set_map (kv : KVs) (k v : Bs) : setMap (lookKV kv) kv.length k v = lookKV (setKV kv k v) := by
  unfold setMap
  rw [set_code]
  unfold setC setKV
  by_cases h : 1000 < v.length
  · simp [h]
  · simp only [h, if_false]
    cases e : atN kv k with
    | some i => simp [look_set kv k v i e]
    | none =>
      by_cases h16 : 16 ≤ kv.length
      · simp [h16]
      · simp [h16, look_snoc kv k v e]

theorem set_num (kv : KVs) (k v : Bs) : setNum (lookKV kv) kv.length k v = (setKV kv k v).length := by
  unfold setNum
  rw [set_code, look_isSome]
  unfold setC setKV
  by_cases h : 1000 < v.length
  · simp [h]
  · simp only [h, if_false]
    cases e : atN kv k with
    | some i => simp
    | none =>
      by_cases h16 : 16 ≤ kv.length
      · simp [h16]
      · simp [h16]

theorem setNum_le (f : KV) (n : Nat) (k v : Bs) (h : n ≤ 16) : setNum f n k v ≤ 16 := by
  unfold setNum
  split
  · rename_i h1
    obtain ⟨h1, h2⟩ := h1
    unfold setCode at h1
    split at h1
    · cases h1
    · split at h1
      · cases h1
      · rename_i h3; have : ¬ 16 ≤ n := fun h => h3 ⟨h2, h⟩
        omega
  · exact h

/-- What stands between two things that are done. -/
structure Play (w0 w : World) (p b q : Nat) (kv : KVs) : Prop where
  v : VarsAt w p b (lookKV kv) kv.length
  r : RefAt w q kv
  n : kv.length ≤ 16
  le : ∀ k v, lookKV kv k = some v → v.length ≤ 1000
  bel : Below w0.heap.size w0 w
  lp : w0.heap.size ≤ p
  lb : w0.heap.size ≤ b
  lq : w0.heap.size ≤ q

theorem Play.ml {w0 w : World} {p b q : Nat} {kv : KVs} (h : Play w0 w p b q kv) (hm : ML w0) : ML w := hm.below h.bel (ML.pos hm)

theorem Play.below {w0 w w' : World} {p b q : Nat} {kv : KVs} (h : Play w0 w p b q kv) (hb : Below w.heap.size w w') : Play w0 w' p b q kv :=
  ⟨h.v.below hb h.v.ltp h.v.ltb, h.r.under hb, h.n, h.le, chain h.bel hb, h.lp, h.lb, h.lq⟩

theorem VarsAt.turnQ {w w' : World} {p b q n : Nat} {f : KV} {kv : KVs} (h : VarsAt w p b f n) (hr : RefAt w q kv) (hg : w.grownBy w' (some q)) : VarsAt w' p b f n := by
  obtain ⟨nv, vv, hq, _, _⟩ := hr.ex
  have hpq : p ≠ q := by
    rintro rfl
    have := h.cell.symm.trans hq
    simp at this
  have hbq : b ≠ q := by
    rintro rfl
    obtain ⟨D, ⟨es, clock, hb, _⟩, _⟩ := h.map
    have := hb.symm.trans hq
    simp at this
  exact ⟨(hg.block p h.ltp (fun e => hpq (Option.some.inj e))).trans h.cell, h.map.of_block (hg.block b h.ltb (fun e => hbq (Option.some.inj e)))⟩

/-- Both are set. -/
theorem Play.set {w0 w w1 w2 : World} {p b q : Nat} {kv : KVs} (h : Play w0 w p b q kv) (k v : Bs) (hv : VarsAt w1 p b (setMap (lookKV kv) kv.length k v) (setNum (lookKV kv) kv.length k v)) (h1 : w.grownBy w1 (some b)) (hr : RefAt w1 q kv → RefAt w2 q (setKV kv k v)) (h2 : w1.grownBy w2 (some q)) :
    Play w0 w2 p b q (setKV kv k v) := by
  have hr1 := h.r.turned h.v.map h1
  have b1 : Below w0.heap.size w0 w1 := h.bel.grown h1 h.bel.size (fun j hj => by injection hj with hj; subst hj; exact h.lb)
  have b2 : Below w0.heap.size w0 w2 := b1.grown h2 b1.size (fun j hj => by injection hj with hj; subst hj; exact h.lq)
  have hn := setNum_le (lookKV kv) kv.length k v h.n
  have hle := setMap_le h.le kv.length k v
  rw [set_map] at hv hle
  rw [set_num] at hv hn
  exact ⟨hv.turnQ hr1 h2, hr hr1, hn, hle, b2, h.lp, h.lb, h.lq⟩

/-- A map of another's turns. -/
theorem Play.other {w0 w w' : World} {p b q p' b' n : Nat} {kv : KVs} {f : KV} (h : Play w0 w p b q kv) (ho : VarsAt w p' b' f n) (hne : b ≠ b') (hg : w.grownBy w' (some b')) (hl : w0.heap.size ≤ b') : Play w0 w' p b q kv := by
  have hpb : p ≠ b' := by
    rintro rfl
    obtain ⟨D, ⟨es, clock, hb, _⟩, _⟩ := ho.map
    have := hb.symm.trans h.v.cell
    simp at this
  have b1 : Below w0.heap.size w0 w' := h.bel.grown hg h.bel.size (fun j hj => by injection hj with hj; subst hj; exact hl)
  exact ⟨⟨(hg.block p h.v.ltp (fun e => hpb (Option.some.inj e))).trans h.v.cell, h.v.map.of_block (hg.block b h.v.ltb (fun e => hne (Option.some.inj e)))⟩, h.r.turned ho.map hg, h.n, h.le, b1, h.lp, h.lb, h.lq⟩

/-- The argument's elements. -/
def OpsAt (w : World) (a : Addr) (len : Nat) : Prop :=
  ∀ i, i < len → ∃ (k : UInt8) (n v : ByteArray), w.cell? ((a.add (i * 3)).add 0) = some (.int .u8 k.toNat) ∧ w.cell? ((a.add (i * 3)).add 1) = some (.string n) ∧ w.cell? ((a.add (i * 3)).add 2) = some (.string v)

theorem OpsAt.below {w w' : World} {a : Addr} {len : Nat} (h : OpsAt w a len) (hb : Below w.heap.size w w') : OpsAt w' a len := by
  intro i hi
  obtain ⟨k, n, v, h0, h1, h2⟩ := h i hi
  have e0 := World.block_lt_of_cell? w _ h0
  have e1 := World.block_lt_of_cell? w _ h1
  have e2 := World.block_lt_of_cell? w _ h2
  exact ⟨k, n, v, (hb.cell e0).trans h0, (hb.cell e1).trans h1, (hb.cell e2).trans h2⟩
end Go.Proofs.YtlggegjjhbknaaaDoor
