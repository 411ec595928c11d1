import Derived.Test.YtlggegjjhbknaaaDoorCut
import Derived.Maps.Views
import Derived.Maps.OwnSet
import Derived.Maps.StringElems
import Derived.OneCell
namespace Go.Proofs.YtlggegjjhbknaaaDoor
open Go.RowKit Go.Shelf Go.Lib Go.Maps Go.WideMaps

abbrev Bs := List UInt8
/-- What a map of texts holds, and how many. -/
abbrev KV := Bs → Option Bs
def upd (f : KV) (k v : Bs) : KV := fun x => if x = k then some v else f x

def IsAt (D : DataW Unit) (f : KV) (n : Nat) : Prop :=
  (∀ (k : Bs) (z : DataW Unit), D.atKey (.string k) z = match f k with | some v => .lit (.string v) | none => z) ∧ (∀ k : Bs, Maps.has D (.string k) = (f k).isSome) ∧ Maps.size D = n

def HoldsMap (w : World) (b : Nat) (f : KV) (n : Nat) : Prop :=
  ∃ D : DataW Unit, w.ownsMap Tryd.prog 9 (plainElem Tryd.prog 9) b n D ∧ IsAt D f n

theorem ownsMap_tight {w : World} {b n : Nat} {D : DataW Unit} (h : w.ownsMap Tryd.prog 9 (plainElem Tryd.prog 9) b n D) : w.ownsMap Tryd.prog 9 (plainElem Tryd.prog 9) b (Maps.size D) D := by
  obtain ⟨es, clock, hb, F, _, rfl⟩ := h
  exact ⟨es, clock, hb, F, by simp [Maps.size, length_sorted], rfl⟩

theorem HoldsMap.lt {w : World} {b n : Nat} {f : KV} (h : HoldsMap w b f n) : b < w.heap.size := let ⟨_, h1, _⟩ := h; h1.lt
theorem HoldsMap.of_block {w w' : World} {b n : Nat} {f : KV} (h : HoldsMap w b f n) (hb : w'.heap[b]? = w.heap[b]?) : HoldsMap w' b f n := by
  obtain ⟨D, ⟨es, clock, hb', F, hs, hD⟩, h2⟩ := h
  exact ⟨D, ⟨es, clock, hb.trans hb', F, hs, hD⟩, h2⟩

theorem isKeyLit_string (k : Bs) : WideAt.IsKeyLit (.string k) := trivial

theorem HoldsMap.made (w : World) : HoldsMap (w.alloc (.map #[] 0)) w.heap.size (fun _ => none) 0 :=
  ⟨.map [], World.ownsMap_made _ _ _ _, fun _ _ => rfl, fun _ => rfl, rfl⟩

theorem keyL : Keyed Tryd.prog 9 := string_keyed Tryd.underlying9
theorem zero9 (w : World) : (zeroValue 9).run Tryd.prog w = .ok (.string ⟨#[]⟩) w := by rfl

theorem HoldsMap.look {w : World} {b n : Nat} {f : KV} (h : HoldsMap w b f n) (s : ByteArray) (hs : s.size ≤ maxLen) :
    (Instr.lookup 46 (.map (some b)) (.string s) true).run Tryd.prog w = .ok (.tuple #[.string ⟨((f s.data.toList).getD []).toArray⟩, .bool (f s.data.toList).isSome]) w := by
  obtain ⟨D, hown, hat, hhas, _⟩ := h
  obtain ⟨v, ps, hrun, hv⟩ := hown.look_ok (z := .string ⟨#[]⟩) keyL Tryd.underlying46 (zero9 w) (plainElem_string Tryd.underlying9 (by simp [ByteArray.size])) (keyOf_string_mk Tryd.underlying9 hs)
  rw [hrun, hhas]
  obtain ⟨u, rfl, hz, _⟩ := plainElem_string_inv Tryd.underlying9 hv
  have e := congrArg Prod.fst hz
  simp only at e
  rw [hat] at e
  have : u = ⟨((f s.data.toList).getD []).toArray⟩ := by
    apply ByteArray.ext
    apply Array.ext'
    cases hf : f s.data.toList with
    | none => rw [hf] at e; simp only [DataW.lit.injEq, Lit.string.injEq] at e; simpa using e.symm
    | some x => rw [hf] at e; simp only [DataW.lit.injEq, Lit.string.injEq] at e; simpa using e.symm
  rw [this]

theorem HoldsMap.len {w : World} {b n : Nat} {f : KV} (h : HoldsMap w b f n) : (Builtin.len_ #[46] 3 #[.map (some b)]).run Tryd.prog w = .ok (.int .i64 n) w := by
  obtain ⟨D, hown, _, _, hn⟩ := h
  rw [hown.len Tryd.underlying46, hn]

theorem HoldsMap.store {w : World} {b n : Nat} {f : KV} (h : HoldsMap w b f n) (hn : n < 1000000) (s v : ByteArray) (hs : s.size ≤ maxLen) (hv : v.size ≤ maxLen) :
    ∃ w', (Instr.mapUpdate 46 (.map (some b)) (.string s) (.string v)).run Tryd.prog w = .ok () w' ∧ HoldsMap w' b (upd f s.data.toList v.data.toList) (if (f s.data.toList).isSome then n else n + 1) ∧ w.mapTurned w' b := by
  obtain ⟨D, hown, hat, hhas, hsz⟩ := h
  have hT := hown.tidy keyL
  obtain ⟨w', hrun, hown', ht⟩ := hown.store keyL Tryd.underlying46 (by unfold maxLen; omega) (keyOf_string_mk Tryd.underlying9 hs) (plainElem_string (H := Unit) Tryd.underlying9 hv)
  refine ⟨w', hrun, ⟨D.put (.string s.data.toList) (.lit (.string v.data.toList)), ?_, fun k z => ?_, fun k => ?_, ?_⟩, ht⟩
  · have e : Maps.size (D.put (.string s.data.toList) (.lit (.string v.data.toList))) = if (f s.data.toList).isSome then n else n + 1 := by
      rw [size_put hT, hhas, hsz]
    have := ownsMap_tight hown'
    rwa [e] at this
  · by_cases hk : k = s.data.toList
    · subst hk
      rw [atKey_put_same hT.isMap (isKeyLit_string _)]
      simp [upd]
    · rw [atKey_put_other (by simpa using hk), hat]
      simp [upd, hk]
  · by_cases hk : k = s.data.toList
    · subst hk
      rw [has_put_same hT.isMap (isKeyLit_string _)]
      simp [upd]
    · rw [has_put_other (by simpa using hk), hhas]
      simp [upd, hk]
  · rw [size_put hT, hhas, hsz]

/-- A '*Vars' at block p, over the map at block b. -/
structure VarsAt (w : World) (p b : Nat) (f : KV) (n : Nat) : Prop where
  cell : w.heap[p]? = some (.cells #[.map (some b)] 48 (0, 0))
  map : HoldsMap w b f n

theorem VarsAt.ne {w : World} {p b n : Nat} {f : KV} (h : VarsAt w p b f n) : p ≠ b := by
  rintro rfl
  obtain ⟨D, ⟨es, clock, hb, _⟩, _⟩ := h.map
  have := h.cell.symm.trans hb
  simp at this

theorem VarsAt.below {w w' : World} {p b n B : Nat} {f : KV} (h : VarsAt w p b f n) (hb : Below B w w') (hp : p < B) (hB : b < B) : VarsAt w' p b f n :=
  ⟨(hb.block p hp).trans h.cell, h.map.of_block (hb.block b hB)⟩

theorem VarsAt.ltp {w : World} {p b n : Nat} {f : KV} (h : VarsAt w p b f n) : p < w.heap.size := lt_of_block h.cell
theorem VarsAt.ltb {w : World} {p b n : Nat} {f : KV} (h : VarsAt w p b f n) : b < w.heap.size := h.map.lt

theorem new_any (w : World) :
    Calls Tryd.prog 10 #[] w fun e w' => e = .returned (.pointer (some ⟨w.heap.size + 1, 0, none⟩)) ∧ VarsAt w' (w.heap.size + 1) w.heap.size (fun _ => none) 0 ∧ Below w.heap.size w w' ∧ w'.heap.size = w.heap.size + 2 := by
  have hmm := @run_makeMap Tryd.prog
  go_enter Tryd.func10, Tryd.ntmps10
  go_wp2
  go_ret
  refine ⟨rfl, ⟨?_, ?_⟩, ?_, by simp⟩
  · simpa using heap_alloc_new (w.alloc (.map #[] 0)) (.cells #[.map (some w.heap.size)] 48)
  · refine (HoldsMap.made w).of_block ?_
    exact Below.heap_alloc _ _ _ (by simp)
  · exact ((Below.refl _ _).alloc (Nat.le_refl _) _).alloc (by simp) _

theorem get_any (w : World) (p b n : Nat) (f : KV) (h : VarsAt w p b f n) (s : ByteArray) (hs : s.size ≤ maxLen) :
    Calls Tryd.prog 13 #[.pointer (some ⟨p, 0, none⟩), .string s] w fun e w' => e = .returned (.tuple #[.string ⟨((f s.data.toList).getD []).toArray⟩, .bool (f s.data.toList).isSome]) ∧ w' = w := by
  have hc := cell_of_one h.cell
  have hl := h.map.look s hs
  clear h
  generalize (⟨((f s.data.toList).getD []).toArray⟩ : ByteArray) = r at hl ⊢
  generalize (f s.data.toList).isSome = ok at hl ⊢
  go_enter Tryd.func13, Tryd.ntmps13
  go_wp2
  go_ret2
  exact ⟨rfl, rfl⟩

theorem len_any (w : World) (p b n : Nat) (f : KV) (h : VarsAt w p b f n) :
    Calls Tryd.prog 15 #[.pointer (some ⟨p, 0, none⟩)] w fun e w' => e = .returned (.int .i64 n) ∧ w' = w := by
  have hc := cell_of_one h.cell
  have hl := h.map.len
  clear h
  go_enter Tryd.func15, Tryd.ntmps15
  go_wp2
  go_ret
  exact ⟨rfl, rfl⟩

/-- What Set does: the code, what is held then, and how many. -/
def setCode (f : KV) (n : Nat) (k v : Bs) : Int := if 1000 < v.length then 71 else if (f k).isSome = false ∧ 16 ≤ n then 72 else 0
def setMap (f : KV) (n : Nat) (k v : Bs) : KV := if setCode f n k v = 0 then upd f k v else f
def setNum (f : KV) (n : Nat) (k v : Bs) : Nat := if setCode f n k v = 0 ∧ (f k).isSome = false then n + 1 else n

theorem set_long (w : World) (p b n : Nat) (f : KV) (h : VarsAt w p b f n) (s v : ByteArray) (hs : s.size ≤ maxLen) (hv : 1000 < v.size) :
    Calls Tryd.prog 12 #[.pointer (some ⟨p, 0, none⟩), .string s, .string v] w fun e w' => e = .returned (.int .i64 71) ∧ w' = w := by
  have hc := cell_of_one h.cell
  have hl := h.map.look s hs
  have hlen := h.map.len
  clear h
  generalize (⟨((f s.data.toList).getD []).toArray⟩ : ByteArray) = r at hl
  generalize (f s.data.toList).isSome = ok at hl
  go_enter Tryd.func12, Tryd.ntmps12
  go_wp2_with fail
  go_ret
  exact ⟨rfl, rfl⟩

theorem set_full (w : World) (p b n : Nat) (f : KV) (h : VarsAt w p b f n) (s v : ByteArray) (hs : s.size ≤ maxLen) (hv : v.size ≤ 1000) (hf : (f s.data.toList).isSome = false) (hn : 16 ≤ n) :
    Calls Tryd.prog 12 #[.pointer (some ⟨p, 0, none⟩), .string s, .string v] w fun e w' => e = .returned (.int .i64 72) ∧ w' = w := by
  have hc := cell_of_one h.cell
  have hl := h.map.look s hs
  have hlen := h.map.len
  clear h
  rw [hf] at hl
  generalize (⟨((f s.data.toList).getD []).toArray⟩ : ByteArray) = r at hl
  clear hf
  have hd : decide (1000 < v.size) = false := decide_eq_false (by omega)
  go_enter Tryd.func12, Tryd.ntmps12
  go_wp2_with fail
  go_ret
  exact ⟨rfl, rfl⟩

set_option maxRecDepth 100000 in
theorem set_old (w : World) (p b n : Nat) (f : KV) (h : VarsAt w p b f n) (s v : ByteArray) (hs : s.size ≤ maxLen) (hv : v.size ≤ 1000) (hf : (f s.data.toList).isSome = true) (w' : World)
    (hst : (Instr.mapUpdate 46 (.map (some b)) (.string s) (.string v)).run Tryd.prog w = .ok () w') :
    Calls Tryd.prog 12 #[.pointer (some ⟨p, 0, none⟩), .string s, .string v] w fun e w1 => e = .returned (.int .i64 0) ∧ w1 = w' := by
  have hc := cell_of_one h.cell
  have hl := h.map.look s hs
  have hlen := h.map.len
  clear h
  rw [hf] at hl
  generalize (⟨((f s.data.toList).getD []).toArray⟩ : ByteArray) = r at hl
  clear hf
  go_enter Tryd.func12, Tryd.ntmps12
  go_wp2_with fail
  go_ret
  exact ⟨rfl, rfl⟩

theorem set_new (w : World) (p b n : Nat) (f : KV) (h : VarsAt w p b f n) (s v : ByteArray) (hs : s.size ≤ maxLen) (hv : v.size ≤ 1000) (hf : (f s.data.toList).isSome = false) (hn : n < 16) (w' : World)
    (hst : (Instr.mapUpdate 46 (.map (some b)) (.string s) (.string v)).run Tryd.prog w = .ok () w') :
    Calls Tryd.prog 12 #[.pointer (some ⟨p, 0, none⟩), .string s, .string v] w fun e w1 => e = .returned (.int .i64 0) ∧ w1 = w' := by
  have hc := cell_of_one h.cell
  have hl := h.map.look s hs
  have hlen := h.map.len
  clear h
  rw [hf] at hl
  generalize (⟨((f s.data.toList).getD []).toArray⟩ : ByteArray) = r at hl
  clear hf
  have hd : decide (1000 < v.size) = false := decide_eq_false (by omega)
  go_enter Tryd.func12, Tryd.ntmps12
  go_wp2_with fail
  go_ret
  exact ⟨rfl, rfl⟩

/-- (*Vars).Set, whatever is there. -/
theorem set_any (w : World) (p b n : Nat) (f : KV) (h : VarsAt w p b f n) (hn : n ≤ 16) (s v : ByteArray) (hs : s.size ≤ maxLen) :
    Calls Tryd.prog 12 #[.pointer (some ⟨p, 0, none⟩), .string s, .string v] w fun e w' => e = .returned (.int .i64 (setCode f n s.data.toList v.data.toList)) ∧ VarsAt w' p b (setMap f n s.data.toList v.data.toList) (setNum f n s.data.toList v.data.toList) ∧ w.grownBy w' (some b) ∧ w'.heap.size = w.heap.size := by
  have hvl : v.data.toList.length = v.size := by simp
  by_cases hv : 1000 < v.size
  · refine (set_long w p b n f h s v hs hv).mono fun e w' ⟨he, hw⟩ => ?_
    have e1 : setCode f n s.data.toList v.data.toList = 71 := by unfold setCode; rw [if_pos (by omega)]
    unfold setMap setNum
    rw [e1, if_neg (by decide), if_neg (by simp), hw]
    exact ⟨he, h, World.grownBy.refl _ _, rfl⟩
  · by_cases hf : (f s.data.toList).isSome = true
    · obtain ⟨w1, hst, hm, ht⟩ := h.map.store (by omega) s v hs (by unfold maxLen; omega)
      refine (set_old w p b n f h s v hs (by omega) hf w1 hst).mono fun e w' ⟨he, hw⟩ => ?_
      have e1 : setCode f n s.data.toList v.data.toList = 0 := by unfold setCode; rw [if_neg (by omega), if_neg (by simp [hf])]
      unfold setMap setNum
      rw [e1, if_pos rfl, if_neg (by simp [hf]), hw]
      rw [hf, if_pos rfl] at hm
      refine ⟨he, ⟨(ht.grown.block p h.ltp (fun e => h.ne (Option.some.inj e))).trans h.cell, hm⟩, ht.grown, ?_⟩
      obtain ⟨_, _, _, _, _, rfl⟩ := ht
      simp [ChangeMaps.setBlock]
    · have hf' : (f s.data.toList).isSome = false := by simpa using hf
      by_cases h16 : 16 ≤ n
      · refine (set_full w p b n f h s v hs (by omega) hf' h16).mono fun e w' ⟨he, hw⟩ => ?_
        have e1 : setCode f n s.data.toList v.data.toList = 72 := by unfold setCode; rw [if_neg (by omega), if_pos ⟨hf', h16⟩]
        unfold setMap setNum
        rw [e1, if_neg (by decide), if_neg (by simp), hw]
        exact ⟨he, h, World.grownBy.refl _ _, rfl⟩
      · obtain ⟨w1, hst, hm, ht⟩ := h.map.store (by omega) s v hs (by unfold maxLen; omega)
        refine (set_new w p b n f h s v hs (by omega) hf' (by omega) w1 hst).mono fun e w' ⟨he, hw⟩ => ?_
        have e1 : setCode f n s.data.toList v.data.toList = 0 := by unfold setCode; rw [if_neg (by omega), if_neg (by omega)]
        unfold setMap setNum
        rw [e1, if_pos rfl, if_pos ⟨rfl, hf'⟩, hw]
        rw [hf', if_neg (by decide)] at hm
        refine ⟨he, ⟨(ht.grown.block p h.ltp (fun e => h.ne (Option.some.inj e))).trans h.cell, hm⟩, ht.grown, ?_⟩
        obtain ⟨_, _, _, _, _, rfl⟩ := ht
        simp [ChangeMaps.setBlock]
end Go.Proofs.YtlggegjjhbknaaaDoor
