import Derived.Test.YtlggegjjhbknaaaDoorVnm
namespace Go.Proofs.YtlggegjjhbknaaaDoor
open Go.RowKit Go.Shelf Go.Lib Go.Maps Go.WideMaps

theorem bytes_self (s : ByteArray) : (⟨s.data.toList.toArray⟩ : ByteArray) = s := by
  apply ByteArray.ext; simp

theorem short_any (s : ByteArray) (n : Nat) (hn : n ≤ 100000) (_hs : s.size ≤ 140737488351232) (w : World) :
    Calls Tryd.prog 9 #[.string s, .int .i64 n] w fun e w' => e = .returned (.string ⟨(s.data.toList.take n).toArray⟩) ∧ w' = w := by
  by_cases h : n < s.size
  · have e : s.extract 0 n = ⟨(s.data.toList.take n).toArray⟩ := by rw [ext_eq]; simp
    go_enter Tryd.func9, Tryd.ntmps9
    go_wp2
    go_ret
    exact ⟨rfl, rfl⟩
  · have e : (⟨(s.data.toList.take n).toArray⟩ : ByteArray) = s := by
      rw [List.take_of_length_le (by simp; omega)]
    rw [e]
    go_enter Tryd.func9, Tryd.ntmps9
    go_wp2
    go_ret
    exact ⟨rfl, rfl⟩

/-- A slice of texts that the call has made: it reads as l. -/
def OwnS (B : Nat) (w : World) (v : Value) (l : List Bs) : Prop := w.ownsRow B 9 1 v l.length (strV l)

theorem OwnS.below {B : Nat} {w w' : World} {v : Value} {l : List Bs} (h : OwnS B w v l) (hb : Below w.heap.size w w') : OwnS B w' v l := by
  refine ⟨h.1, ?_⟩
  rcases h.2 with h0 | ⟨g, cap, cur, hv, hg, hh, r⟩
  · exact .inl h0
  · exact .inr ⟨g, cap, cur, hv, hg, (hb.block g (lt_of_block hh)).trans hh, r⟩

def NamesEnd (t : Bs) (w : World) (e : Ending) (w' : World) : Prop :=
  ∃ v, e = .returned (.tuple #[v, .bool (namesOf t).isSome]) ∧ OwnS (w.heap.size + 1) w' v ((namesOf t).getD []) ∧ Below w.heap.size w w'

set_option maxHeartbeats 400000 in
theorem names_any {w : World} (hm : ML w) (h0 : 0 < w.heap.size) (t : Bs) (ht : t.length ≤ 10000) :
    Calls Tryd.prog 16 #[.string ⟨t.toArray⟩] w (NamesEnd t w) := by
  have hmf : ∀ (fn : Fn) (first cap : Array Value) (w : World), (Instr.makeFunc fn first cap).run Tryd.prog w = .ok (.func fn first cap) w := fun _ _ _ _ => rfl
  have hb1 : Below w.heap.size w (w.alloc (.cells #[.slice none 0 0] 34)) := (Below.refl _ _).alloc (Nat.le_refl _) _
  have hinv : NamInv w.heap.size [] (w.alloc (.cells #[.slice none 0 0] 34)) :=
    ⟨⟨_, heap_alloc_new _ _, World.ownsRow_nil _ _ _ _⟩, hm.below hb1 h0, h0⟩
  have he := each_names hinv t ht
  have HE := Lib.hid he
  have HB := Lib.hid hb1
  clear he hinv hb1 hm
  go_enter Tryd.func16, Tryd.ntmps16
  go_wp2_with fail
  refine HE.out.mono ?_
  rintro e w1 ⟨rfl, hr, hb3⟩
  have HR := Lib.hid hr
  have HB3 := Lib.hid hb3
  clear hr hb3
  cases hx : namesOf t with
  | none =>
    simp only [Option.isSome_none]
    have HX := Lib.hid hx
    clear hx
    go_wp2_with fail
    go_ret2
    refine ⟨_, by rw [HX.out]; rfl, ?_, HB.out.trans HB3.out⟩
    rw [HX.out]
    exact World.ownsRow_nil _ _ _ _
  | some r =>
    simp only [Option.isSome_some]
    have hi := HR.out r hx
    obtain ⟨⟨v, hv, hown⟩, _, _⟩ := hi
    have hc := cell_of_one hv
    have HX := Lib.hid hx
    have HO := Lib.hid hown
    clear hx hown hv
    go_wp2_with fail
    go_ret2
    refine ⟨_, by rw [HX.out]; rfl, ?_, HB.out.trans HB3.out⟩
    rw [HX.out]
    exact HO.out

theorem upd_le {f : KV} (hf : ∀ k v, f k = some v → v.length ≤ 1000) (k0 v0 : Bs) (hv : v0.length ≤ 1000) : ∀ k v, upd f k0 v0 k = some v → v.length ≤ 1000 := by
  intro k v h
  unfold upd at h
  split at h
  · injection h with h; subst h; exact hv
  · exact hf k v h

theorem setMap_le {f : KV} (hf : ∀ k v, f k = some v → v.length ≤ 1000) (n : Nat) (k0 v0 : Bs) : ∀ k v, setMap f n k0 v0 k = some v → v.length ≤ 1000 := by
  unfold setMap
  split
  · rename_i h
    refine upd_le hf k0 v0 ?_
    unfold setCode at h
    split at h
    · cases h
    · omega
  · exact hf

theorem none_le : ∀ k v, (fun _ => none : KV) k = some v → v.length ≤ 1000 := by intro k v h; cases h

theorem shown_any {w : World} (hm : ML w) (h0 : 0 < w.heap.size) :
    Calls Tryd.prog 8 #[] w fun e w' => e = .returned (.bool true) ∧ Below w.heap.size w w' := by
  go_enter Tryd.func8, Tryd.ntmps8
  go_wp2_with fail
  refine (new_any w).mono ?_
  rintro e w1 ⟨rfl, hv1, hb1, hz1⟩
  have hset := set_any w1 _ _ 0 _ hv1 (by omega) ⟨#[97]⟩ ⟨#[120]⟩ (by decide)
  have HV1 := Lib.hid hv1
  have HB1 := Lib.hid hb1
  have HZ1 := Lib.hid hz1
  have HS := Lib.hid hset
  clear hv1 hb1 hz1 hset
  go_wp2_with fail
  refine HS.out.mono ?_
  rintro e w2 ⟨rfl, hv2, hg2, hz2⟩
  have hb2 : Below w.heap.size w w2 := HB1.out.grown hg2 (by rw [HZ1.out]; omega) (fun j hj => by injection hj with hj; omega)
  have hm2 := hm.below hb2 h0
  have hex := expand_any hv2 hm2 [36, 97, 46, 36, 36] (by decide) (setMap_le none_le _ _ _)
  have HE := Lib.hid hex
  have HB2 := Lib.hid hb2
  have HZ2 := Lib.hid hz2
  clear hv2 hg2 hb2 hm2 hex hz2
  have e0 : setCode (fun _ => none) 0 (⟨#[97]⟩ : ByteArray).data.toList (⟨#[120]⟩ : ByteArray).data.toList = 0 := by decide
  rw [e0]
  go_wp2_with fail
  refine HE.out.mono ?_
  rintro e w3 ⟨rfl, hb3⟩
  have HB3 := Lib.hid hb3
  clear hb3
  have e1 : VM.expand (setMap (fun _ => none) 0 (⟨#[97]⟩ : ByteArray).data.toList (⟨#[120]⟩ : ByteArray).data.toList) [36, 97, 46, 36, 36] = some [120, 46, 36] := by decide +kernel
  rw [e1]
  simp only [Option.isSome_some, Option.getD_some]
  go_wp2_with fail
  go_ret
  exact ⟨rfl, HB2.out.trans (HB3.out.mono (by rw [HZ2.out, HZ1.out]; omega))⟩
theorem double_le (l : Bs) : (VM.double l).length ≤ 2 * l.length := by
  induction l with
  | nil => simp [VM.double]
  | cons c r ih => unfold VM.double; split <;> simp <;> omega
theorem bare_le (l : Bs) : (VM.bare l).length ≤ l.length := List.length_filter_le _ _
theorem double_append (a b : Bs) : VM.double (a ++ b) = VM.double a ++ VM.double b := by
  induction a with
  | nil => rfl
  | cons c r ih => simp only [List.cons_append, VM.double]; split <;> simp [ih]
theorem bare_append (a b : Bs) : VM.bare (a ++ b) = VM.bare a ++ VM.bare b := by simp [VM.bare]
theorem take_snoc (s : ByteArray) (k : Nat) (h : k < s.size) : s.data.toList.take (k + 1) = s.data.toList.take k ++ [s[k]] := by
  rw [List.take_succ_eq_append_getElem (by simpa using h)]; rfl
theorem cat_mk (a b : Bs) : (⟨a.toArray⟩ : ByteArray) ++ ⟨b.toArray⟩ = ⟨(a ++ b).toArray⟩ := by
  apply ByteArray.ext; simp
theorem ext_one (s : ByteArray) (k : Nat) (h : k < s.size) : s.extract k (k + 1) = ⟨[s[k]].toArray⟩ := by
  rw [ext_eq]
  have : (s.data.toList.drop k).take (k + 1 - k) = [s[k]] := by
    rw [List.drop_eq_getElem_cons (by simpa using h)]
    simp; rfl
  rw [this]

theorem take_size_le (l : Bs) (n : Nat) : (⟨(l.take n).toArray⟩ : ByteArray).size ≤ n := by
  have : (⟨(l.take n).toArray⟩ : ByteArray).size = (l.take n).length := by simp [ByteArray.size]
  rw [this, List.length_take]; omega

theorem ML.pos {w : World} (h : ML w) : 0 < w.heap.size := by
  obtain ⟨m, hm⟩ := h
  rcases Nat.eq_zero_or_pos w.heap.size with h | h
  · simp [World.cell?, Array.eq_empty_of_size_eq_zero h] at hm
  · exact h
theorem chain {w w1 w2 : World} (h : Below w.heap.size w w1) (h2 : Below w1.heap.size w1 w2) : Below w.heap.size w w2 := h.trans (h2.mono h.size)
end Go.Proofs.YtlggegjjhbknaaaDoor
