import Derived.Test.YtlggegjjhbknaaaDoorVrp
namespace Go.Proofs.YtlggegjjhbknaaaDoor
open Go.RowKit Go.Shelf Go.Lib Go.Maps Go.WideMaps

def txt : VM.Tok → Bs | .ch c => [c] | .nm s => s
def isNm : VM.Tok → Bool | .ch _ => false | .nm _ => true

/-- A slice that reads as pieces. -/
def RT (w : World) (v : Value) (l : List VM.Tok) : Prop :=
  (v = .slice none 0 0 ∧ l = []) ∨ ∃ g c, v = .slice (some ⟨g, 0, none⟩) l.length c ∧ g < w.heap.size ∧ ∀ i t, l[i]? = some t → w.cell? ⟨g, i * 2, none⟩ = some (.string ⟨(txt t).toArray⟩) ∧ w.cell? ⟨g, i * 2 + 1, none⟩ = some (.bool (isNm t))

theorem tokV_at (l : List VM.Tok) (i : Nat) (t : VM.Tok) (h : l[i]? = some t) : (tokV l)[i * 2]? = some (.string ⟨(txt t).toArray⟩) ∧ (tokV l)[i * 2 + 1]? = some (.bool (isNm t)) := by
  induction l generalizing i with
  | nil => simp at h
  | cons x r ih =>
    cases i with
    | zero =>
      simp at h; subst h
      cases x <;> simp [tokV, txt, isNm]
    | succ i =>
      have h' : r[i]? = some t := by simpa using h
      have e : tokV (x :: r) = tokV [x] ++ tokV r := by simp [tokV]
      have e2 : (tokV [x]).length = 2 := by cases x <;> rfl
      have := ih i h'
      rw [e, List.getElem?_append_right (by omega), List.getElem?_append_right (by omega), e2]
      have a1 : (i + 1) * 2 - 2 = i * 2 := by omega
      have a2 : (i + 1) * 2 + 1 - 2 = i * 2 + 1 := by omega
      rw [a1, a2]; exact this

theorem OwnT.reads {B : Nat} {w : World} {v : Value} {l : List VM.Tok} (h : OwnT B w v l) : RT w v l := by
  have h0 := h
  have hlen : (tokV l).length = l.length * 2 := h.1
  rcases h.2 with ⟨rfl, hn⟩ | ⟨g, cap, cur, rfl, _, hh, _⟩
  · exact .inl ⟨rfl, List.length_eq_zero_iff.1 hn⟩
  · refine .inr ⟨g, cap, rfl, lt_of_block hh, fun i t ht => ?_⟩
    have hi : i < l.length := (List.getElem?_eq_some_iff.1 ht).1
    rw [h0.cellAt (i * 2) (by omega), h0.cellAt (i * 2 + 1) (by omega)]
    exact tokV_at l i t ht

theorem RT.below {w w' : World} {v : Value} {l : List VM.Tok} (h : RT w v l) (hk : Below w.heap.size w w') : RT w' v l := by
  rcases h with h | ⟨g, c, rfl, hg, hc⟩
  · exact .inl h
  · refine .inr ⟨g, c, rfl, Nat.lt_of_lt_of_le hg hk.size, fun j x hx => ?_⟩
    rw [hk.cell (p := ⟨g, j * 2, none⟩) hg, hk.cell (p := ⟨g, j * 2 + 1, none⟩) hg]
    exact hc j x hx

theorem names_take (l : List VM.Tok) (k : Nat) (hk : k < l.length) : VM.names (l.take (k + 1)) = if isNm l[k] then VM.names (l.take k) ++ [txt l[k]] else VM.names (l.take k) := by
  rw [List.take_succ_eq_append_getElem hk, VM.names_append]
  cases l[k] <;> simp [VM.names, isNm, txt]

/-- One text more. -/
theorem wpList_append_one {w : World} {ops : Array Oper} {rest : List Oper} {o : Oper} {a : Act} {Q : Exit → Act → World → Prop} (hgd : o.guard = none) (s x : Operand)
    (ho : o.op = .call { callee := .builtin .append, args := #[s, x], argTypes := #[34, 34] }) (B : Nat) (v : Value) (l : List Bs) (t : Bs) (w0 : World) (cs : Array Value) (hcs : cs = #[.string ⟨t.toArray⟩]) (hw : w = w0.alloc (.cells cs 9)) (hown : OwnS B w0 v l) (hs : a.eval s = v) (hx : a.eval x = .slice (some ⟨w0.heap.size, 0, none⟩) 1 1)
    (hlen : l.length ≤ 100000) (hB : B ≤ w0.heap.size)
    (h : ∀ v' w', OwnS B w' v' (l ++ [t]) → w0.grownBy w' v.ownBlock → wpList Tryd.prog ops Q rest (a.put o.dst v') w') : wpList Tryd.prog ops Q (o :: rest) a w := by
  obtain ⟨i0, hi, hz0, hz1, hz2⟩ := info_parts info9
  subst hw
  subst hcs
  refine wpList_append_own _ hgd s x 34 ho B 9 i0 _ 1 16 Tryd.underlying34 hi hz0 hz1 hz2 rfl (by decide) v _ _ hs (World.ownsRow.alloc hown _) ⟨w0.heap.size, 0, none⟩ 1 1 [.string ⟨t.toArray⟩] hx rfl ?_ ?_ (by unfold maxLen; omega) (by omega) (by simp; omega) ?_
  · exact cell_one_new _ _ _
  · intro u hu; simp at hu; subst hu; rfl
  · intro v' w' ho' hg _
    have hg1 := (World.grownBy_alloc w0 (.cells #[.string ⟨t.toArray⟩] 9) v.ownBlock).trans hg
    refine h v' w' ?_ hg1
    unfold OwnS; simpa [strV] using ho'

theorem OwnS.grown_below {B : Nat} {w w' : World} {v : Value} {l : List Bs} (h : OwnS B w v l) (hg : w.grownBy w' v.ownBlock) (hB : B ≤ w.heap.size) : Below B w w' := by
  refine (Below.refl B w).grown hg hB (fun j hj => ?_)
  rcases h.2 with ⟨rfl, _⟩ | ⟨g, cap, cur, rfl, hg, _⟩
  · simp [Value.ownBlock] at hj
  · simp [Value.ownBlock] at hj; omega

theorem RT.grown {B : Nat} {w w' : World} {v u : Value} {l : List VM.Tok} {l2 : List Bs} (h : RT w v l) (hlt : ∀ g, v.ownBlock = some g → g < B) (hB : B ≤ w.heap.size) (hu : OwnS B w u l2) (hg : w.grownBy w' u.ownBlock) : RT w' v l := by
  have hb := hu.grown_below hg hB
  rcases h with h | ⟨g, c, rfl, hgl, hc⟩
  · exact .inl h
  · have hgB := hlt g rfl
    refine .inr ⟨g, c, rfl, Nat.lt_of_lt_of_le hgl hg.size, fun j x hx => ?_⟩
    rw [hb.cell (p := ⟨g, j * 2, none⟩) hgB, hb.cell (p := ⟨g, j * 2 + 1, none⟩) hgB]
    exact hc j x hx

theorem OwnT.ltB {B : Nat} {w : World} {v : Value} {l : List VM.Tok} (h : OwnT B w v l) : ∀ g, v.ownBlock = some g → g < w.heap.size := by
  intro g e
  rcases h.2 with ⟨rfl, _⟩ | ⟨g', cap, cur, rfl, _, hh, _⟩
  · simp [Value.ownBlock] at e
  · simp [Value.ownBlock] at e; subst e; exact lt_of_block hh

def RNamesEnd (t : Bs) (w : World) (e : Ending) (w' : World) : Prop :=
  ∃ v, e = .returned (.tuple #[v, .bool (namesOf t).isSome]) ∧ OwnS w.heap.size w' v ((namesOf t).getD []) ∧ Below w.heap.size w w'

set_option maxHeartbeats 4000000 in
theorem rnames_any (w : World) (t : ByteArray) (ht : t.size ≤ 10000) :
    Calls Tryd.prog 18 #[.string t] w (RNamesEnd t.data.toList w) := by
  have hp := parts_any w t ht
  unfold PartsEnd at hp
  have hpl := parse_len .norm t.data.toList
  have hno : namesOf t.data.toList = (VM.parse .norm t.data.toList).map VM.names := rfl
  generalize VM.parse .norm t.data.toList = P at hp hpl hno
  have HP := Lib.hid hp
  have HPL := Lib.hid hpl
  have HNO := Lib.hid hno
  clear hp hpl hno
  go_enter Tryd.func18, Tryd.ntmps18
  go_wp2_with fail
  refine HP.out.mono ?_
  rintro e w1 ⟨v, rfl, hown, hb1⟩
  obtain ⟨L, hL⟩ : ∃ L, P.getD [] = L := ⟨_, rfl⟩
  rw [hL] at hown
  have hll : L.length ≤ 20000 := by
    cases P with
    | none => simp at hL; subst hL; simp
    | some q => simp at hL; subst hL; have := HPL.out q rfl; simp at this; omega
  have hrt := hown.reads
  have hlt := hown.ltB
  have hnl : namesOf t.data.toList = P.map VM.names := HNO.out
  have hgd : (P.map VM.names).getD [] = VM.names L := by rw [← hL]; cases P <;> rfl
  have his : (P.map VM.names).isSome = P.isSome := by cases P <;> rfl
  have goal : ∀ v w', OwnS w.heap.size w' v (VM.names L) → Below w.heap.size w w' → RNamesEnd t.data.toList w (.returned (.tuple #[v, .bool P.isSome])) w' := by
    intro v w' h1 h2
    unfold RNamesEnd
    rw [hnl, hgd, his]
    exact ⟨v, rfl, h1, h2⟩
  have GOAL := Lib.hid goal
  have HLT := Lib.hid hlt
  have HB1 := Lib.hid hb1
  have hk0 : Below w1.heap.size w1 (w1.alloc (.cells #[] 9)) := (Below.refl _ _).alloc (Nat.le_refl _) _
  have ho0 := own_empty w1
  have hrt0 := hrt.below hk0
  have HK0 := Lib.hid hk0
  have HO0 := Lib.hid ho0
  generalize P.isSome = ok at GOAL ⊢
  clear hnl hgd his goal hlt hb1 hown hL HP HPL HNO hrt hk0 ho0
  rcases hrt0 with ⟨rfl, rfl⟩ | ⟨g, c, rfl, hgl, hcell⟩
  · go_wp2_with fail
    go_loopg [6, 7] 0 (fun gg ov iv wr => ov = .slice (some ⟨w1.heap.size, 0, none⟩) 0 0 ∧ iv = .int .i64 0 ∧ wr = w1.alloc (.cells #[] 9))
    case atStart => exact ⟨rfl, rfl, rfl⟩
    case round =>
      obtain ⟨rfl, rfl, rfl⟩ := hrel
      go_wp2_with fail
      go_ret2
      exact GOAL.out _ _ ⟨HO0.out.1, .inr (by
        rcases HO0.out.2 with ⟨h, _⟩ | ⟨g, cap, cur, hv, hg, r⟩
        · cases h
        · exact ⟨g, cap, cur, hv, Nat.le_trans HB1.out.size hg, r⟩)⟩ (HB1.out.trans (HK0.out.mono HB1.out.size))
  · have hg1 : g < w1.heap.size := HLT.out g rfl
    have HC := Lib.hid hcell
    clear hcell
    go_wp2_with fail
    go_loopg [6, 7] L.length (fun gg ov iv wr => ∃ i : Nat, i ≤ L.length ∧ gg = L.length - i ∧ iv = .int .i64 i ∧ OwnS w1.heap.size wr ov (VM.names (L.take i)) ∧ Below w1.heap.size w1 wr ∧ w1.heap.size ≤ wr.heap.size)
    case atStart => exact ⟨0, by omega, by omega, rfl, HO0.out, HK0.out, HK0.out.size⟩
    case round =>
      obtain ⟨i, hi, rfl, rfl, ho, hb, hz⟩ := hrel
      have HB := Lib.hid hb
      have HO := Lib.hid ho
      clear hb ho
      by_cases hlt : i < L.length
      · have hc := HC.out i L[i] (List.getElem?_eq_getElem hlt)
        have hcb : ∀ j, wr.cell? ⟨g, j, none⟩ = (w1.alloc (.cells #[] 9)).cell? ⟨g, j, none⟩ := fun j => by
          rw [HB.out.cell (p := ⟨g, j, none⟩) hg1, HK0.out.cell (p := ⟨g, j, none⟩) hg1]
        rw [← hcb, ← hcb] at hc
        obtain ⟨hc1, hc2⟩ := hc
        have hnt := names_take L i hlt
        have hln : (VM.names (L.take i)).length ≤ L.length := by
          have h1 : (VM.names (L.take i)).length ≤ (L.take i).length := List.length_filterMap_le _ _
          rw [List.length_take] at h1; omega
        have HNT := Lib.hid hnt
        have HLN := Lib.hid hln
        clear hcb hnt hln
        generalize L[i] = tk at hc1 hc2 HNT
        generalize isNm tk = bb at hc2 HNT
        generalize txt tk = x at hc1 HNT
        cases bb with
        | true =>
          go_wp2_with (at_builtin; refine wpList_append_one rfl _ _ rfl w1.heap.size _ _ x _ _ rfl rfl HO.out rfl rfl (by have := HLN.out; omega) hz ?_; intro v1 w2 o1 g1; have O1 := Lib.hid o1; have G1 := Lib.hid g1; clear o1 g1)
          go_roundg (L.length - (i + 1))
          case measure => omega
          case rel =>
            have hb2 := HO.out.grown_below G1.out hz
            refine ⟨i + 1, by omega, rfl, by go_num, ?_, HB.out.trans hb2, Nat.le_trans hz G1.out.size⟩
            rw [HNT.out]
            simpa using O1.out
        | false =>
          go_wp2_with fail
          go_roundg (L.length - (i + 1))
          case measure => omega
          case rel =>
            refine ⟨i + 1, by omega, rfl, by go_num, ?_, HB.out, hz⟩
            rw [HNT.out]
            simpa using HO.out
      · go_wp2_with fail
        go_ret2
        have e : i = L.length := by omega
        subst e
        have ho := HO.out
        rw [List.take_length] at ho
        exact GOAL.out _ _ ⟨ho.1, by
          rcases ho.2 with h | ⟨g, cap, cur, hv, hg, r⟩
          · exact .inl h
          · exact .inr ⟨g, cap, cur, hv, Nat.le_trans HB1.out.size hg, r⟩⟩ (HB1.out.trans (HB.out.mono HB1.out.size))
end Go.Proofs.YtlggegjjhbknaaaDoor
