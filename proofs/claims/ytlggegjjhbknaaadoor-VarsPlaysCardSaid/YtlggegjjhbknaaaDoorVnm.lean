import Derived.Test.YtlggegjjhbknaaaDoorVx2
namespace Go.Proofs.YtlggegjjhbknaaaDoor
open Go.RowKit Go.Shelf Go.Lib Go.Maps Go.WideMaps

def strV (l : List Bs) : List Value := l.map fun x => .string ⟨x.toArray⟩

/-- The captured slice of names: block lb holds v; v owns the names. -/
structure NamInv (lb : Nat) (l : List Bs) (w : World) : Prop where
  ex : ∃ v, w.heap[lb]? = some (.cells #[v] 34 (0, 0)) ∧ w.ownsRow (lb + 1) 9 1 v l.length (strV l)
  ml : ML w
  pos : 0 < lb

theorem info9 : (Tryd.prog.info? 9).map (fun i => (i.zero, i.size, i.bytes)) = some (some (.string ⟨#[]⟩), 1, 16) := by kernel_rfl

set_option maxHeartbeats 1000000 in
theorem nameadd_any {lb : Nat} {l : List Bs} {w : World} (h : NamInv lb l w) (hl : l.length ≤ 100000) (s : Bs) :
    Calls Tryd.prog 29 #[.string ⟨s.toArray⟩, .pointer (some ⟨lb, 0, none⟩)] w fun e w' => e = .returned (.bool true) ∧ NamInv lb (l ++ [s]) w' ∧ Below lb w w' := by
  obtain ⟨⟨v, hv, hown⟩, hml, hpos⟩ := h
  obtain ⟨i0, hi, hz0, hz1, hz2⟩ := info_parts info9
  have hc := cell_of_one hv
  have hfz := free_of_one hv
  have hlt := lt_of_block hv
  go_enter Tryd.func29, Tryd.ntmps29
  go_wp2_with (at_builtin; refine wpList_append_own _ rfl _ _ 34 rfl (lb + 1) 9 i0 (.string ⟨#[]⟩) 1 16 Tryd.underlying34 hi hz0 hz1 hz2 rfl (by decide) _ _ _ rfl (hown.alloc _) ⟨w.heap.size, 0, none⟩ 1 1 [.string ⟨s.toArray⟩] rfl rfl ?c1 ?c2 ?c3 ?c4 ?c5 ?_)
  case c1 => exact cell_one_new _ _ _
  case c2 => intro u hu; simp at hu; subst hu; rfl
  case c3 => unfold maxLen; omega
  case c4 => omega
  case c5 => simp; omega
  intro v' w1 hown' hgrow _
  have hg1 := (World.grownBy_alloc w (.cells #[.string ⟨s.toArray⟩] 9) v.ownBlock).trans hgrow
  have hne : v.ownBlock ≠ some lb := by
    rcases hown.2 with ⟨rfl, _⟩ | ⟨g, cap, cur, rfl, hg, _⟩
    · simp [Value.ownBlock]
    · simp [Value.ownBlock]; omega
  have hv1 : w1.heap[lb]? = some (.cells #[v] 34 (0, 0)) := (hg1.block lb hlt (Ne.symm hne)).trans hv
  have hbel : Below lb w w1 := (Below.refl lb w).grown hg1 (by omega) (fun j hj => by
    rcases hown.2 with ⟨rfl, _⟩ | ⟨g, cap, cur, rfl, hg, _⟩
    · simp [Value.ownBlock] at hj
    · simp [Value.ownBlock] at hj; omega)
  have hml1 := hml.below hbel hpos
  have hc1 := cell_of_one hv1
  have hfz1 := free_of_one hv1
  have hown2 := hown'
  rcases hown'.2 with ⟨_, h0⟩ | ⟨g, cap, cur, rfl, hg, _⟩
  · omega
  have HO := Lib.hid hown2
  have HV := Lib.hid hv1
  have HB := Lib.hid hbel
  clear hown hown' hown2 hgrow hg1 hv hv1 hbel hne hc hfz
  go_wp2
  go_ret
  refine ⟨rfl, ⟨⟨_, one_setCell HV.out, ?_⟩, ?_, hpos⟩, HB.out.setCell (Nat.le_refl _) _⟩
  · have := ownsRow_setCell_other HO.out (a := ⟨lb, 0, none⟩) (by simp [Value.ownBlock]; omega) (.slice (some ⟨g, 0, none⟩) (l.length + 1) cap)
    simpa [strV] using this
  · exact hml.below (HB.out.setCell (Nat.le_refl _) _) hpos
theorem nothing_any (s : ByteArray) (w : World) : Calls Tryd.prog 28 #[.string s] w fun e w' => e = .returned (.tuple #[]) ∧ w' = w := by
  go_enter Tryd.func28, Tryd.ntmps28
  go_wp2
  go_end0
  exact ⟨rfl, rfl⟩

def namesOf (t : Bs) : Option (List Bs) := (VM.parse .norm t).map VM.names

theorem NamInv.below {lb : Nat} {l : List Bs} {w w' : World} (h : NamInv lb l w) (hb : Below w.heap.size w w') : NamInv lb l w' := by
  obtain ⟨⟨v, hv, hown⟩, hml, hpos⟩ := h
  have hlt := lt_of_block hv
  refine ⟨⟨v, (hb.block lb hlt).trans hv, hown.1, ?_⟩, hml.below hb (by omega), hpos⟩
  rcases hown.2 with h0 | ⟨g, cap, cur, hv, hg, hh, r⟩
  · exact .inl h0
  · exact .inr ⟨g, cap, cur, hv, hg, (hb.block g (lt_of_block hh)).trans hh, r⟩

theorem NamInv.lt {lb : Nat} {l : List Bs} {w : World} (h : NamInv lb l w) : lb < w.heap.size := by
  obtain ⟨⟨v, hv, _⟩, _⟩ := h
  exact lt_of_block hv

def NamRel (lb : Nat) (t : Bs) (w : World) (tv : Value) (wr : World) : Prop :=
  ∃ (tk : Bs) (l : List Bs), tv = .string ⟨tk.toArray⟩ ∧ tk.length ≤ t.length ∧ NamInv lb l wr ∧ Below lb w wr ∧ l.length + tk.length ≤ t.length ∧ namesOf t = (namesOf tk).map (l ++ ·)

def NamEnd (lb : Nat) (t : Bs) (w : World) (e : Ending) (w' : World) : Prop :=
  e = .returned (.bool (namesOf t).isSome) ∧ (∀ r, namesOf t = some r → NamInv lb r w') ∧ Below lb w w'

set_option maxHeartbeats 1000000 in
theorem each_names {lb : Nat} {w : World} (h : NamInv lb [] w) (t : Bs) (ht : t.length ≤ 10000) :
    Calls Tryd.prog 23 #[.string ⟨t.toArray⟩, .func (.func 28) #[] #[], .func (.func 29) #[] #[.pointer (some ⟨lb, 0, none⟩)]] w (NamEnd lb t w) := by
  have HI := Lib.hid h
  clear h
  go_enter Tryd.func23, Tryd.ntmps23
  go_wp2_with fail
  go_loopw [0] (fun tv wr => NamRel lb t w tv wr) (fun tv _ => strLen tv)
  case atStart =>
    exact ⟨t, [], rfl, Nat.le_refl _, HI.out, Below.refl _ _, by simp, by cases namesOf t <;> rfl⟩
  case round =>
    obtain ⟨tk, l, rfl, hlen, hinv, hbel, hacc, hexp⟩ := hrel
    have HE := Lib.hid hexp
    have HV := Lib.hid hinv
    have HB := Lib.hid hbel
    clear hexp hinv hbel
    rcases SP.one_cases tk 36 with ⟨h1, _⟩ | ⟨a, r, h1, h2, _⟩
    · have hc := cutc tk wr HV.out.ml (by omega)
      rw [SP.cut_none h1] at hc
      have HC := Lib.hid hc
      clear hc
      go_wp2_with (first | (go_at_call 33; refine HC.out.mono ?_; rintro e w1 ⟨rfl, k, rfl⟩) | (go_at_call 28; refine (nothing_any _ _).mono ?_; rintro e w1 ⟨rfl, rfl⟩))
      go_ret
      have e1 : namesOf tk = some [] := by unfold namesOf; rw [VM.parse_plain tk h1]; exact congrArg some (VM.names_chars tk)
      have e2 := HE.out
      rw [e1] at e2
      simp only [Option.map_some, List.append_nil] at e2
      have hb5 : Below wr.heap.size wr (wr.drewN k) := below_drewN (Below.refl _ _) k
      refine ⟨by rw [e2]; rfl, fun r hr => ?_, HB.out.trans (hb5.mono (Nat.le_of_lt HV.out.lt))⟩
      rw [e2] at hr
      injection hr with hr
      subst hr
      exact HV.out.below hb5
    · subst h1
      have hc := cutc (a ++ 36 :: r) wr HV.out.ml (by omega)
      rw [SP.cut_at h2] at hc
      have HC := Lib.hid hc
      clear hc
      have hl2 : a.length + r.length + 1 ≤ t.length := by simpa [Nat.add_assoc] using hlen
      have hacc2 : l.length + (a.length + (r.length + 1)) ≤ t.length := by simpa using hacc
      go_wp2_with (first | (go_at_call 33; refine HC.out.mono ?_; rintro e w1 ⟨rfl, k, rfl⟩) | (go_at_call 28; refine (nothing_any _ _).mono ?_; rintro e w1 ⟨rfl, rfl⟩))
      have hb5 : Below wr.heap.size wr (wr.drewN k) := below_drewN (Below.refl _ _) k
      have h3 := HV.out.below hb5
      have hcu := cut_any r (wr.drewN k) (by omega) h3.ml
      have H3 := Lib.hid h3
      have HB3 := Lib.hid hb5
      clear h3 hb5
      rcases hcs : VM.cutS r with ⟨s, beh, ok⟩
      rw [hcs] at hcu
      dsimp only at hcu
      have HCS := Lib.hid hcs
      have HCU := Lib.hid hcu
      clear hcs hcu
      cases ok with
      | false =>
        refine HCU.out.mono ?_
        rintro e w4 ⟨rfl, hb4⟩
        have HB4 := Lib.hid hb4
        clear hb4
        go_wp2_with fail
        go_ret
        have e0 := VM.parse_sign_bad r (by rw [HCS.out])
        have e1 : namesOf (a ++ 36 :: r) = none := by unfold namesOf; rw [VM.parse_ahead a r h2, e0]; rfl
        have e2 := HE.out
        rw [e1] at e2
        simp only [Option.map_none] at e2
        refine ⟨by rw [e2]; rfl, fun r hr => ?_, HB.out.trans ((HB3.out.mono (Nat.le_of_lt HV.out.lt)).trans (HB4.out.mono (Nat.le_of_lt H3.out.lt)))⟩
        rw [e2] at hr
        cases hr
      | true =>
        have hbl := VM.cutS_len r s beh HCS.out
        refine HCU.out.mono ?_
        rintro e w4 ⟨rfl, hb4⟩
        have h4 := H3.out.below hb4
        have H4 := Lib.hid h4
        have HB4 := Lib.hid hb4
        clear hb4 h4
        by_cases hs : s = [36]
        · subst hs
          go_wp2_with (go_at_call 28; refine (nothing_any _ _).mono ?_; rintro e w1 ⟨rfl, rfl⟩)
          go_roundw
          case rel =>
            refine ⟨beh, _, rfl, by simp at hlen ⊢; omega, H4.out, HB.out.trans ((HB3.out.mono (Nat.le_of_lt HV.out.lt)).trans (HB4.out.mono (Nat.le_of_lt H3.out.lt))), by omega, ?_⟩
            rw [HE.out]
            unfold namesOf
            rw [VM.parse_ahead a r h2, VM.parse_sign_sign r beh HCS.out]
            cases VM.parse .norm beh with
            | none => rfl
            | some l => simp [VM.cons?, VM.cat?, VM.names]
          case measure => simp [strLen, ByteArray.size]; omega
        · have hsb : (s == [36]) = false := by simpa using hs
          have hn := nameadd_any H4.out (by omega) s
          have HN := Lib.hid hn
          clear hn
          go_wp2_with fail
          refine HN.out.mono ?_
          rintro e w5 ⟨rfl, h5, hb5⟩
          have H5 := Lib.hid h5
          have HB5 := Lib.hid hb5
          clear h5 hb5
          go_wp2_with fail
          go_roundw
          case rel =>
            refine ⟨beh, _, rfl, by simp at hlen ⊢; omega, H5.out, HB.out.trans ((HB3.out.mono (Nat.le_of_lt HV.out.lt)).trans ((HB4.out.mono (Nat.le_of_lt H3.out.lt)).trans HB5.out)), by simp; omega, ?_⟩
            rw [HE.out]
            unfold namesOf
            rw [VM.parse_ahead a r h2, VM.parse_sign_name r s beh HCS.out hs]
            cases VM.parse .norm beh with
            | none => rfl
            | some l => simp [VM.cons?, VM.cat?, VM.names]
          case measure => simp [strLen, ByteArray.size]; omega
end Go.Proofs.YtlggegjjhbknaaaDoor
