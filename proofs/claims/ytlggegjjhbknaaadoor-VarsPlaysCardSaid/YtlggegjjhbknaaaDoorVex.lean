import Derived.Test.YtlggegjjhbknaaaDoorVst
import Derived.Deep.LoopGhost
namespace Go.Proofs.YtlggegjjhbknaaaDoor
open Go.RowKit Go.Shelf Go.Lib Go.Maps Go.WideMaps

/-- What stands while a text is expanded: the builder at block bb holds acc; the captured receiver at block vb; what it leads to. -/
structure ExpInv (bb vb p b : Nat) (f : KV) (n : Nat) (acc : Bs) (w : World) : Prop where
  bld : Lib.IsBuilder 52 5 bb bb (Lib.byteCells acc) w
  cv : w.heap[vb]? = some (.cells #[.pointer (some ⟨p, 0, none⟩)] 24 (0, 0))
  vars : VarsAt w p b f n
  ml : ML w
  lv : vb < bb
  lp : p < bb
  lb : b < bb

theorem ML.below {B : Nat} {w w' : World} (h : ML w) (hb : Below B w w') (h0 : 0 < B) : ML w' := by
  obtain ⟨m, hm⟩ := h
  exact ⟨m, (hb.cell (p := ⟨0, 0, none⟩) h0).trans hm⟩

theorem ExpInv.ltb {bb vb p b n : Nat} {f : KV} {acc : Bs} {w : World} (h : ExpInv bb vb p b f n acc w) : bb < w.heap.size := by
  rcases h.bld with h | h <;> exact h.lt

theorem ExpInv.next {bb vb p b n : Nat} {f : KV} {acc acc' : Bs} {w w' : World} (h : ExpInv bb vb p b f n acc w) (hb : Below bb w w') (hbl : Lib.IsBuilder 52 5 bb bb (Lib.byteCells acc') w') : ExpInv bb vb p b f n acc' w' :=
  ⟨hbl, (hb.block vb h.lv).trans h.cv, h.vars.below hb h.lp h.lb, h.ml.below hb (by have := h.lv; omega), h.lv, h.lp, h.lb⟩

theorem byteCells_append (a : Bs) (s : ByteArray) : Lib.byteCells a ++ Lib.strCells s = Lib.byteCells (a ++ s.data.toList) := by
  simp [Lib.byteCells, Lib.strCells]

theorem byteCells_length (a : Bs) : (Lib.byteCells a).length = a.length := by simp [Lib.byteCells]

/-- func(s string) { b.WriteString(s) } -/
theorem plain_any {bb vb p b n : Nat} {f : KV} {acc : Bs} {w : World} (h : ExpInv bb vb p b f n acc w) (s : ByteArray) (hl : acc.length + s.size ≤ 1000000000) :
    Calls Tryd.prog 24 #[.string s, .pointer (some ⟨bb, 0, none⟩)] w fun e w' => e = .returned (.tuple #[]) ∧ ExpInv bb vb p b f n (acc ++ s.data.toList) w' ∧ Below bb w w' := by
  have hws := Tryd.Builder_WriteString bb bb (Lib.byteCells acc) s w h.bld (by rw [byteCells_length]; omega) (Nat.le_of_lt h.ltb)
  have HI := Lib.hid h
  clear h
  go_enter Tryd.func24, Tryd.ntmps24
  go_wp2_with (go_at_call 25; refine hws.mono ?_; rintro e w' ⟨rfl, hbd, hb⟩)
  go_end0
  rw [byteCells_append] at hbd
  exact ⟨rfl, HI.out.next hb (.inr hbd), hb⟩

/-- func(name string) bool { s, is := v.m[name]; b.WriteString(s); return is } -/
theorem name_any {bb vb p b n : Nat} {f : KV} {acc : Bs} {w : World} (h : ExpInv bb vb p b f n acc w) (s : ByteArray) (hs : s.size ≤ maxLen) (hl : acc.length + ((f s.data.toList).getD []).length ≤ 1000000000) :
    Calls Tryd.prog 26 #[.string s, .pointer (some ⟨vb, 0, none⟩), .pointer (some ⟨bb, 0, none⟩)] w fun e w' => e = .returned (.bool (f s.data.toList).isSome) ∧ ExpInv bb vb p b f n (acc ++ (f s.data.toList).getD []) w' ∧ Below bb w w' := by
  have hsz : (⟨((f s.data.toList).getD []).toArray⟩ : ByteArray).size = ((f s.data.toList).getD []).length := by simp [ByteArray.size]
  have hws := Tryd.Builder_WriteString bb bb (Lib.byteCells acc) ⟨((f s.data.toList).getD []).toArray⟩ w h.bld (by rw [byteCells_length, hsz]; omega) (Nat.le_of_lt h.ltb)
  rw [byteCells_append] at hws
  dsimp only at hws
  have hc := cell_of_one h.cv
  have hc2 := cell_of_one h.vars.cell
  have hlk := h.vars.map.look s hs
  have HI := Lib.hid h
  clear h
  generalize hr : (⟨((f s.data.toList).getD []).toArray⟩ : ByteArray) = r at hlk hws
  clear hr hsz hl
  go_enter Tryd.func26, Tryd.ntmps26
  go_wp2_with (go_at_call 25; refine hws.mono ?_; rintro e w' ⟨rfl, hbd, hb⟩)
  go_ret
  exact ⟨rfl, HI.out.next hb (.inr hbd), hb⟩

theorem ExpInv.drewN {bb vb p b n : Nat} {f : KV} {acc : Bs} {w : World} (h : ExpInv bb vb p b f n acc w) (k : Nat) : ExpInv bb vb p b f n acc (w.drewN k) :=
  h.next (below_drewN (Below.refl _ _) k) (by
    rcases h.bld with h | h
    · exact .inl h
    · exact .inr h)

theorem keep_builder {T e : TypeId} {B b : Nat} {bs : List Value} {w w' : World} (h : Lib.IsBuilder T e B b bs w) (hb : Below w.heap.size w w') : Lib.IsBuilder T e B b bs w' := by
  have key : ∀ p, Lib.BuilderAt T e B b p bs w → Lib.BuilderAt T e B b p bs w' := by
    intro p h
    have hlt := h.lt
    obtain ⟨hB, v, hbk, hown, hne⟩ := h
    refine ⟨hB, v, (hb.block b hlt).trans hbk, ⟨hown.1, ?_⟩, hne⟩
    rcases hown.2 with h0 | ⟨g, cap, cur, hv, hg, hh, r⟩
    · exact .inl h0
    · exact .inr ⟨g, cap, cur, hv, hg, (hb.block g (lt_of_block hh)).trans hh, r⟩
  exact h.imp (key _) (key _)

theorem cutc (t : Bs) (w : World) (hw : ML w) (hs : t.length < 4294967281) :
    Calls Tryd.prog 33 #[.string ⟨t.toArray⟩, .string ⟨#[36]⟩] w fun e w' => e = .returned (.tuple #[.string ⟨(Lib.cut t [36]).1.toArray⟩, .string ⟨(Lib.cut t [36]).2.1.toArray⟩, .bool (Lib.cut t [36]).2.2]) ∧ ∃ n, w' = w.drewN n := by
  obtain ⟨m, hm⟩ := hw
  exact Tryd.strings_Cut ⟨t.toArray⟩ ⟨#[36]⟩ m w (by simpa [ByteArray.size] using hs) hm

def strLen : Value → Nat
  | .string s => s.size
  | _ => 0

/-- What the loop carries: what is left of the text, and what the builder holds. -/
def EachRel (bb vb p b : Nat) (f : KV) (n : Nat) (t : Bs) (w : World) (tv : Value) (wr : World) : Prop :=
  ∃ tk acc : Bs, tv = .string ⟨tk.toArray⟩ ∧ tk.length ≤ t.length ∧ ExpInv bb vb p b f n acc wr ∧ Below bb w wr ∧ acc.length ≤ 1000 * (t.length - tk.length) ∧ VM.expand f t = (VM.expand f tk).map (acc ++ ·)

def EachEnd (bb vb p b : Nat) (f : KV) (n : Nat) (t : Bs) (w : World) (e : Ending) (w' : World) : Prop :=
  e = .returned (.bool (VM.expand f t).isSome) ∧ (∀ r, VM.expand f t = some r → ExpInv bb vb p b f n r w') ∧ Below bb w w'

set_option maxHeartbeats 1000000 in
theorem each_any {bb vb p b n : Nat} {f : KV} {w : World} (h : ExpInv bb vb p b f n [] w) (t : Bs) (ht : t.length ≤ 10000) (hf : ∀ k v, f k = some v → v.length ≤ 1000) :
    Calls Tryd.prog 23 #[.string ⟨t.toArray⟩, .func (.func 24) #[] #[.pointer (some ⟨bb, 0, none⟩)], .func (.func 26) #[] #[.pointer (some ⟨vb, 0, none⟩), .pointer (some ⟨bb, 0, none⟩)]] w (EachEnd bb vb p b f n t w) := by
  have HI := Lib.hid h
  have HF := Lib.hid hf
  clear h hf
  go_enter Tryd.func23, Tryd.ntmps23
  go_wp2_with fail
  go_loopw [0] (fun tv wr => EachRel bb vb p b f n t w tv wr) (fun tv _ => strLen tv)
  case atStart =>
    exact ⟨t, [], rfl, Nat.le_refl _, HI.out, Below.refl _ _, Nat.zero_le _, by cases VM.expand f t <;> rfl⟩
  case round =>
    obtain ⟨tk, acc, rfl, hlen, hinv, hbel, hacc, hexp⟩ := hrel
    have HE := Lib.hid hexp
    have HV := Lib.hid hinv
    have HB := Lib.hid hbel
    clear hexp hinv hbel
    rcases SP.one_cases tk 36 with ⟨h1, _⟩ | ⟨a, r, h1, h2, _⟩
    · have hc := cutc tk wr HV.out.ml (by omega)
      rw [SP.cut_none h1] at hc
      have HC := Lib.hid hc
      clear hc
      go_wp2_with (go_at_call 33; refine HC.out.mono ?_; rintro e w1 ⟨rfl, k, rfl⟩)
      have hp := plain_any (HV.out.drewN k) ⟨tk.toArray⟩ (by simp [ByteArray.size]; omega)
      have HP := Lib.hid hp
      clear hp
      refine HP.out.mono ?_
      rintro e w2 ⟨rfl, h2, hb2⟩
      have H2 := Lib.hid h2
      have HB2 := Lib.hid hb2
      clear h2 hb2
      go_wp2_with fail
      go_ret
      have e1 : VM.expand f tk = some tk := by unfold VM.expand; rw [VM.parse_plain tk h1]; exact VM.out_chars f tk
      have e2 := HE.out
      rw [e1] at e2
      simp only [Option.map_some] at e2
      refine ⟨by rw [e2]; rfl, fun r hr => ?_, HB.out.trans ((below_drewN (Below.refl _ _) k).trans HB2.out)⟩
      rw [e2] at hr
      injection hr with hr
      subst hr
      simpa using H2.out
    · subst h1
      have hc := cutc (a ++ 36 :: r) wr HV.out.ml (by omega)
      rw [SP.cut_at h2] at hc
      have HC := Lib.hid hc
      clear hc
      have hl2 : a.length + r.length + 1 ≤ t.length := by simpa [Nat.add_assoc] using hlen
      have hacc2 : acc.length ≤ 1000 * (t.length - (a.length + (r.length + 1))) := by simpa using hacc
      go_wp2_with (go_at_call 33; refine HC.out.mono ?_; rintro e w1 ⟨rfl, k, rfl⟩)
      have hp := plain_any (HV.out.drewN k) ⟨a.toArray⟩ (by simp [ByteArray.size]; omega)
      have HP := Lib.hid hp
      clear hp
      refine HP.out.mono ?_
      rintro e w2 ⟨rfl, h3, hb3⟩
      have hcu := cut_any r w2 (by omega) h3.ml
      have H3 := Lib.hid h3
      have HB3 := Lib.hid hb3
      clear h3 hb3
      rcases hcs : VM.cutS r with ⟨s, beh, ok⟩
      rw [hcs] at hcu
      dsimp only at hcu
      have HCS := Lib.hid hcs
      have HCU := Lib.hid hcu
      clear hcs hcu
      cases ok with
      | false =>
        go_wp2_with (go_at_call 34; refine HCU.out.mono ?_; rintro e w4 ⟨rfl, hb4⟩)
        go_ret
        have e0 := VM.parse_sign_bad r (by rw [HCS.out])
        have e1 : VM.expand f (a ++ 36 :: r) = none := by unfold VM.expand; rw [VM.parse_ahead a r h2, e0]; rfl
        have e2 := HE.out
        rw [e1] at e2
        simp only [Option.map_none] at e2
        refine ⟨by rw [e2]; rfl, fun r hr => ?_, HB.out.trans ((below_drewN (Below.refl _ _) k).trans (HB3.out.trans (hb4.mono (Nat.le_of_lt H3.out.ltb))))⟩
        rw [e2] at hr
        cases hr
      | true =>
        have hbl := VM.cutS_len r s beh HCS.out
        have hsl : s.length ≤ r.length := VM.cutS_name_len r s beh HCS.out
        by_cases hs : s = [36]
        · subst hs
          go_wp2_with (go_at_call 34; refine HCU.out.mono ?_; rintro e w4 ⟨rfl, hb4⟩)
          have h4 := H3.out.next (hb4.mono (Nat.le_of_lt H3.out.ltb)) (keep_builder H3.out.bld hb4)
          have hp5 := plain_any h4 ⟨#[36]⟩ (by simp [ByteArray.size]; omega)
          have HP5 := Lib.hid hp5
          have HB4 := Lib.hid hb4
          clear hp5 h4 hb4
          refine HP5.out.mono ?_
          rintro e w5 ⟨rfl, h5, hb5⟩
          have H5 := Lib.hid h5
          have HB5 := Lib.hid hb5
          clear h5 hb5
          go_wp2_with fail
          go_roundw
          case rel =>
            refine ⟨beh, _, rfl, by simp at hlen ⊢; omega, H5.out, HB.out.trans ((below_drewN (Below.refl _ _) k).trans (HB3.out.trans ((HB4.out.mono (Nat.le_of_lt H3.out.ltb)).trans HB5.out))), by simp; omega, ?_⟩
            rw [HE.out]
            unfold VM.expand
            rw [VM.parse_ahead a r h2, VM.parse_sign_sign r beh HCS.out]
            cases VM.parse .norm beh with
            | none => rfl
            | some l =>
              simp only [VM.cons?, VM.cat?, Option.bind_some, VM.out_append, VM.out_chars, VM.out]
              cases VM.out f l <;> simp
          case measure => simp [strLen, ByteArray.size]; omega
        · have hsb : (s == [36]) = false := by simpa using hs
          cases hfs : f s with
          | none =>
            go_wp2_with (go_at_call 34; refine HCU.out.mono ?_; rintro e w4 ⟨rfl, hb4⟩)
            have h4 := H3.out.next (hb4.mono (Nat.le_of_lt H3.out.ltb)) (keep_builder H3.out.bld hb4)
            have hn := name_any h4 ⟨s.toArray⟩ (by simp [ByteArray.size]; unfold maxLen; omega) (by simp [hfs]; omega)
            simp only [hfs, Option.isSome_none, Option.getD_none, List.append_nil] at hn
            have HN := Lib.hid hn
            have HB4 := Lib.hid hb4
            have HFS := Lib.hid hfs
            clear hn h4 hb4 hfs
            refine HN.out.mono ?_
            rintro e w5 ⟨rfl, h5, hb5⟩
            have H5 := Lib.hid h5
            have HB5 := Lib.hid hb5
            clear h5 hb5
            go_wp2_with fail
            go_ret
            have e1 : VM.expand f (a ++ 36 :: r) = none := by
              unfold VM.expand
              rw [VM.parse_ahead a r h2, VM.parse_sign_name r s beh HCS.out hs]
              cases VM.parse .norm beh with
              | none => rfl
              | some l => simp [VM.cons?, VM.cat?, VM.out_append, VM.out_chars, VM.out, HFS.out]
            have e2 := HE.out
            rw [e1] at e2
            simp only [Option.map_none] at e2
            refine ⟨by rw [e2]; rfl, fun r hr => ?_, HB.out.trans ((below_drewN (Below.refl _ _) k).trans (HB3.out.trans ((HB4.out.mono (Nat.le_of_lt H3.out.ltb)).trans HB5.out)))⟩
            rw [e2] at hr
            cases hr
          | some v =>
            have hvl := HF.out s v hfs
            go_wp2_with (go_at_call 34; refine HCU.out.mono ?_; rintro e w4 ⟨rfl, hb4⟩)
            have h4 := H3.out.next (hb4.mono (Nat.le_of_lt H3.out.ltb)) (keep_builder H3.out.bld hb4)
            have hn := name_any h4 ⟨s.toArray⟩ (by simp [ByteArray.size]; unfold maxLen; omega) (by simp [hfs]; omega)
            simp only [hfs, Option.isSome_some, Option.getD_some] at hn
            have HN := Lib.hid hn
            have HB4 := Lib.hid hb4
            have HFS := Lib.hid hfs
            clear hn h4 hb4 hfs
            refine HN.out.mono ?_
            rintro e w5 ⟨rfl, h5, hb5⟩
            have H5 := Lib.hid h5
            have HB5 := Lib.hid hb5
            clear h5 hb5
            go_wp2_with fail
            go_roundw
            case rel =>
              refine ⟨beh, _, rfl, by simp at hlen ⊢; omega, H5.out, HB.out.trans ((below_drewN (Below.refl _ _) k).trans (HB3.out.trans ((HB4.out.mono (Nat.le_of_lt H3.out.ltb)).trans HB5.out))), by simp; omega, ?_⟩
              rw [HE.out]
              unfold VM.expand
              rw [VM.parse_ahead a r h2, VM.parse_sign_name r s beh HCS.out hs]
              cases VM.parse .norm beh with
              | none => rfl
              | some l =>
                simp only [VM.cons?, VM.cat?, Option.bind_some, VM.out_append, VM.out_chars, VM.out, HFS.out]
                cases VM.out f l <;> simp
            case measure => simp [strLen, ByteArray.size]; omega
end Go.Proofs.YtlggegjjhbknaaaDoor
