import Derived.Test.YtlggegjjhbknaaaDoorVrs
namespace Go.Proofs.YtlggegjjhbknaaaDoor
open Go.RowKit Go.Shelf Go.Lib Go.Maps Go.WideMaps

theorem out_take (f : KV) (l : List VM.Tok) (i : Nat) (hi : i < l.length) (acc : Bs) (h : VM.out f (l.take i) = some acc) :
    VM.out f (l.take (i + 1)) = if isNm l[i] then (f (txt l[i])).map (acc ++ ·) else some (acc ++ txt l[i]) := by
  rw [List.take_succ_eq_append_getElem hi, VM.out_append, h]
  cases l[i] with
  | ch c => simp [VM.out, isNm, txt]
  | nm s => cases hf : f s <;> simp [VM.out, isNm, txt, hf]

theorem out_take_none (f : KV) (l : List VM.Tok) (i : Nat) (h : VM.out f (l.take i) = none) : VM.out f l = none := by
  have e : l = l.take i ++ l.drop i := (List.take_append_drop i l).symm
  rw [e, VM.out_append, h]
  rfl

def RExpEnd (f : KV) (t : Bs) (w : World) (e : Ending) (w' : World) : Prop :=
  e = .returned (.tuple #[.string ⟨((VM.expand f t).getD []).toArray⟩, .bool (VM.expand f t).isSome]) ∧ Below w.heap.size w w'

set_option maxRecDepth 100000 in
set_option maxHeartbeats 4000000 in
theorem rexpand_any {w : World} {q : Nat} {kv : KVs} (h : RefAt w q kv) (hl : kv.length ≤ 1000) (hle : ∀ k v, lookKV kv k = some v → v.length ≤ 1000) (t : ByteArray) (ht : t.size ≤ 1000) :
    Calls Tryd.prog 21 #[.pointer (some ⟨q, 0, none⟩), .string t] w (RExpEnd (lookKV kv) t.data.toList w) := by
  have hp := parts_any w t (by omega)
  unfold PartsEnd at hp
  have hpl := parse_len .norm t.data.toList
  unfold RExpEnd VM.expand
  generalize VM.parse .norm t.data.toList = P at hp hpl ⊢
  have HP := Lib.hid hp
  have HPL := Lib.hid hpl
  have HR := Lib.hid h
  have HLE := Lib.hid hle
  clear hp hpl h hle
  go_enter Tryd.func21, Tryd.ntmps21
  go_wp2_with fail
  refine HP.out.mono ?_
  rintro e w1 ⟨v, rfl, hown, hb1⟩
  have hr1 := HR.out.under hb1
  have HR1 := Lib.hid hr1
  have HB1 := Lib.hid hb1
  clear hr1 hb1
  cases P with
  | none =>
    clear hown
    simp only [Option.isSome_none]
    go_wp2_with fail
    go_ret2
    exact ⟨rfl, HB1.out⟩
  | some L =>
    simp only [Option.isSome_some, Option.getD_some] at hown ⊢
    have hll : L.length ≤ 1000 := by have := HPL.out L rfl; simp at this; omega
    have hrt := hown.reads
    clear hown HP HPL
    rcases hrt with ⟨rfl, rfl⟩ | ⟨g, c, rfl, hgl, hcell⟩
    · go_wp2_with fail
      go_loopg [8, 9] 0 (fun gg ov iv wr => ov = .string ⟨#[]⟩ ∧ iv = .int .i64 0 ∧ wr = w1)
      case atStart => exact ⟨rfl, rfl, rfl⟩
      case round =>
        obtain ⟨rfl, rfl, rfl⟩ := hrel
        go_wp2_with fail
        go_ret2
        exact ⟨rfl, HB1.out⟩
    · have HC := Lib.hid hcell
      clear hcell
      go_wp2_with fail
      go_loopg [8, 9] L.length (fun gg ov iv wr => wr = w1 ∧ ∃ (i : Nat) (acc : Bs), i ≤ L.length ∧ gg = L.length - i ∧ iv = .int .i64 i ∧ ov = .string ⟨acc.toArray⟩ ∧ VM.out (lookKV kv) (L.take i) = some acc ∧ acc.length ≤ 1000 * i)
      case atStart => exact ⟨rfl, 0, [], by omega, by omega, rfl, rfl, by simp [VM.out], by simp⟩
      case round =>
        obtain ⟨rfl, i, acc, hi, rfl, rfl, rfl, hout, hacc⟩ := hrel
        by_cases hlt : i < L.length
        · have hc := HC.out i L[i] (List.getElem?_eq_getElem hlt)
          obtain ⟨hc1, hc2⟩ := hc
          have hot := out_take (lookKV kv) L i hlt acc hout
          have HOT := Lib.hid hot
          clear hot hout
          have hx1 : isNm L[i] = false → (txt L[i]).length = 1 := by cases L[i] <;> simp [isNm, txt]
          generalize isNm L[i] = bb at hc2 HOT hx1
          generalize txt L[i] = x at hc1 HOT hx1
          cases bb with
          | true =>
            have hg := rget_any HR1.out hl x
            clear hx1
            cases hf : lookKV kv x with
            | none =>
              rw [hf] at hg
              have HG := Lib.hid hg
              have HF := Lib.hid hf
              clear hg hf
              simp only [Option.getD_none, Option.isSome_none] at HG
              go_wp2_with fail
              refine HG.out.mono ?_
              rintro e wA ⟨rfl, rfl⟩
              go_wp2_with fail
              go_ret2
              have e0 : VM.out (lookKV kv) L = none := by
                refine out_take_none _ L (i + 1) ?_
                rw [HOT.out, HF.out]
                rfl
              simp only [Option.bind_some]
              exact ⟨by rw [e0]; rfl, HB1.out⟩
            | some y =>
              have hy := HLE.out x y hf
              rw [hf] at hg
              have HG := Lib.hid hg
              have HF := Lib.hid hf
              clear hg hf
              simp only [Option.getD_some, Option.isSome_some] at HG
              have hcat := cat_mk acc y
              go_wp2_with fail
              refine HG.out.mono ?_
              rintro e wA ⟨rfl, rfl⟩
              go_wp2_with fail
              go_roundg (L.length - (i + 1))
              case measure => omega
              case rel =>
                refine ⟨rfl, i + 1, acc ++ y, by omega, rfl, by go_num, by simp, ?_, by simp; omega⟩
                rw [HOT.out, HF.out]
                rfl
          | false =>
            have hx2 := hx1 rfl
            clear hx1
            have hcat := cat_mk acc x
            go_wp2_with fail
            go_roundg (L.length - (i + 1))
            case measure => omega
            case rel =>
              refine ⟨rfl, i + 1, acc ++ x, by omega, rfl, by go_num, by simp, ?_, by simp; omega⟩
              rw [HOT.out]
              rfl
        · have e : i = L.length := by omega
          subst e
          rw [List.take_length] at hout
          have HO := Lib.hid hout
          clear hout
          go_wp2_with fail
          go_ret2
          simp only [Option.bind_some]
          exact ⟨by rw [HO.out]; rfl, HB1.out⟩
end Go.Proofs.YtlggegjjhbknaaaDoor
