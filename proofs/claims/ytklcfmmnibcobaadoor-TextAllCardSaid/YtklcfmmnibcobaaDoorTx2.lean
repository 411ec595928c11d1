import Derived.Test.YtklcfmmnibcobaaDoorBas
import Derived.Test.YtklcfmmnibcobaaDoorTxPl
namespace Go.Proofs.YtklcfmmnibcobaaDoor
open Go.RowKit Go.Lib

def WordsEnd (s : Bs) (w : World) (e : Ending) (w' : World) : Prop :=
  ∃ v, e = .returned v ∧ OwnS w.heap.size w' v (SP.wordsF [] s) ∧ Below w.heap.size w w'

set_option maxRecDepth 100000 in
set_option maxHeartbeats 2000000 in
theorem rwords_any (s : ByteArray) (w : World) (hs : s.size ≤ 100000) :
    Calls Tryd.prog 21 #[.string s] w (WordsEnd s.data.toList w) := by
  have hl : s.data.toList.length = s.size := by simp
  have HL := Lib.hid hl
  clear hl
  have hk0 : Below w.heap.size w (w.alloc (.cells #[] 9)) := (Below.refl _ _).alloc (Nat.le_refl _) _
  have ho0 : OwnS w.heap.size (w.alloc (.cells #[] 9)) (.slice (some ⟨w.heap.size, 0, none⟩) 0 0) [] := own_empty w 9 1
  have HK0 := Lib.hid hk0
  have HO0 := Lib.hid ho0
  clear hk0 ho0
  go_enter Tryd.func21, Tryd.ntmps21
  go_wp2_with fail
  go_loopg [3, 4, 5] (s.size + 1) (fun g ov fv iv wr => ∃ (i fr : Nat) (acc : List Bs), i ≤ s.size + 1 ∧ g = s.size + 1 - i ∧ iv = .int .i64 i ∧ fv = .int .i64 fr ∧ fr ≤ i ∧ OwnS w.heap.size wr ov acc ∧ Below w.heap.size w wr ∧ w.heap.size ≤ wr.heap.size ∧ acc.length ≤ i ∧
    SP.wordsF [] s.data.toList = acc ++ (if i ≤ s.size then SP.wordsF ((s.data.toList.drop fr).take (i - fr)) (s.data.toList.drop i) else []))
  case atStart =>
    exact ⟨0, 0, [], by omega, by omega, rfl, rfl, by omega, HO0.out, HK0.out, HK0.out.size, by simp, by rw [if_pos (by omega)]; rfl⟩
  case round =>
    obtain ⟨i, fr, acc, hi, rfl, rfl, rfl, hfr, ho, hb, hz, hal, heq⟩ := hrel
    have HO := Lib.hid ho
    have HB := Lib.hid hb
    have HE := Lib.hid heq
    clear ho hb heq
    by_cases hlt : i < s.size
    · have hlt' : i < s.data.toList.length := by simpa using hlt
      have hwb := SP.words_blank s.data.toList i fr hlt' hfr
      have hwc := SP.words_char s.data.toList i fr hlt' hfr
      have hge : s.data.toList[i] = s[i] := rfl
      rw [hge] at hwb hwc
      have HWB := Lib.hid hwb
      have HWC := Lib.hid hwc
      clear hwb hwc hge
      by_cases hbl : s[i] = 32 ∨ s[i] = 9
      · have hx : s.extract fr i = ⟨((s.data.toList.drop fr).take (i - fr)).toArray⟩ := ext_eq ..
        have HX := Lib.hid hx
        have HW := Lib.hid (HWB.out hbl)
        clear hx HWB HWC
        have hn : ((s[i].toNat : Int) != 32 && (s[i].toNat : Int) != 9) = false := by
          rcases hbl with h | h <;> rw [h] <;> rfl
        by_cases hgt : fr < i
        · have fin : ∀ v w', w'.ownsRow w.heap.size 9 1 v (acc.length + 1) (strV acc ++ (#[.string (s.extract fr i)] : Array Value).toList) → OwnS w.heap.size w' v (acc ++ [(s.data.toList.drop fr).take (i - fr)]) := by
            intro v w' h
            have := OwnS.snoc h
            rw [HX.out] at this
            simpa using this
          have FIN := Lib.hid fin
          clear fin
          rcases hbl with h | h
          · have h1 : ((s[i].toNat : Int) != 32) = false := by rw [h]; rfl
            clear h hn
            go_wp2_with (at_builtin; refine wpList_append_lit rfl _ _ 28 9 1 16 (.string ⟨#[]⟩) rfl Tryd.underlying28 info9 rfl (by decide) (by decide) w.heap.size _ _ _ wr _ rfl rfl (one_lit _ rfl) HO.out rfl rfl (by omega) hz ?_; intro v1 w1 o1 b1 z1; have O1 := Lib.hid o1; have B1 := Lib.hid b1; clear o1 b1)
            go_roundg (s.size + 1 - (i + 1))
            case measure => omega
            case rel =>
              refine ⟨i + 1, i + 1, _, by omega, rfl, by go_num, by go_num, by omega, FIN.out _ _ O1.out, HB.out.trans B1.out, by omega, by simp; omega, ?_⟩
              rw [HE.out, if_pos (by omega), if_pos (by omega), HW.out, if_pos hgt]
              simp
          · have h1 : ((s[i].toNat : Int) != 32) = true := by rw [h]; rfl
            have h2 : ((s[i].toNat : Int) != 9) = false := by rw [h]; rfl
            clear h hn
            go_wp2_with (at_builtin; refine wpList_append_lit rfl _ _ 28 9 1 16 (.string ⟨#[]⟩) rfl Tryd.underlying28 info9 rfl (by decide) (by decide) w.heap.size _ _ _ wr _ rfl rfl (one_lit _ rfl) HO.out rfl rfl (by omega) hz ?_; intro v1 w1 o1 b1 z1; have O1 := Lib.hid o1; have B1 := Lib.hid b1; clear o1 b1)
            go_roundg (s.size + 1 - (i + 1))
            case measure => omega
            case rel =>
              refine ⟨i + 1, i + 1, _, by omega, rfl, by go_num, by go_num, by omega, FIN.out _ _ O1.out, HB.out.trans B1.out, by omega, by simp; omega, ?_⟩
              rw [HE.out, if_pos (by omega), if_pos (by omega), HW.out, if_pos hgt]
              simp
        · have fin : ∀ (i' : Nat), i' = i + 1 → SP.wordsF [] s.data.toList = acc ++ (if i' ≤ s.size then SP.wordsF ((s.data.toList.drop i').take (i' - i')) (s.data.toList.drop i') else []) := by
            rintro _ rfl
            rw [HE.out, if_pos (by omega), if_pos (by omega), HW.out, if_neg hgt]
            simp
          have FIN := Lib.hid fin
          clear fin
          rcases hbl with h | h
          · have h1 : ((s[i].toNat : Int) != 32) = false := by rw [h]; rfl
            clear h hn
            go_wp2_with fail
            go_roundg (s.size + 1 - (i + 1))
            case measure => omega
            case rel => exact ⟨i + 1, i + 1, _, by omega, rfl, by go_num, by go_num, by omega, HO.out, HB.out, hz, by omega, FIN.out _ rfl⟩
          · have h1 : ((s[i].toNat : Int) != 32) = true := by rw [h]; rfl
            have h2 : ((s[i].toNat : Int) != 9) = false := by rw [h]; rfl
            clear h hn
            go_wp2_with fail
            go_roundg (s.size + 1 - (i + 1))
            case measure => omega
            case rel => exact ⟨i + 1, i + 1, _, by omega, rfl, by go_num, by go_num, by omega, HO.out, HB.out, hz, by omega, FIN.out _ rfl⟩
      · have HW := Lib.hid (HWC.out hbl)
        clear HWB HWC
        have h1 : ((s[i].toNat : Int) != 32) = true := by
          have : s[i].toNat ≠ 32 := fun e => hbl (.inl (UInt8.toNat_inj.1 (by simpa using e)))
          simp; omega
        have h2 : ((s[i].toNat : Int) != 9) = true := by
          have : s[i].toNat ≠ 9 := fun e => hbl (.inr (UInt8.toNat_inj.1 (by simpa using e)))
          simp; omega
        clear hbl
        go_wp2_with fail
        go_roundg (s.size + 1 - (i + 1))
        case measure => omega
        case rel =>
          refine ⟨i + 1, fr, acc, by omega, rfl, by go_num, rfl, by omega, HO.out, HB.out, hz, by omega, ?_⟩
          rw [HE.out, if_pos (by omega), if_pos (by omega), HW.out]
    · by_cases hie : i = s.size
      · subst hie
        have hwe := SP.words_end s.data.toList fr (by rw [HL.out]; omega)
        rw [HL.out] at hwe
        have HW := Lib.hid hwe
        have hx : s.extract fr s.size = ⟨((s.data.toList.drop fr).take (s.size - fr)).toArray⟩ := ext_eq ..
        have HX := Lib.hid hx
        clear hwe hx
        by_cases hgt : fr < s.size
        · have fin : ∀ v w', w'.ownsRow w.heap.size 9 1 v (acc.length + 1) (strV acc ++ (#[.string (s.extract fr s.size)] : Array Value).toList) → OwnS w.heap.size w' v (acc ++ [(s.data.toList.drop fr).take (s.size - fr)]) := by
            intro v w' h
            have := OwnS.snoc h
            rw [HX.out] at this
            simpa using this
          have FIN := Lib.hid fin
          clear fin
          go_wp2_with (at_builtin; refine wpList_append_lit rfl _ _ 28 9 1 16 (.string ⟨#[]⟩) rfl Tryd.underlying28 info9 rfl (by decide) (by decide) w.heap.size _ _ _ wr _ rfl rfl (one_lit _ rfl) HO.out rfl rfl (by omega) hz ?_; intro v1 w1 o1 b1 z1; have O1 := Lib.hid o1; have B1 := Lib.hid b1; clear o1 b1)
          go_roundg (s.size + 1 - (s.size + 1))
          case measure => omega
          case rel =>
            refine ⟨s.size + 1, s.size + 1, _, by omega, rfl, by go_num, by go_num, by omega, FIN.out _ _ O1.out, HB.out.trans B1.out, by omega, by simp; omega, ?_⟩
            rw [HE.out, if_pos (by omega), if_neg (by omega), HW.out, if_pos hgt]
            simp
        · go_wp2_with fail
          go_roundg (s.size + 1 - (s.size + 1))
          case measure => omega
          case rel =>
            refine ⟨s.size + 1, s.size + 1, _, by omega, rfl, by go_num, by go_num, by omega, HO.out, HB.out, hz, by omega, ?_⟩
            rw [HE.out, if_pos (by omega), if_neg (by omega), HW.out, if_neg hgt]
      · have hie2 : i = s.size + 1 := by omega
        subst hie2
        clear hie
        go_wp2_with fail
        go_ret
        refine ⟨_, rfl, ?_, HB.out⟩
        rw [HE.out, if_neg (by omega), List.append_nil]
        exact HO.out
end Go.Proofs.YtklcfmmnibcobaaDoor
