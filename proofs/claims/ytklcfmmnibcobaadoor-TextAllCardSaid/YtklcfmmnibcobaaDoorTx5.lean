import Derived.Test.YtklcfmmnibcobaaDoorTx3
import Derived.Test.YtklcfmmnibcobaaDoorShelf
import Derived.Laws.RangeAny
import Derived.Lib.IfaceNeq
import Derived.Lib.AtoiErrMem
namespace Go.Proofs.YtklcfmmnibcobaaDoor
open Go.RowKit Go.Shelf Go.Lib

open Go.Sort in
theorem grow_below {w w' : World} {k : Nat} {os : Array Obj} (h : w' = grow (w.drewN k) os) : Below w.heap.size w w' := by
  subst h
  exact ⟨rfl, rfl, rfl, by simp [grow], fun j hj => by simp [grow, Array.getElem?_append, hj]⟩
theorem iter_below (w : World) (s : ByteArray) (p : Nat) : Below w.heap.size w (w.iter s p) := (Below.refl _ _).alloc (Nat.le_refl _) _

theorem digits_any (n : Int) (w : World) (hE : Env w) (h0 : -9223372036854775808 ≤ n) (h1 : n ≤ 9223372036854775807) :
    Calls Tryd.prog 26 #[.int .i64 n] w fun e w' => e = .returned (.string ⟨(Lib.itoa n).toArray⟩) ∧ Below w.heap.size w w' := by
  have hc := Tryd.strconv_Itoa n h0 h1 w hE.tab.here
  have HC := Lib.hid hc
  clear hc hE
  go_enter Tryd.func26, Tryd.ntmps26
  go_wp2_with fail
  refine HC.out.mono ?_
  rintro e w' ⟨rfl, k, os, hw⟩
  have HW := Lib.hid (grow_below hw)
  clear hw
  go_wp2_with fail
  go_ret
  exact ⟨rfl, HW.out⟩

set_option maxHeartbeats 1000000 in
theorem plain_any (s : ByteArray) (w : World) (hs : s.size ≤ 100000) :
    Calls Tryd.prog 24 #[.string s] w fun e w' => e = .returned (.bool (SP.plB s.data.toList)) ∧ Below w.heap.size w w' := by
  go_enter Tryd.func24, Tryd.ntmps24
  go_wp2_with fail
  go_loopg [4] s.size (fun g rv wr => ∃ i : Nat, wr = w.iter s i ∧ i ≤ s.size ∧ g = s.size - i ∧ SP.plB (s.data.toList.take i) = true)
  case atStart => exact ⟨0, rfl, by omega, by omega, rfl⟩
  case round =>
    obtain ⟨i, rfl, hi, rfl, hall⟩ := hrel
    have HA := Lib.hid hall
    clear hall
    by_cases hlt : i < s.size
    · have hl : i < s.data.toList.length := by simpa using hlt
      have hsn := SP.plB_snoc s.data.toList i hl
      have hno := SP.plB_not s.data.toList i hl
      have hge : s.data.toList[i] = s[i] := rfl
      rw [hge] at hsn hno
      have HS := Lib.hid hsn
      have HN := Lib.hid hno
      clear hsn hno hge
      by_cases h128 : s[i].toNat < 128
      · have hnx := run_next_ascii (P := Tryd.prog) w s i 0 hlt h128
        by_cases h1 : (s[i].toNat : Int) < 32
        · have HP := Lib.hid (SP.pl_no (c := s[i]) (by omega))
          go_wp2_with fail
          go_ret
          exact ⟨by rw [HN.out HP.out]; rfl, iter_below ..⟩
        · by_cases h2 : (126 : Int) < s[i].toNat
          · have HP := Lib.hid (SP.pl_no (c := s[i]) (by omega))
            go_wp2_with fail
            go_ret
            exact ⟨by rw [HN.out HP.out]; rfl, iter_below ..⟩
          · have HP := Lib.hid ((SP.pl_iff s[i]).2 ⟨by omega, by omega⟩)
            go_wp2_with fail
            go_roundg (s.size - (i + 1))
            case measure => omega
            case rel => exact ⟨i + 1, rfl, by omega, rfl, by rw [HS.out, HA.out, HP.out]; rfl⟩
      · have hnx := run_next_any (P := Tryd.prog) w s i 0 hlt
        have hd := (decode_high s i hlt (by omega)).1
        have hd2 := decode_le s i
        have HP := Lib.hid (SP.pl_no (c := s[i]) (by omega))
        generalize Utf8.decode s i = D at hnx hd hd2
        have h1 : ¬ ((D.1 : Int) < 32) := by omega
        have h2 : (126 : Int) < D.1 := by omega
        go_wp2_with fail
        go_ret
        exact ⟨by rw [HN.out HP.out]; rfl, iter_below ..⟩
    · have e : i = s.size := by omega
      subst e
      have hnx := run_next_end (P := Tryd.prog) w s s.size 0 (by omega)
      have ht : (s.data.toList.take s.size) = s.data.toList := List.take_of_length_le (by simp)
      have h := HA.out
      rw [ht] at h
      have HF := Lib.hid h
      clear h ht HA
      go_wp2_with fail
      go_ret
      exact ⟨by rw [HF.out]; rfl, iter_below ..⟩
end Go.Proofs.YtklcfmmnibcobaaDoor
