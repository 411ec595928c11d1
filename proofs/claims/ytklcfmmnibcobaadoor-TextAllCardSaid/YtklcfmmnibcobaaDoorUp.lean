import Derived.Test.YtklcfmmnibcobaaDoorBas
import Derived.Test.YtklcfmmnibcobaaDoorProg
import Derived.WalkKit
import Derived.Below
import Derived.WalkSmall
import Derived.Lib.Hide
import Derived.Lib.ConvBytes
import Derived.Lib.SlBytesRow
import Derived.Lib.BufferMore
import Derived.Lib.AtoiErrMem
import Derived.Deep.LoopGhost
import Derived.Deep.QuietTactic
import Derived.BigQuiet
namespace Go.Proofs.YtklcfmmnibcobaaDoor
open Go.RowKit Go.Lib

def up (c : UInt8) : UInt8 := if 97 ≤ c ∧ c ≤ 122 then c - 32 else c

/-- A row of bytes that the call has made: t at its head. -/
def BRow (w : World) (g : Nat) (t : Bs) : Prop := ∃ C n, w.heap[g]? = some (.cells C 5 (n, n + 1)) ∧ t.length ≤ C.size ∧ C.size ≤ n ∧ ∀ (j : Nat) c, t[j]? = some c → C[j]? = some (.int .u8 c.toNat)

theorem BRow.made (w : World) (s : ByteArray) : BRow (bytesWorld w 5 s) w.heap.size s.data.toList := by
  refine ⟨_, _, bytesWorld_at_new w 5 s, ?_, Nat.le_refl _, fun j c h => ?_⟩
  · simp [bytesCells]
  · have hj : j < s.data.toList.length := (List.getElem?_eq_some_iff.1 h).1
    have h1 := bytesWorld_cell w 5 s j (by simpa using hj)
    rw [World.cell?] at h1
    simp only [bytesWorld_at_new] at h1
    have e : s.data.toList.getD j 0 = c := by simp [List.getD, h]
    rw [e] at h1
    simpa using h1

theorem BRow.cell {w : World} {g : Nat} {t : Bs} (h : BRow w g t) (j : Nat) (c : UInt8) (hj : t[j]? = some c) : w.cell? ⟨g, j, none⟩ = some (.int .u8 c.toNat) := by
  obtain ⟨C, n, h1, h2, h3, h4⟩ := h
  simp [World.cell?, h1, h4 j c hj]

theorem BRow.free {w : World} {g : Nat} {t : Bs} (h : BRow w g t) (j : Nat) (hj : j < t.length) : w.frozen? ⟨g, j, none⟩ = false := by
  obtain ⟨C, n, h1, h2, h3, h4⟩ := h
  simp [World.frozen?, h1]
  omega

theorem BRow.set {w : World} {g : Nat} {t : Bs} (h : BRow w g t) (j : Nat) (c : UInt8) (hj : j < t.length) : BRow (w.setCell ⟨g, j, none⟩ (.int .u8 c.toNat)) g (t.set j c) := by
  obtain ⟨C, n, h1, h2, h3, h4⟩ := h
  refine ⟨_, _, Lib.heap_setCell_same h1 _, by simpa using h2, by simpa using h3, fun i x hx => ?_⟩
  rw [Array.getElem?_setIfInBounds]
  rw [List.getElem?_set] at hx
  split at hx
  · rename_i e
    subst e
    injection hx with hx; subst hx
    rw [if_pos rfl, if_pos (by omega)]
  · rename_i e
    rw [if_neg e]
    exact h4 i x hx

theorem BRow.lt {w : World} {g : Nat} {t : Bs} (h : BRow w g t) : g < w.heap.size := by
  obtain ⟨C, n, h1, _⟩ := h
  exact (Array.getElem?_eq_some_iff.1 h1).1
theorem wrap_up (c : UInt8) (h1 : 97 ≤ c.toNat) (h2 : c.toNat ≤ 122) : IntKind.u8.wrap ((c.toNat : Int) - 32) = ((c - 32).toNat : Int) := by
  have h : ∀ n : Fin 256, 97 ≤ n.val → n.val ≤ 122 → IntKind.u8.wrap ((n.val : Int) - 32) = (((UInt8.ofNat n.val) - 32).toNat : Int) := by decide +kernel
  have := h ⟨c.toNat, c.toNat_lt⟩ h1 h2
  simpa using this

theorem BRow.bytes {w : World} {g : Nat} {t : Bs} (h : BRow w g t) : Lib.Bytes w g 0 ⟨t.toArray⟩ := by
  intro i hi
  rw [Nat.zero_add]
  have hi' : i < t.length := by simpa [ByteArray.size] using hi
  rw [h.cell i t[i] (List.getElem?_eq_getElem hi')]
  rfl

def upAt (l : Bs) (i : Nat) : Bs := (l.take i).map up ++ l.drop i
theorem upAt_len (l : Bs) (i : Nat) : (upAt l i).length = l.length := by simp [upAt]; omega
theorem upAt_get (l : Bs) (i : Nat) (h : i < l.length) : (upAt l i)[i]? = some l[i] := by
  unfold upAt
  rw [List.getElem?_append_right (by simp; omega)]
  simp [List.length_take, Nat.min_eq_left (Nat.le_of_lt h), List.getElem?_eq_getElem h]
theorem upAt_set (l : Bs) (i : Nat) (h : i < l.length) : (upAt l i).set i (up l[i]) = upAt l (i + 1) := by
  unfold upAt
  have hl : ((l.take i).map up).length = i := by simp; omega
  rw [List.set_append_right _ _ (by omega), hl, Nat.sub_self, List.drop_eq_getElem_cons h, List.set_cons_zero, List.take_succ_eq_append_getElem h, List.map_append, List.append_assoc]
  rfl
theorem upAt_same (l : Bs) (i : Nat) (h : i < l.length) (hu : up l[i] = l[i]) : upAt l (i + 1) = upAt l i := by
  unfold upAt
  rw [List.take_succ_eq_append_getElem h, List.drop_eq_getElem_cons h, List.map_append, List.append_assoc]
  simp only [List.map_cons, List.map_nil, hu]
  rfl
theorem upAt_end (l : Bs) : upAt l l.length = l.map up := by simp [upAt]

set_option maxRecDepth 100000 in
set_option maxHeartbeats 2000000 in
theorem upper_any (s : ByteArray) (w : World) (hs : s.size ≤ 100000) :
    Calls Tryd.prog 22 #[.string s] w fun e w' => e = .returned (.string ⟨(s.data.toList.map up).toArray⟩) ∧ Below w.heap.size w w' := by
  have hcv := Go.Lib.run_convert_string_bytes (P := Tryd.prog) w 9 35 5 s Tryd.underlying9 Tryd.underlying35 Tryd.underlying5
  have hb0 := bytesWorld_below w 5 s
  have hr0 := BRow.made w s
  have HB0 := Lib.hid hb0
  have HR0 := Lib.hid hr0
  clear hb0 hr0
  generalize bytesWorld w 5 s = w0 at hcv HB0 HR0
  generalize grownCap w s.size 0 5 = cp at hcv
  go_enter Tryd.func22, Tryd.ntmps22
  go_wp2_with fail

  go_loopg [10] s.size (fun g iv wr => ∃ i : Nat, i ≤ s.size ∧ g = s.size - i ∧ iv = .int .i64 i ∧ Below w.heap.size w wr ∧ BRow wr w.heap.size (upAt s.data.toList i))
  case atStart => exact ⟨0, by omega, by omega, rfl, HB0.out, by simpa [upAt] using HR0.out⟩
  case round =>
    obtain ⟨i, hi, rfl, rfl, hb, hr⟩ := hrel
    have HB := Lib.hid hb
    have HR := Lib.hid hr
    clear hb hr
    by_cases hlt : i < s.size
    · have hc := HR.out.cell i _ (upAt_get s.data.toList i (by simpa using hlt))
      have hf := HR.out.free i (by rw [upAt_len]; simpa using hlt)
      have hst := HR.out.set i (up s.data.toList[i]) (by rw [upAt_len]; simpa using hlt)
      rw [upAt_set s.data.toList i (by simpa using hlt)] at hst
      have hsm := upAt_same s.data.toList i (by simpa using hlt)
      have HST := Lib.hid hst
      have HSM := Lib.hid hsm
      clear hst hsm
      have hg0 := HR.out.lt
      generalize s.data.toList[i] = c at hc HST HSM
      by_cases h1 : (97 : Int) ≤ c.toNat
      · by_cases h2 : (c.toNat : Int) ≤ 122
        · have hu : up c = c - 32 := by
            unfold up
            rw [if_pos ⟨by rw [UInt8.le_iff_toNat_le]; simp; omega, by rw [UInt8.le_iff_toNat_le]; simp; omega⟩]
          have hw := wrap_up c (by omega) (by omega)
          rw [hu] at HST
          clear hu
          go_wp2_with fail
          go_roundg (s.size - (i + 1))
          case measure => omega
          case rel => exact ⟨i + 1, by omega, rfl, by go_num, HB.out.setCell (Nat.le_refl _) _, HST.out⟩
        · have hu : up c = c := by
            unfold up
            rw [if_neg]
            rintro ⟨_, h⟩
            rw [UInt8.le_iff_toNat_le] at h
            simp at h; omega
          have HU := Lib.hid hu
          clear hu
          go_wp2_with fail
          go_roundg (s.size - (i + 1))
          case measure => omega
          case rel => exact ⟨i + 1, by omega, rfl, by go_num, HB.out, by rw [HSM.out HU.out]; exact HR.out⟩
      · have hu : up c = c := by
          unfold up
          rw [if_neg]
          rintro ⟨h, _⟩
          rw [UInt8.le_iff_toNat_le] at h
          simp at h; omega
        have HU := Lib.hid hu
        clear hu
        go_wp2_with fail
        go_roundg (s.size - (i + 1))
        case measure => omega
        case rel => exact ⟨i + 1, by omega, rfl, by go_num, HB.out, by rw [HSM.out HU.out]; exact HR.out⟩
    · have e : i = s.size := by omega
      subst e
      have hr := HR.out
      have hue : upAt s.data.toList s.size = s.data.toList.map up := by
        have hz : s.size = s.data.toList.length := (Array.length_toList (xs := s.data)).symm
        rw [hz]; exact upAt_end _
      rw [hue] at hr
      have hby := hr.bytes
      have hcw := run_convert_whole (P := Tryd.prog) wr 35 5 9 Tryd.underlying35 Tryd.underlying5 Tryd.underlying9 w.heap.size 0 _ hby cp
      have hsz : (⟨(s.data.toList.map up).toArray⟩ : ByteArray).size = s.size := (List.length_map up).trans (Array.length_toList (xs := s.data))
      rw [hsz] at hcw
      clear hr hue hby hsz HR
      go_wp2_with fail
      go_ret
      exact ⟨rfl, HB.out⟩
end Go.Proofs.YtklcfmmnibcobaaDoor
