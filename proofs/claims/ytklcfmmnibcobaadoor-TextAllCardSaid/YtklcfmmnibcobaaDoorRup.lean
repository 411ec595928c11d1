import Derived.Test.YtklcfmmnibcobaaDoorUp
namespace Go.Proofs.YtklcfmmnibcobaaDoor
open Go.RowKit Go.Lib

set_option maxRecDepth 100000 in
set_option maxHeartbeats 2000000 in
theorem rupper_any (s : ByteArray) (w : World) (hs : s.size ≤ 100000) :
    Calls Tryd.prog 23 #[.string s] w fun e w' => e = .returned (.string ⟨(s.data.toList.map up).toArray⟩) ∧ Below w.heap.size w w' := by
  have hcv := Go.Lib.run_convert_string_bytes (P := Tryd.prog) w 9 35 5 s Tryd.underlying9 Tryd.underlying35 Tryd.underlying5
  have hb0 := bytesWorld_below w 5 s
  have hr0 := BRow.made w s
  have HB0 := Lib.hid hb0
  have HR0 := Lib.hid hr0
  clear hb0 hr0
  generalize bytesWorld w 5 s = w0 at hcv HB0 HR0
  generalize grownCap w s.size 0 5 = cp at hcv
  go_enter Tryd.func23, Tryd.ntmps23
  go_wp2_with fail

  go_loopg [4] s.size (fun g iv wr => ∃ i : Nat, i ≤ s.size ∧ g = s.size - i ∧ iv = .int .i64 i ∧ Below w.heap.size w wr ∧ BRow wr w.heap.size (upAt s.data.toList i))
  case atStart => exact ⟨0, by omega, by omega, rfl, HB0.out, by simpa [upAt] using HR0.out⟩
  case round =>
    obtain ⟨i, hi, rfl, rfl, hb, hr⟩ := hrel
    have HB := Lib.hid hb
    have HR := Lib.hid hr
    clear hb hr
    by_cases hlt : i < s.size
    · have hc := HR.out.cell i _ (upAt_get s.data.toList i (by simpa using hlt))
      have hf := HR.out.free i (by rw [upAt_len]; simpa using hlt)
      have hst := HR.out.set i (up s.data.toList[i]) (by rw [upAt_len]; simpa using hlt)
      rw [upAt_set s.data.toList i (by simpa using hlt)] at hst
      have hsm := upAt_same s.data.toList i (by simpa using hlt)
      have HST := Lib.hid hst
      have HSM := Lib.hid hsm
      clear hst hsm
      have hg0 := HR.out.lt
      generalize s.data.toList[i] = c at hc HST HSM
      by_cases h1 : (97 : Int) ≤ c.toNat
      · by_cases h2 : (c.toNat : Int) ≤ 122
        · have hu : up c = c - 32 := by
            unfold up
            rw [if_pos ⟨by rw [UInt8.le_iff_toNat_le]; simp; omega, by rw [UInt8.le_iff_toNat_le]; simp; omega⟩]
          have hw := wrap_up c (by omega) (by omega)
          rw [hu] at HST
          clear hu
          go_wp2_with fail
          go_roundg (s.size - (i + 1))
          case measure => omega
          case rel => exact ⟨i + 1, by omega, rfl, by go_num, HB.out.setCell (Nat.le_refl _) _, HST.out⟩
        · have hu : up c = c := by
            unfold up
            rw [if_neg]
            rintro ⟨_, h⟩
            rw [UInt8.le_iff_toNat_le] at h
            simp at h; omega
          have HU := Lib.hid hu
          clear hu
          go_wp2_with fail
          go_roundg (s.size - (i + 1))
          case measure => omega
          case rel => exact ⟨i + 1, by omega, rfl, by go_num, HB.out, by rw [HSM.out HU.out]; exact HR.out⟩
      · have hu : up c = c := by
          unfold up
          rw [if_neg]
          rintro ⟨h, _⟩
          rw [UInt8.le_iff_toNat_le] at h
          simp at h; omega
        have HU := Lib.hid hu
        clear hu
        go_wp2_with fail
        go_roundg (s.size - (i + 1))
        case measure => omega
        case rel => exact ⟨i + 1, by omega, rfl, by go_num, HB.out, by rw [HSM.out HU.out]; exact HR.out⟩
    · have e : i = s.size := by omega
      subst e
      have hr := HR.out
      have hue : upAt s.data.toList s.size = s.data.toList.map up := by
        have hz : s.size = s.data.toList.length := (Array.length_toList (xs := s.data)).symm
        rw [hz]; exact upAt_end _
      rw [hue] at hr
      have hby := hr.bytes
      have hcw := run_convert_whole (P := Tryd.prog) wr 35 5 9 Tryd.underlying35 Tryd.underlying5 Tryd.underlying9 w.heap.size 0 _ hby cp
      have hsz : (⟨(s.data.toList.map up).toArray⟩ : ByteArray).size = s.size := (List.length_map up).trans (Array.length_toList (xs := s.data))
      rw [hsz] at hcw
      clear hr hue hby hsz HR
      go_wp2_with fail
      go_ret
      exact ⟨rfl, HB.out⟩
end Go.Proofs.YtklcfmmnibcobaaDoor
