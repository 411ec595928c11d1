import Derived.Test.YtklcfmmnibcobaaDoorTx5
namespace Go.Proofs.YtklcfmmnibcobaaDoor
open Go.RowKit Go.Shelf Go.Lib

theorem bytes_below {w w' : World} (h : w' = w ∨ ∃ t, w' = Lib.bytesWorld w 5 t) : Below w.heap.size w w' := by
  rcases h with rfl | ⟨t, rfl⟩
  · exact Below.refl _ _
  · exact bytesWorld_below w 5 t

set_option maxRecDepth 100000 in
set_option maxHeartbeats 2000000 in
theorem number_any (s : ByteArray) (most : Int) (w : World) (hE : Env w) (hs : s.size ≤ 100000) :
    Calls Tryd.prog 17 #[.string s, .int .i64 most] w fun e w' => e = .returned (.tuple (numV s.data.toList most)) ∧ Below w.heap.size w w' := by
  have HEnv := Lib.hid hE
  have hl : s.data.toList.length = s.size := by simp
  have HL := Lib.hid hl
  clear hE hl
  go_enter Tryd.func17, Tryd.ntmps17
  go_wp2_with fail
  go_loopg [7] s.size (fun g rv wr => ∃ i : Nat, wr = w.iter s i ∧ i ≤ s.size ∧ g = s.size - i ∧ SP.dgB (s.data.toList.take i) = true)
  case atStart => exact ⟨0, rfl, by omega, by omega, rfl⟩
  case round =>
    obtain ⟨i, rfl, hi, rfl, hall⟩ := hrel
    have HA := Lib.hid hall
    clear hall
    by_cases hlt : i < s.size
    · have hl : i < s.data.toList.length := by simpa using hlt
      have hsn := SP.dgB_snoc s.data.toList i hl
      have hno := SP.dgB_not s.data.toList i hl
      have hge : s.data.toList[i] = s[i] := rfl
      rw [hge] at hsn hno
      have HS := Lib.hid hsn
      have HN := Lib.hid hno
      clear hsn hno hge
      by_cases h128 : s[i].toNat < 128
      · have hnx := run_next_ascii (P := Tryd.prog) w s i 0 hlt h128
        by_cases h1 : (s[i].toNat : Int) < 48
        · have HP := Lib.hid (numV_none (SP.number_bad (m := most) (HN.out (SP.isD_no (c := s[i]) (by omega)))))
          go_wp2_with fail
          go_ret2
          exact ⟨by rw [HP.out]; rfl, iter_below ..⟩
        · by_cases h2 : (57 : Int) < s[i].toNat
          · have HP := Lib.hid (numV_none (SP.number_bad (m := most) (HN.out (SP.isD_no (c := s[i]) (by omega)))))
            go_wp2_with fail
            go_ret2
            exact ⟨by rw [HP.out]; rfl, iter_below ..⟩
          · have HP := Lib.hid ((SP.isD_iff s[i]).2 ⟨by omega, by omega⟩)
            go_wp2_with fail
            go_roundg (s.size - (i + 1))
            case measure => omega
            case rel => exact ⟨i + 1, rfl, by omega, rfl, by rw [HS.out, HA.out, HP.out]; rfl⟩
      · have hnx := run_next_any (P := Tryd.prog) w s i 0 hlt
        have hd := (decode_high s i hlt (by omega)).1
        have hd2 := decode_le s i
        have HP := Lib.hid (numV_none (SP.number_bad (m := most) (HN.out (SP.isD_no (c := s[i]) (by omega)))))
        generalize Utf8.decode s i = D at hnx hd hd2
        have h1 : ¬ ((D.1 : Int) < 48) := by omega
        have h2 : (57 : Int) < D.1 := by omega
        go_wp2_with fail
        go_ret2
        exact ⟨by rw [HP.out]; rfl, iter_below ..⟩
    · have e : i = s.size := by omega
      subst e
      have hnx := run_next_end (P := Tryd.prog) w s s.size 0 (by omega)
      have ht : (s.data.toList.take s.size) = s.data.toList := List.take_of_length_le (by simp)
      have h := HA.out
      rw [ht] at h
      have hall : s.data.toList.all SP.isD = true := h
      have HF := Lib.hid hall
      have hE2 := HEnv.out.under (iter_below w s s.size)
      have HB2 := Lib.hid (iter_below w s s.size)
      clear h ht HA hall
      have HE2 := Lib.hid hE2
      clear hE2
      rcases hr : Lib.atoiAll s.data.toList with v | _ | _
      · skip
        have hc := Tryd.strconv_Atoi_ok s (by omega) v hr (w.iter s s.size)
        have HC := Lib.hid hc
        have hv : s.size ≤ 9 → v = (SP.valF 0 s.data.toList : Int) ∧ s.data.toList ≠ [] := by
          intro h9
          by_cases h0 : s.data.toList = []
          · rw [h0, SP.atoiAll_nil] at hr; cases hr
          · rw [SP.atoiAll_digits HF.out h0 (by rw [HL.out]; omega)] at hr
            injection hr with hr
            exact ⟨hr.symm, h0⟩
        have HV := Lib.hid hv
        clear hc hv hr
        go_wp2_with fail
        refine HC.out.mono ?_
        rintro e w' ⟨rfl, hw⟩
        have HW := Lib.hid (chain HB2.out (bytes_below hw))
        clear hw
        by_cases h9 : 9 < s.size
        · have HP := Lib.hid (numV_none (SP.number_long (l := s.data.toList) (m := most) (by rw [HL.out]; omega)))
          go_wp2_with fail
          go_ret2
          exact ⟨by rw [HP.out]; rfl, HW.out⟩
        · obtain ⟨hv1, hv2⟩ := HV.out (by omega)
          subst hv1
          by_cases hm : most < (SP.valF 0 s.data.toList : Int)
          · have HP := Lib.hid (numV_none (SP.number_big (l := s.data.toList) (m := most) (by omega)))
            have HV2 := Lib.hid hv2
            generalize SP.valF 0 s.data.toList = v at hm HP ⊢
            clear hv2
            go_wp2_with fail
            go_ret2
            exact ⟨by rw [HP.out]; rfl, HW.out⟩
          · have HP := Lib.hid (numV_some (SP.number_ok (l := s.data.toList) (m := most) HF.out hv2 (by rw [HL.out]; omega) (by omega)))
            have HV2 := Lib.hid hv2
            generalize SP.valF 0 s.data.toList = v at hm HP ⊢
            clear hv2
            go_wp2_with fail
            go_ret2
            exact ⟨by rw [HP.out]; rfl, HW.out⟩
      · skip
        obtain ⟨ev, hv1, hv2⟩ := HE2.out.e1
        have hc := Tryd.strconv_Atoi_syntax s (by omega) hr ev (w.iter s s.size) hv1 hv2
        have HC := Lib.hid hc
        have hn : SP.number s.data.toList most = none := by
          by_cases h0 : s.data.toList = []
          · rw [h0]; simp [SP.number]
          · by_cases h18 : s.data.toList.length ≤ 18
            · rw [SP.atoiAll_digits HF.out h0 h18] at hr; cases hr
            · exact SP.number_long (by omega)
        have HP := Lib.hid (numV_none hn)
        clear hc hv1 hv2 hr hn
        go_wp2_with fail
        refine HC.out.mono ?_
        rintro e w' ⟨N, rfl, _, _, hb⟩
        have HW := Lib.hid (chain HB2.out hb)
        clear hb
        go_wp2_with fail
        go_ret2
        exact ⟨by rw [HP.out]; rfl, HW.out⟩
      · skip
        obtain ⟨ev, hv1, hv2⟩ := HE2.out.e2
        have hc := Tryd.strconv_Atoi_range s (by omega) hr ev (w.iter s s.size) hv1 hv2
        have HC := Lib.hid hc
        have hn : SP.number s.data.toList most = none := by
          by_cases h0 : s.data.toList = []
          · rw [h0]; simp [SP.number]
          · by_cases h18 : s.data.toList.length ≤ 18
            · rw [SP.atoiAll_digits HF.out h0 h18] at hr; cases hr
            · exact SP.number_long (by omega)
        have HP := Lib.hid (numV_none hn)
        clear hc hv1 hv2 hr hn
        go_wp2_with fail
        refine HC.out.mono ?_
        rintro e w' ⟨N, rfl, _, _, hb⟩
        have HW := Lib.hid (chain HB2.out hb)
        clear hb
        go_wp2_with fail
        go_ret2
        exact ⟨by rw [HP.out]; rfl, HW.out⟩
end Go.Proofs.YtklcfmmnibcobaaDoor
