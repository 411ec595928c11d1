import Derived.Test.YtlggegjjhbknaaaDoorVl0
namespace Go.Proofs.YtlggegjjhbknaaaDoor
open Go.RowKit Go.Shelf Go.Lib Go.Maps Go.WideMaps

set_option maxHeartbeats 2000000 in
theorem plain_law (s : ByteArray) (hs : s.size ≤ 140737488351232) (w : World) (hm : ML w) (h0 : 0 < w.heap.size) :
    Calls Tryd.prog 5 #[.string s] w fun e w' => e = .returned (.bool true) ∧ Below w.heap.size w w' := by
  go_enter Tryd.func5, Tryd.ntmps5
  go_wp2_with fail
  refine (shown_any hm h0).mono ?_
  rintro e w1 ⟨rfl, hb1⟩
  have HB1 := Lib.hid hb1
  have HM1 := Lib.hid (hm.below hb1 h0)
  clear hb1
  go_wp2_with (go_at_call 9; refine (short_any s 300 (by decide) hs _).mono ?_; rintro e w' ⟨rfl, rfl⟩)
  have ht : (⟨(s.data.toList.take 300).toArray⟩ : ByteArray).size ≤ 300 := take_size_le _ _
  generalize (⟨(s.data.toList.take 300).toArray⟩ : ByteArray) = t at ht ⊢
  refine (new_any _).mono ?_
  rintro e w2 ⟨rfl, hv2, hb2, hz2⟩
  have HV2 := Lib.hid hv2
  have HB2 := Lib.hid hb2
  have HZ2 := Lib.hid hz2
  clear hv2 hb2 hz2
  go_wp2_with fail
  go_loop [5, 6, 7] (fun tw ba i => ∃ k : Nat, k ≤ t.size ∧ tw = .string ⟨(VM.double (t.data.toList.take k)).toArray⟩ ∧ ba = .string ⟨(VM.bare (t.data.toList.take k)).toArray⟩ ∧ i = .int .i64 k) (fun _ _ i => t.size - (RowKit.intOf i).toNat)
  case atStart => exact ⟨0, Nat.zero_le _, rfl, rfl, rfl⟩
  case round =>
    obtain ⟨k, hk, rfl, rfl, rfl⟩ := hrel
    have hdl := double_le (t.data.toList.take k)
    have hbl := bare_le (t.data.toList.take k)
    have htl : (t.data.toList.take k).length ≤ 300 := by rw [List.length_take]; omega
    have hdl2 : (VM.double (t.data.toList.take k)).length ≤ 600 := by omega
    have hbl2 : (VM.bare (t.data.toList.take k)).length ≤ 300 := by omega
    clear hdl hbl htl
    by_cases hlt : k < t.size
    · by_cases h36 : t[k].toNat = 36
      · have hb : ((t[k].toNat : Int) == 36) = true := by simp [h36]
        clear h36
        go_wp2_with fail
        go_round
        case rel =>
          have hc : t[k] = 36 := by have e := eq_of_beq hb; apply UInt8.toNat_inj.1; show t[k].toNat = 36; omega
          refine ⟨k + 1, by omega, ?_, ?_, by go_num⟩
          · rw [take_snoc t k hlt, double_append, ext_one t k hlt, hc]
            simp [VM.double, cat_mk]
          · rw [take_snoc t k hlt, bare_append, hc]
            simp [VM.bare]
        case measure => simp [RowKit.intOf]; omega
      · have hb : ((t[k].toNat : Int) == 36) = false := by simp; omega
        clear h36
        go_wp2_with fail
        go_round
        case rel =>
          have hc : ¬ t[k] = 36 := by intro e; rw [e] at hb; simp at hb
          refine ⟨k + 1, by omega, ?_, ?_, by go_num⟩
          · rw [take_snoc t k hlt, double_append, ext_one t k hlt]
            simp [VM.double, cat_mk, hc]
          · rw [take_snoc t k hlt, bare_append, ext_one t k hlt]
            simp [VM.bare, cat_mk, hc]
        case measure => simp [RowKit.intOf]; omega
    · have hkt : t.data.toList.take k = t.data.toList := List.take_of_length_le (by simp; omega)
      rw [hkt] at hdl2 hbl2 ⊢
      clear hkt
      have hself := bytes_self t
      have hm3 := HM1.out.below HB2.out (by have := HB1.out.size; omega)
      have hlen : t.data.toList.length ≤ 300 := by simp; omega
      have hx1 := expand_any HV2.out hm3 (VM.double t.data.toList) (by omega) none_le
      have p1 : VM.expand (fun _ => none : KV) (VM.double t.data.toList) = some t.data.toList := by
        unfold VM.expand; rw [VM.parse_double]; exact VM.out_chars _ _
      unfold ExpandEnd at hx1
      rw [p1] at hx1
      simp only [Option.getD_some, Option.isSome_some, hself] at hx1
      have HX1 := Lib.hid hx1
      clear hx1 hself
      go_wp2_with fail
      refine HX1.out.mono ?_
      rintro e w3 ⟨rfl, hb3⟩
      have hv3 := HV2.out.below hb3 HV2.out.ltp HV2.out.ltb
      have hm4 := hm3.below hb3 (by have := HV2.out.ltb; omega)
      have HB3 := Lib.hid hb3
      have p2 : VM.expand (fun _ => none : KV) (VM.bare t.data.toList) = some (VM.bare t.data.toList) := by
        have := VM.parse_bare t.data.toList []
        rw [List.append_nil] at this
        unfold VM.expand; rw [this]
        simp only [VM.parse, VM.cat?, List.append_nil, Option.bind_some]
        exact VM.out_chars _ _
      have hx2 := expand_any hv3 hm4 (VM.bare t.data.toList) (by omega) none_le
      unfold ExpandEnd at hx2
      rw [p2] at hx2
      simp only [Option.getD_some, Option.isSome_some] at hx2
      have HX2 := Lib.hid hx2
      have HV3 := Lib.hid hv3
      have HM4 := Lib.hid hm4
      clear hx2 hb3 hv3 hm4 hm3
      go_wp2_with fail
      refine HX2.out.mono ?_
      rintro e w4 ⟨rfl, hb4⟩
      have hv4 := HV3.out.below hb4 HV3.out.ltp HV3.out.ltb
      have hm5 := HM4.out.below hb4 (by have := HV3.out.ltb; omega)
      have hn := names_any hm5 (by have := hv4.ltb; omega) (VM.double t.data.toList) (by omega)
      have p3 : namesOf (VM.double t.data.toList) = some [] := by
        unfold namesOf; rw [VM.parse_double]; exact congrArg some (VM.names_chars _)
      unfold NamesEnd at hn
      rw [p3] at hn
      simp only [Option.getD_some, Option.isSome_some] at hn
      have HN := Lib.hid hn
      have HB4 := Lib.hid hb4
      have HV4 := Lib.hid hv4
      have HM5 := Lib.hid hm5
      clear hn hb4 hv4 hm5
      go_wp2_with fail
      refine HN.out.mono ?_
      rintro e w5 ⟨v, rfl, hown, hb5⟩
      obtain ⟨A, c, rfl⟩ : ∃ A c, v = .slice A 0 c := by
        rcases hown.2 with ⟨rfl, _⟩ | ⟨g, cap, cur, rfl, _⟩
        · exact ⟨_, _, rfl⟩
        · exact ⟨_, _, rfl⟩
      have hv5 := HV4.out.below hb5 HV4.out.ltp HV4.out.ltb
      have hm6 := HM5.out.below hb5 (by have := HV4.out.ltb; omega)
      have hn2 := names_any hm6 (by have := hv5.ltb; omega) (VM.bare t.data.toList ++ [36]) (by simp; omega)
      have p0 : VM.parse .norm (VM.bare t.data.toList ++ [36]) = none := by
        rw [VM.parse_bare]; rfl
      have p4 : namesOf (VM.bare t.data.toList ++ [36]) = none := by
        unfold namesOf; rw [p0]; rfl
      unfold NamesEnd at hn2
      rw [p4, ← cat_mk] at hn2
      simp only [Option.getD_none, Option.isSome_none] at hn2
      have HN2 := Lib.hid hn2
      have HB5 := Lib.hid hb5
      have HV5 := Lib.hid hv5
      have HM6 := Lib.hid hm6
      clear hn2 hb5 hv5 hm6 hown
      go_wp2_with fail
      refine HN2.out.mono ?_
      rintro e w6 ⟨v6, rfl, hown6, hb6⟩
      obtain ⟨A6, c6, rfl⟩ : ∃ A c, v6 = .slice A 0 c := by
        rcases hown6.2 with ⟨rfl, _⟩ | ⟨g, cap, cur, rfl, _⟩
        · exact ⟨_, _, rfl⟩
        · exact ⟨_, _, rfl⟩
      have hv6 := HV5.out.below hb6 HV5.out.ltp HV5.out.ltb
      have hm7 := HM6.out.below hb6 (by have := HV5.out.ltb; omega)
      have hx3 := expand_any hv6 hm7 (VM.bare t.data.toList ++ [36]) (by simp; omega) none_le
      have p5 : VM.expand (fun _ => none : KV) (VM.bare t.data.toList ++ [36]) = none := by
        unfold VM.expand; rw [p0]; rfl
      unfold ExpandEnd at hx3
      rw [p5, ← cat_mk] at hx3
      simp only [Option.getD_none, Option.isSome_none] at hx3
      have HX3 := Lib.hid hx3
      have HB6 := Lib.hid hb6
      clear hx3 hb6 hv6 hm7 hown6
      go_wp2_with fail
      refine HX3.out.mono ?_
      rintro e w7 ⟨rfl, hb7⟩
      have HB7 := Lib.hid hb7
      clear hb7
      go_wp2_with fail
      go_ret
      exact ⟨rfl, chain (chain (chain (chain (chain (chain HB1.out HB2.out) HB3.out) HB4.out) HB5.out) HB6.out) HB7.out⟩
end Go.Proofs.YtlggegjjhbknaaaDoor
