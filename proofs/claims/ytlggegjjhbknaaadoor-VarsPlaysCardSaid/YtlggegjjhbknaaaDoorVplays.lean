import Derived.Test.YtlggegjjhbknaaaDoorVry
import Derived.Deep.Slices
import Derived.Deep.QuietTactic
import Derived.BigQuiet
namespace Go.Proofs.YtlggegjjhbknaaaDoor
open Go.RowKit Go.Shelf Go.Lib Go.Maps Go.WideMaps

theorem short_all (s : ByteArray) (n : Nat) (hn : n ≤ 100000) (w : World) :
    Calls Tryd.prog 9 #[.string s, .int .i64 n] w fun e w' => e = .returned (.string ⟨(s.data.toList.take n).toArray⟩) ∧ w' = w := by
  by_cases h : n < s.size
  · have e : s.extract 0 n = ⟨(s.data.toList.take n).toArray⟩ := by rw [ext_eq]; simp
    go_enter Tryd.func9, Tryd.ntmps9
    go_wp2
    go_ret
    exact ⟨rfl, rfl⟩
  · have e : (⟨(s.data.toList.take n).toArray⟩ : ByteArray) = s := by
      rw [List.take_of_length_le (by simp; omega)]
    rw [e]
    go_enter Tryd.func9, Tryd.ntmps9
    go_wp2
    go_ret
    exact ⟨rfl, rfl⟩

theorem RefAt.names {w : World} {q : Nat} {kv : KVs} (h : RefAt w q kv) : ∃ A c, w.cell? ⟨q, 0, none⟩ = some (.slice A kv.length c) := by
  obtain ⟨nv, vv, hq, h2, _⟩ := h.ex
  have hkl : (ks kv).length = kv.length := by simp [ks]
  have e : w.cell? ⟨q, 0, none⟩ = some nv := (ref_cells hq).1
  rcases h2 with ⟨rfl, h0⟩ | ⟨g, c, rfl, _⟩
  · rw [h0] at hkl
    exact ⟨none, 0, by rw [e, ← hkl]; rfl⟩
  · exact ⟨_, c, by rw [e, hkl]⟩

theorem and3 (k : UInt8) : bits BinOp.and .u8 (k.toNat : Int) 3 = 0 ∨ bits BinOp.and .u8 (k.toNat : Int) 3 = 1 ∨ bits BinOp.and .u8 (k.toNat : Int) 3 = 2 ∨ bits BinOp.and .u8 (k.toNat : Int) 3 = 3 := by
  have h : ∀ n : Fin 256, bits BinOp.and .u8 (n.val : Int) 3 = 0 ∨ bits BinOp.and .u8 (n.val : Int) 3 = 1 ∨ bits BinOp.and .u8 (n.val : Int) 3 = 2 ∨ bits BinOp.and .u8 (n.val : Int) 3 = 3 := by decide +kernel
  exact h ⟨k.toNat, k.toNat_lt⟩

set_option maxRecDepth 100000 in
set_option maxHeartbeats 8000000 in
theorem plays_some (a : Addr) (len cap : Nat) (w : World) (hm : ML w) (hops : OpsAt w a len) (_hlen : len ≤ maxLen) :
    Calls Tryd.prog 7 #[.slice (some a) len cap] w fun e w' => e = .returned (.bool true) ∧ Below w.heap.size w w' := by
  have h0 := ML.pos hm
  have HM := Lib.hid hm
  have HO := Lib.hid hops
  clear hm hops
  go_enter Tryd.func7, Tryd.ntmps7
  go_wp2_with fail
  refine (shown_any HM.out h0).mono ?_
  rintro e w1 ⟨rfl, hb1⟩
  have HB1 := Lib.hid hb1
  clear hb1
  go_wp2_with fail
  refine (new_any _).mono ?_
  rintro e w2 ⟨rfl, hv2, hb2, hz2⟩
  have b2 : Below w.heap.size w w2 := chain HB1.out hb2
  have hz1 := HB1.out.size
  have hk2 : Below w2.heap.size w2 (w2.alloc (.cells #[.slice none 0 0, .slice none 0 0] 42)) := (Below.refl _ _).alloc (Nat.le_refl _) _
  have hplay : Play w (w2.alloc (.cells #[.slice none 0 0, .slice none 0 0] 42)) (w1.heap.size + 1) w1.heap.size w2.heap.size [] :=
    ⟨hv2.below hk2 hv2.ltp hv2.ltb, ⟨⟨_, _, heap_alloc_new _ _, .inl ⟨rfl, rfl⟩, .inl ⟨rfl, rfl⟩⟩⟩, by simp, (by intro k v h; cases h), chain b2 hk2, by omega, by omega, by omega⟩
  have HP := Lib.hid hplay
  have HZ2 := Lib.hid hz2
  clear hv2 hb2 hz2 b2 hz1 hk2 hplay
  go_wp2_with fail
  go_loopg [4, 6] len (fun g pv iv wr => ∃ (i p b : Nat) (kv : KVs), i ≤ len ∧ g = len - i ∧ iv = .int .i64 i ∧ pv = .pointer (some ⟨p, 0, none⟩) ∧ Play w wr p b w2.heap.size kv)
  case atStart => exact ⟨0, _, _, [], by omega, by omega, rfl, rfl, HP.out⟩
  case round =>
    obtain ⟨i, p, b, kv, hi, rfl, rfl, rfl, hplay⟩ := hrel
    have HPL := Lib.hid hplay
    clear hplay HP
    by_cases hlt : i < len
    · by_cases h60 : i < 60
      · obtain ⟨k, nm, vl, c0, c1, c2⟩ := (HO.out.below HPL.out.bel) i hlt
        change wr.cell? (a.add (i * 3)) = _ at c0
        change wr.cell? ⟨(a.add (i * 3)).block, (a.add (i * 3)).off + 1, none⟩ = _ at c1
        change wr.cell? ⟨(a.add (i * 3)).block, (a.add (i * 3)).off + 2, none⟩ = _ at c2
        have hz0 := World.block_lt_of_cell? wr _ c0
        go_wp2_with fail
        refine (short_all nm 100 (by decide) _).mono ?_
        rintro e wA ⟨rfl, rfl⟩
        have hl1 : (nm.data.toList.take 100).length ≤ 100 := by rw [List.length_take]; omega
        generalize nm.data.toList.take 100 = nb at hl1 ⊢
        go_wp2_with fail
        refine (short_all vl 1100 (by decide) _).mono ?_
        rintro e wB ⟨rfl, rfl⟩
        have hl2 : (vl.data.toList.take 1100).length ≤ 1100 := by rw [List.length_take]; omega
        generalize vl.data.toList.take 1100 = vb at hl2 ⊢
        have hn1 := names_any (HPL.out.ml HM.out) (ML.pos (HPL.out.ml HM.out)) vb (by omega)
        unfold NamesEnd at hn1
        have HN1 := Lib.hid hn1
        clear hn1 c1 c2
        go_wp2_with fail
        refine HN1.out.mono ?_
        rintro e w3 ⟨va, rfl, hown, hb⟩
        have hp3 := HPL.out.below hb
        have hc3 := (hb.cell hz0).trans c0
        have HB3 := Lib.hid hb
        have HP3 := Lib.hid hp3
        have HOA := Lib.hid hown
        clear hb hp3 hown c0 HN1
        have hn2 : Calls Tryd.prog 18 #[.string ⟨vb.toArray⟩] w3 (RNamesEnd vb w3) := rnames_any w3 ⟨vb.toArray⟩ (by simp [ByteArray.size]; omega)
        unfold RNamesEnd at hn2
        have hnl : ((namesOf vb).getD []).length ≤ 1000000 := by
          have := namesOf_len vb
          cases h : namesOf vb with
          | none => simp
          | some l => have := this l h; simp; omega
        have HN2 := Lib.hid hn2
        clear hn2
        go_wp2_with fail
        refine HN2.out.mono ?_
        rintro e w4 ⟨vc, rfl, hown, hb⟩
        have hp4 := HP3.out.below hb
        have hc4 := (hb.cell (Nat.lt_of_lt_of_le hz0 HB3.out.size)).trans hc3
        have hra := (HOA.out.below hb).reads
        have hrb := hown.reads
        have hsame := same_any hra hrb hnl hnl
        rw [decide_eq_true rfl] at hsame
        have HP4 := Lib.hid hp4
        have HS := Lib.hid hsame
        clear hb hp4 hown hra hrb hsame hc3 HP3 HOA HB3 HN2 hnl
        generalize (namesOf vb).isSome = ok at HS ⊢
        go_wp2_with fail
        refine HS.out.mono ?_
        rintro e w5 ⟨rfl, nd, rfl⟩
        have hp5 := HP4.out.below (below_drewN (Below.refl _ _) nd)
        have hc5 : (w4.drewN nd).cell? (a.add (i * 3)) = _ := hc4
        have HP5 := Lib.hid hp5
        clear hp5 HP4 HS hc4
        rcases and3 k with hm | hm | hm | hm
        · have hset : Calls Tryd.prog 12 #[.pointer (some ⟨p, 0, none⟩), .string ⟨nb.toArray⟩, .string ⟨vb.toArray⟩] (w4.drewN nd) _ := set_any (w4.drewN nd) p b kv.length _ HP5.out.v HP5.out.n ⟨nb.toArray⟩ ⟨vb.toArray⟩ (by simp [ByteArray.size, maxLen]; omega)
          change Calls Tryd.prog 12 _ _ (fun e w' => e = .returned (.int .i64 (setCode (lookKV kv) kv.length nb vb)) ∧ VarsAt w' p b (setMap (lookKV kv) kv.length nb vb) (setNum (lookKV kv) kv.length nb vb) ∧ _ ∧ _) at hset
          rw [set_code] at hset
          have HS := Lib.hid hset
          clear hset
          go_wp2_with fail
          refine HS.out.mono ?_
          rintro e w6 ⟨rfl, hv6, hg6, _⟩
          have hr6 := HP5.out.r.turned HP5.out.v.map hg6
          have hrs := rset_any hr6 (by have := HP5.out.n; omega) nb vb
          unfold RSetEnd at hrs
          have HV6 := Lib.hid hv6
          have HG6 := Lib.hid hg6
          have HRS := Lib.hid hrs
          clear hv6 hg6 hr6 hrs
          generalize setC kv nb vb = code at HRS ⊢
          go_wp2_with fail
          refine HRS.out.mono ?_
          rintro e w7 ⟨rfl, hr7, hg7⟩
          have hp7 := HP5.out.set nb vb HV6.out HG6.out (fun _ => hr7) hg7
          have HP7 := Lib.hid hp7
          clear hr7 hg7 hp7 HV6 HG6 HRS HS HP5
          obtain ⟨A, c, hnames⟩ := HP7.out.r.names
          go_wp2_with fail
          go_quiet (first | (go_at_call 15; refine Calls.quiet_of_same (len_any _ _ _ _ _ (HP7.out.v.below (below_drewN (Below.refl _ _) _) HP7.out.v.ltp HP7.out.v.ltb))))
          go_wp2_with fail
          go_roundg (len - (i + 1))
          case measure => omega
          case rel => exact ⟨i + 1, _, _, _, by omega, rfl, by go_num, rfl, HP7.out.below (below_drewN (Below.refl _ _) nq)⟩
        · have hg1 : Calls Tryd.prog 13 #[.pointer (some ⟨p, 0, none⟩), .string ⟨nb.toArray⟩] (w4.drewN nd) (fun e w' => e = .returned (.tuple #[.string ⟨((lookKV kv nb).getD []).toArray⟩, .bool (lookKV kv nb).isSome]) ∧ w' = w4.drewN nd) := get_any (w4.drewN nd) p b kv.length _ HP5.out.v ⟨nb.toArray⟩ (by simp [ByteArray.size, maxLen]; omega)
          have hg2 := rget_any HP5.out.r (by have := HP5.out.n; omega) nb
          generalize (lookKV kv nb).getD [] = gv at hg1 hg2
          generalize (lookKV kv nb).isSome = gs at hg1 hg2
          have HG1 := Lib.hid hg1
          have HG2 := Lib.hid hg2
          clear hg1 hg2
          obtain ⟨w6, hw6⟩ : ∃ w6, w6 = w4.drewN nd := ⟨_, rfl⟩
          rw [← hw6] at HG1 HG2 HP5 hc5 ⊢
          clear hw6
          go_wp2_with fail
          refine HG1.out.mono ?_
          rintro e wC ⟨rfl, hwc⟩
          subst hwc
          go_wp2_with fail
          refine HG2.out.mono ?_
          rintro e wD ⟨rfl, hwd⟩
          subst hwd
          clear HG1 HG2
          obtain ⟨A, c, hnames⟩ := HP5.out.r.names
          go_wp2_with fail
          go_quiet (first | (go_at_call 15; refine Calls.quiet_of_same (len_any _ _ _ _ _ (HP5.out.v.below (below_drewN (Below.refl _ _) _) HP5.out.v.ltp HP5.out.v.ltb))))
          go_wp2_with fail
          go_roundg (len - (i + 1))
          case measure => omega
          case rel => exact ⟨i + 1, _, _, kv, by omega, rfl, by go_num, rfl, HP5.out.below (below_drewN (Below.refl _ _) nq)⟩
        · obtain ⟨w6, hw6⟩ : ∃ w6, w6 = w4.drewN nd := ⟨_, rfl⟩
          rw [← hw6] at HP5 hc5 ⊢
          clear hw6
          have hsh : Calls Tryd.prog 9 #[.string ⟨vb.toArray⟩, .int .i64 100] w6 (fun e w' => e = .returned (.string ⟨(vb.take 100).toArray⟩) ∧ w' = w6) := short_all ⟨vb.toArray⟩ 100 (by decide) w6
          have hl3 : (vb.take 100).length ≤ 100 := by rw [List.length_take]; omega
          generalize vb.take 100 = tb at hsh hl3
          have hx1 := expand_any HP5.out.v (HP5.out.ml HM.out) tb (by omega) HP5.out.le
          unfold ExpandEnd at hx1
          have HSH := Lib.hid hsh
          have HX1 := Lib.hid hx1
          clear hsh hx1
          go_wp2_with fail
          refine HSH.out.mono ?_
          rintro e wC ⟨rfl, hwc⟩
          subst hwc
          go_wp2_with fail
          refine HX1.out.mono ?_
          rintro e w7 ⟨rfl, hb⟩
          have hp7 := HP5.out.below hb
          have hx2 : Calls Tryd.prog 21 #[.pointer (some ⟨w2.heap.size, 0, none⟩), .string ⟨tb.toArray⟩] w7 (RExpEnd (lookKV kv) tb w7) := rexpand_any hp7.r (by have := hp7.n; omega) hp7.le ⟨tb.toArray⟩ (by simp [ByteArray.size]; omega)
          unfold RExpEnd at hx2
          have HP7 := Lib.hid hp7
          have HX2 := Lib.hid hx2
          clear hp7 hx2 hb HX1 HSH HP5
          generalize (VM.expand (lookKV kv) tb).getD [] = gv at HX2 ⊢
          generalize (VM.expand (lookKV kv) tb).isSome = gs at HX2 ⊢
          go_wp2_with fail
          refine HX2.out.mono ?_
          rintro e w8 ⟨rfl, hb⟩
          have hp8 := HP7.out.below hb
          have HP8 := Lib.hid hp8
          clear hp8 hb HX2 HP7
          obtain ⟨A, c, hnames⟩ := HP8.out.r.names
          go_wp2_with fail
          go_quiet (first | (go_at_call 15; refine Calls.quiet_of_same (len_any _ _ _ _ _ (HP8.out.v.below (below_drewN (Below.refl _ _) _) HP8.out.v.ltp HP8.out.v.ltb))))
          go_wp2_with fail
          go_roundg (len - (i + 1))
          case measure => omega
          case rel => exact ⟨i + 1, _, _, kv, by omega, rfl, by go_num, rfl, HP8.out.below (below_drewN (Below.refl _ _) nq)⟩
        · obtain ⟨w6, hw6⟩ : ∃ w6, w6 = w4.drewN nd := ⟨_, rfl⟩
          rw [← hw6] at HP5 hc5 ⊢
          clear hw6
          have hcl := clone_any HP5.out.v
          have HCL := Lib.hid hcl
          clear hcl
          go_wp2_with fail
          refine HCL.out.mono ?_
          rintro e w7 ⟨p', b', rfl, hv7, hb, hlp, hlb⟩
          have hp7 := HP5.out.below hb
          have hbb : b < w6.heap.size := HP5.out.v.ltb
          have hpn : Play w w7 p' b' w2.heap.size kv := ⟨hv7, hp7.r, hp7.n, hp7.le, hp7.bel, Nat.le_trans HP5.out.bel.size hlp, Nat.le_trans HP5.out.bel.size hlb, hp7.lq⟩
          have hs1 := set_any w7 p b kv.length _ hp7.v hp7.n ⟨#[97]⟩ ⟨#[111, 116, 104, 101, 114]⟩ (by decide)
          have HP7 := Lib.hid hp7
          have HPN := Lib.hid hpn
          have HS1 := Lib.hid hs1
          clear hv7 hb hp7 hpn hs1 HCL
          go_wp2_with fail
          refine HS1.out.mono ?_
          rintro e w8 ⟨rfl, hv8, hg8, _⟩
          have hpn8 := HPN.out.other HP7.out.v (by omega) hg8 HP7.out.lb
          have hs2 := set_any w8 p b _ _ hv8 (setNum_le _ _ _ _ HP7.out.n) ⟨#[122, 122]⟩ ⟨#[109, 111, 114, 101]⟩ (by decide)
          have HV8 := Lib.hid hv8
          have HPN8 := Lib.hid hpn8
          have HS2 := Lib.hid hs2
          clear hv8 hg8 hpn8 hs2 HS1
          go_wp2_with fail
          refine HS2.out.mono ?_
          rintro e w9 ⟨rfl, hv9, hg9, _⟩
          have hpn9 := HPN8.out.other HV8.out (by omega) hg9 HP7.out.lb
          have HPN9 := Lib.hid hpn9
          clear hv9 hg9 hpn9 HS2 HV8 HPN8 HP5 HP7 HPN
          obtain ⟨A, c, hnames⟩ := HPN9.out.r.names
          go_wp2_with fail
          go_quiet (first | (go_at_call 15; refine Calls.quiet_of_same (len_any _ _ _ _ _ (HPN9.out.v.below (below_drewN (Below.refl _ _) _) HPN9.out.v.ltp HPN9.out.v.ltb))))
          go_wp2_with fail
          go_roundg (len - (i + 1))
          case measure => omega
          case rel => exact ⟨i + 1, _, _, kv, by omega, rfl, by go_num, rfl, HPN9.out.below (below_drewN (Below.refl _ _) nq)⟩
      · go_wp2_with fail
        go_ret
        exact ⟨rfl, HPL.out.bel⟩
    · go_wp2_with fail
      go_ret
      exact ⟨rfl, HPL.out.bel⟩
end Go.Proofs.YtlggegjjhbknaaaDoor
