import Derived.Test.YtlggegjjhbknaaaDoorVl0
namespace Go.Proofs.YtlggegjjhbknaaaDoor
open Go.RowKit Go.Shelf Go.Lib Go.Maps Go.WideMaps

def f0 : KV := fun _ => none
theorem f0_le : ∀ k v, f0 k = some v → v.length ≤ 1000 := none_le

/-- What is held when the three are set. -/
def f3 (a b : Bs) : KV :=
  setMap (setMap (setMap f0 0 [120] a) (setNum f0 0 [120] a) [120] b) (setNum (setMap f0 0 [120] a) (setNum f0 0 [120] a) [120] b) [121] [119]

theorem sets_case (a b : Bs) : 
    setCode f0 0 [120] a = (if 1000 < a.length then 71 else 0) ∧ setNum f0 0 [120] a ≤ 1 ∧
    setCode (setMap f0 0 [120] a) (setNum f0 0 [120] a) [120] b = (if 1000 < b.length then 71 else 0) ∧ setNum (setMap f0 0 [120] a) (setNum f0 0 [120] a) [120] b ≤ 2 ∧
    setCode (setMap (setMap f0 0 [120] a) (setNum f0 0 [120] a) [120] b) (setNum (setMap f0 0 [120] a) (setNum f0 0 [120] a) [120] b) [121] [119] = 0 ∧
    f3 a b [121] = some [119] ∧ f3 a b [120] = if b.length ≤ 1000 then some b else if a.length ≤ 1000 then some a else none := by
  by_cases ha : 1000 < a.length <;> by_cases hb : 1000 < b.length <;>
    simp [f3, setCode, setMap, setNum, f0, upd, ha, hb] <;> (try simp [Nat.not_le.2 ha]) <;> (try simp [Nat.not_le.2 hb]) <;> (try simp [Nat.not_lt.1 ha]) <;> (try simp [Nat.not_lt.1 hb]) <;> (try omega)

theorem sets_expand (F : KV) (u : Bs) (h : (36 : UInt8) ∉ u) (h1 : F [121] = some [119]) : VM.expand F (u ++ [36, 120, 36, 121] ++ [36, 120]) = (F [120]).map fun v => u ++ v ++ [119] ++ v := by
  have e : u ++ [36, 120, 36, 121] ++ [36, 120] = u ++ 36 :: [120, 36, 121, 36, 120] := by simp
  have p : VM.parse .sign [120, 36, 121, 36, 120] = some [.nm [120], .nm [121], .nm [120]] := by decide
  unfold VM.expand
  rw [e, VM.parse_ahead u _ h, p]
  simp only [VM.cat?, Option.bind_some, VM.out_append, VM.out_chars, VM.out, h1]
  cases F [120] <;> simp

theorem chain4 {w w1 w2 w3 w4 w5 : World} {b : Nat} (h1 : Below w.heap.size w w1) (h2 : Below w1.heap.size w1 w2) (g3 : w2.grownBy w3 (some b)) (g4 : w3.grownBy w4 (some b)) (g5 : w4.grownBy w5 (some b))
    (_z3 : w3.heap.size = w2.heap.size) (_z4 : w4.heap.size = w3.heap.size) (_z5 : w5.heap.size = w4.heap.size) (hb : w.heap.size ≤ b) : Below w.heap.size w w5 := by
  have h := chain h1 h2
  have hz := h.size
  exact ((h.grown g3 hz (fun j hj => by injection hj with hj; omega)).grown g4 (by omega) (fun j hj => by injection hj with hj; omega)).grown g5 (by omega) (fun j hj => by injection hj with hj; omega)

theorem filter_append_one (l : Bs) (c : UInt8) : VM.bare (l ++ [c]) = if c = 36 then VM.bare l else VM.bare l ++ [c] := by
  by_cases h : c = 36 <;> simp [VM.bare, h]

theorem set_bytes (l : Bs) (n : Nat) (t : Bs) (h : l = t.take n) : (⟨l.toArray⟩ : ByteArray).size ≤ n := by subst h; exact take_size_le t n

set_option maxHeartbeats 4000000 in
theorem sets_law (a b s : ByteArray) (ha : a.size ≤ 140737488351232) (hb : b.size ≤ 140737488351232) (_hs : s.size ≤ 140737488351232) (w : World) (hm : ML w) (h0 : 0 < w.heap.size) :
    Calls Tryd.prog 3 #[.string a, .string b, .string s] w fun e w' => e = .returned (.bool true) ∧ Below w.heap.size w w' := by
  go_enter Tryd.func3, Tryd.ntmps3
  go_wp2_with fail
  refine (shown_any hm h0).mono ?_
  rintro e w1 ⟨rfl, hb1⟩
  have HB1 := Lib.hid hb1
  have HM1 := Lib.hid (hm.below hb1 h0)
  clear hb1
  go_wp2_with fail
  refine (short_any a 1100 (by decide) ha _).mono ?_
  rintro e w' ⟨rfl, rfl⟩
  have hsa : (⟨(a.data.toList.take 1100).toArray⟩ : ByteArray).size ≤ 1100 := take_size_le _ _
  generalize (⟨(a.data.toList.take 1100).toArray⟩ : ByteArray) = a1 at hsa ⊢
  go_wp2_with fail
  refine (short_any b 1100 (by decide) hb _).mono ?_
  rintro e w' ⟨rfl, rfl⟩
  have hsb : (⟨(b.data.toList.take 1100).toArray⟩ : ByteArray).size ≤ 1100 := take_size_le _ _
  generalize (⟨(b.data.toList.take 1100).toArray⟩ : ByteArray) = b1 at hsb ⊢
  go_wp2_with fail
  go_loop [8, 9] (fun ba i => ∃ k : Nat, k ≤ s.size ∧ k ≤ 100 ∧ ba = .string ⟨(VM.bare (s.data.toList.take k)).toArray⟩ ∧ i = .int .i64 k) (fun _ i => 100 - (RowKit.intOf i).toNat)
  case atStart => exact ⟨0, Nat.zero_le _, by omega, rfl, rfl⟩
  case round =>
    obtain ⟨k, hk, hk2, rfl, rfl⟩ := hrel
    have hbl := bare_le (s.data.toList.take k)
    have htl : (s.data.toList.take k).length ≤ 100 := by rw [List.length_take]; omega
    have hbl2 : (VM.bare (s.data.toList.take k)).length ≤ 100 := by omega
    clear hbl htl
    by_cases hlt : k < s.size
    · by_cases hlt2 : k < 100
      · have hd : decide ((k : Int) < 100) = true := decide_eq_true (by omega)
        by_cases h36 : s[k].toNat = 36
        · have hbn : ((s[k].toNat : Int) != 36) = false := by simp [h36]
          have hc : s[k] = 36 := by apply UInt8.toNat_inj.1; exact h36
          have HC := Lib.hid hc
          clear h36 hc
          go_wp2_with fail
          go_round
          case rel =>
            refine ⟨k + 1, by omega, by omega, ?_, by go_num⟩
            rw [take_snoc s k hlt, filter_append_one, if_pos HC.out]
          case measure => simp [RowKit.intOf]; omega
        · have hbn : ((s[k].toNat : Int) != 36) = true := by simp; omega
          have hc : ¬ s[k] = 36 := by intro e; rw [e] at h36; exact h36 rfl
          have HC := Lib.hid hc
          clear h36 hc
          go_wp2_with fail
          go_round
          case rel =>
            refine ⟨k + 1, by omega, by omega, ?_, by go_num⟩
            rw [take_snoc s k hlt, filter_append_one, if_neg HC.out, ext_one s k hlt, cat_mk]
          case measure => simp [RowKit.intOf]; omega
      · have hd : decide ((k : Int) < 100) = false := decide_eq_false (by omega)
        generalize hbare : VM.bare (s.data.toList.take k) = u at hbl2 ⊢
        have hnu : (36 : UInt8) ∉ u := by rw [← hbare]; simp [VM.bare]
        clear hbare
        obtain ⟨c1, n1, c2, n2, c3, ev1, ev2⟩ := sets_case a1.data.toList b1.data.toList
        have hla : a1.data.toList.length = a1.size := by simp
        have hlb : b1.data.toList.length = b1.size := by simp
        rw [hla] at c1
        rw [hlb] at c2
        rw [hla, hlb] at ev2
        clear hla hlb
        by_cases la : 1000 < a1.size
        · by_cases lb : 1000 < b1.size
          · rw [if_pos la] at c1
            rw [if_pos lb] at c2
            rw [if_neg (by omega), if_neg (by omega)] at ev2
            have hex := sets_expand (f3 a1.data.toList b1.data.toList) u hnu ev1
            rw [ev2] at hex
            simp only [Option.map_none] at hex
            have HEX := Lib.hid hex
            have C1 := Lib.hid c1
            have C2 := Lib.hid c2
            have C3 := Lib.hid c3
            have EV2 := Lib.hid ev2
            clear c1 c2 c3 ev1 ev2 hex
            go_wp2_with fail
            refine (new_any _).mono ?_
            rintro e w2 ⟨rfl, hv2, hb2, hz2⟩
            have hm2 := HM1.out.below hb2 (by have := HB1.out.size; omega)
            have hx := expand_any hv2 hm2 [36, 120] (by decide) none_le
            have p0 : VM.expand (fun _ => none : KV) [36, 120] = none := by decide
            unfold ExpandEnd at hx
            rw [p0] at hx
            simp only [Option.getD_none, Option.isSome_none] at hx
            have HX := Lib.hid hx
            have HV2 := Lib.hid hv2
            have HB2 := Lib.hid hb2
            have HM2 := Lib.hid hm2
            clear hx hv2 hb2 hz2 hm2
            go_wp2_with fail
            refine HX.out.mono ?_
            rintro e w3 ⟨rfl, hb3⟩
            have hv3 := HV2.out.below hb3 HV2.out.ltp HV2.out.ltb
            have hm3 := HM2.out.below hb3 (by have := HV2.out.ltb; omega)
            have hs3 := set_any w3 _ _ 0 f0 hv3 (by omega) ⟨#[120]⟩ a1 (by decide)
            change Calls Tryd.prog 12 _ w3 (fun e w' => e = .returned (.int .i64 (setCode f0 0 [120] a1.data.toList)) ∧ VarsAt w' _ _ (setMap f0 0 [120] a1.data.toList) (setNum f0 0 [120] a1.data.toList) ∧ _) at hs3
            rw [C1.out] at hs3
            have HS3 := Lib.hid hs3
            have HB3 := Lib.hid hb3
            have HM3 := Lib.hid hm3
            clear hs3 hb3 hv3 hm3
            go_wp2_with fail
            refine HS3.out.mono ?_
            rintro e w4 ⟨rfl, hv4, hg4, hz4⟩
            have hs4 := set_any w4 _ _ _ _ hv4 (by omega) ⟨#[120]⟩ b1 (by decide)
            change Calls Tryd.prog 12 _ w4 (fun e w' => e = .returned (.int .i64 (setCode (setMap f0 0 [120] a1.data.toList) (setNum f0 0 [120] a1.data.toList) [120] b1.data.toList)) ∧ VarsAt w' _ _ (setMap (setMap f0 0 [120] a1.data.toList) (setNum f0 0 [120] a1.data.toList) [120] b1.data.toList) (setNum (setMap f0 0 [120] a1.data.toList) (setNum f0 0 [120] a1.data.toList) [120] b1.data.toList) ∧ _) at hs4
            rw [C2.out] at hs4
            have HS4 := Lib.hid hs4
            have HG4 := Lib.hid hg4
            have HZ4 := Lib.hid hz4
            clear hs4 hv4 hg4 hz4
            go_wp2_with fail
            refine HS4.out.mono ?_
            rintro e w5 ⟨rfl, hv5, hg5, hz5⟩
            have hs5 := set_any w5 _ _ _ _ hv5 (by omega) ⟨#[121]⟩ ⟨#[119]⟩ (by decide)
            change Calls Tryd.prog 12 _ w5 (fun e w' => e = .returned (.int .i64 (setCode (setMap (setMap f0 0 [120] a1.data.toList) (setNum f0 0 [120] a1.data.toList) [120] b1.data.toList) (setNum (setMap f0 0 [120] a1.data.toList) (setNum f0 0 [120] a1.data.toList) [120] b1.data.toList) [121] [119])) ∧ VarsAt w' _ _ (f3 a1.data.toList b1.data.toList) _ ∧ _) at hs5
            rw [C3.out] at hs5
            have HS5 := Lib.hid hs5
            have HG5 := Lib.hid hg5
            have HZ5 := Lib.hid hz5
            clear hs5 hv5 hg5 hz5
            go_wp2_with fail
            refine HS5.out.mono ?_
            rintro e w6 ⟨rfl, hv6, hg6, hz6⟩
            have hgt := get_any w6 _ _ _ _ hv6 ⟨#[120]⟩ (by decide)
            change Calls Tryd.prog 13 _ w6 (fun e w' => e = .returned (.tuple #[.string ⟨((f3 a1.data.toList b1.data.toList [120]).getD []).toArray⟩, .bool (f3 a1.data.toList b1.data.toList [120]).isSome]) ∧ w' = w6) at hgt
            rw [EV2.out] at hgt
            simp only [Option.getD_none, Option.isSome_none] at hgt
            have HGT := Lib.hid hgt
            have HV6 := Lib.hid hv6
            have HG6 := Lib.hid hg6
            have HZ6 := Lib.hid hz6
            clear hgt hv6 hg6 hz6
            go_wp2_with fail
            refine HGT.out.mono ?_
            rintro e w7 ⟨rfl, rfl⟩
            have hbz : Below w'.heap.size w' w7 := chain4 HB2.out HB3.out HG4.out HG5.out HG6.out HZ4.out HZ5.out HZ6.out (Nat.le_refl _)
            have hm7 := HM1.out.below hbz (by have := HB1.out.size; omega)
            have hx7 := expand_any HV6.out hm7 (u ++ [36, 120, 36, 121] ++ [36, 120]) (by simp; omega) (setMap_le (setMap_le (setMap_le none_le _ _ _) _ _ _) _ _ _)
            unfold ExpandEnd at hx7
            rw [HEX.out, ← cat_mk, ← cat_mk] at hx7
            simp only [Option.getD_none, Option.isSome_none] at hx7
            have HX7 := Lib.hid hx7
            have HBZ := Lib.hid hbz
            clear hx7 hbz hm7
            go_wp2_with fail
            refine HX7.out.mono ?_
            rintro e w8 ⟨rfl, hb8⟩
            have HB8 := Lib.hid hb8
            clear hb8
            have da : decide ((a1.size : Int) ≤ 1000) = false := decide_eq_false (by omega)
            have db : decide ((b1.size : Int) ≤ 1000) = false := decide_eq_false (by omega)
            go_wp2_with fail
            go_ret
            exact ⟨rfl, chain (chain HB1.out HBZ.out) HB8.out⟩
          · rw [if_pos la] at c1
            rw [if_neg lb] at c2
            rw [if_pos (by omega)] at ev2
            have hex := sets_expand (f3 a1.data.toList b1.data.toList) u hnu ev1
            rw [ev2] at hex
            simp only [Option.map_some] at hex
            have HEX := Lib.hid hex
            have C1 := Lib.hid c1
            have C2 := Lib.hid c2
            have C3 := Lib.hid c3
            have EV2 := Lib.hid ev2
            clear c1 c2 c3 ev1 ev2 hex
            go_wp2_with fail
            refine (new_any _).mono ?_
            rintro e w2 ⟨rfl, hv2, hb2, hz2⟩
            have hm2 := HM1.out.below hb2 (by have := HB1.out.size; omega)
            have hx := expand_any hv2 hm2 [36, 120] (by decide) none_le
            have p0 : VM.expand (fun _ => none : KV) [36, 120] = none := by decide
            unfold ExpandEnd at hx
            rw [p0] at hx
            simp only [Option.getD_none, Option.isSome_none] at hx
            have HX := Lib.hid hx
            have HV2 := Lib.hid hv2
            have HB2 := Lib.hid hb2
            have HM2 := Lib.hid hm2
            clear hx hv2 hb2 hz2 hm2
            go_wp2_with fail
            refine HX.out.mono ?_
            rintro e w3 ⟨rfl, hb3⟩
            have hv3 := HV2.out.below hb3 HV2.out.ltp HV2.out.ltb
            have hm3 := HM2.out.below hb3 (by have := HV2.out.ltb; omega)
            have hs3 := set_any w3 _ _ 0 f0 hv3 (by omega) ⟨#[120]⟩ a1 (by decide)
            change Calls Tryd.prog 12 _ w3 (fun e w' => e = .returned (.int .i64 (setCode f0 0 [120] a1.data.toList)) ∧ VarsAt w' _ _ (setMap f0 0 [120] a1.data.toList) (setNum f0 0 [120] a1.data.toList) ∧ _) at hs3
            rw [C1.out] at hs3
            have HS3 := Lib.hid hs3
            have HB3 := Lib.hid hb3
            have HM3 := Lib.hid hm3
            clear hs3 hb3 hv3 hm3
            go_wp2_with fail
            refine HS3.out.mono ?_
            rintro e w4 ⟨rfl, hv4, hg4, hz4⟩
            have hs4 := set_any w4 _ _ _ _ hv4 (by omega) ⟨#[120]⟩ b1 (by decide)
            change Calls Tryd.prog 12 _ w4 (fun e w' => e = .returned (.int .i64 (setCode (setMap f0 0 [120] a1.data.toList) (setNum f0 0 [120] a1.data.toList) [120] b1.data.toList)) ∧ VarsAt w' _ _ (setMap (setMap f0 0 [120] a1.data.toList) (setNum f0 0 [120] a1.data.toList) [120] b1.data.toList) (setNum (setMap f0 0 [120] a1.data.toList) (setNum f0 0 [120] a1.data.toList) [120] b1.data.toList) ∧ _) at hs4
            rw [C2.out] at hs4
            have HS4 := Lib.hid hs4
            have HG4 := Lib.hid hg4
            have HZ4 := Lib.hid hz4
            clear hs4 hv4 hg4 hz4
            go_wp2_with fail
            refine HS4.out.mono ?_
            rintro e w5 ⟨rfl, hv5, hg5, hz5⟩
            have hs5 := set_any w5 _ _ _ _ hv5 (by omega) ⟨#[121]⟩ ⟨#[119]⟩ (by decide)
            change Calls Tryd.prog 12 _ w5 (fun e w' => e = .returned (.int .i64 (setCode (setMap (setMap f0 0 [120] a1.data.toList) (setNum f0 0 [120] a1.data.toList) [120] b1.data.toList) (setNum (setMap f0 0 [120] a1.data.toList) (setNum f0 0 [120] a1.data.toList) [120] b1.data.toList) [121] [119])) ∧ VarsAt w' _ _ (f3 a1.data.toList b1.data.toList) _ ∧ _) at hs5
            rw [C3.out] at hs5
            have HS5 := Lib.hid hs5
            have HG5 := Lib.hid hg5
            have HZ5 := Lib.hid hz5
            clear hs5 hv5 hg5 hz5
            go_wp2_with fail
            refine HS5.out.mono ?_
            rintro e w6 ⟨rfl, hv6, hg6, hz6⟩
            have hgt := get_any w6 _ _ _ _ hv6 ⟨#[120]⟩ (by decide)
            change Calls Tryd.prog 13 _ w6 (fun e w' => e = .returned (.tuple #[.string ⟨((f3 a1.data.toList b1.data.toList [120]).getD []).toArray⟩, .bool (f3 a1.data.toList b1.data.toList [120]).isSome]) ∧ w' = w6) at hgt
            rw [EV2.out] at hgt
            simp only [Option.getD_some, Option.isSome_some, bytes_self] at hgt
            have HGT := Lib.hid hgt
            have HV6 := Lib.hid hv6
            have HG6 := Lib.hid hg6
            have HZ6 := Lib.hid hz6
            clear hgt hv6 hg6 hz6
            go_wp2_with fail
            refine HGT.out.mono ?_
            rintro e w7 ⟨rfl, rfl⟩
            have hbz : Below w'.heap.size w' w7 := chain4 HB2.out HB3.out HG4.out HG5.out HG6.out HZ4.out HZ5.out HZ6.out (Nat.le_refl _)
            have hm7 := HM1.out.below hbz (by have := HB1.out.size; omega)
            have hx7 := expand_any HV6.out hm7 (u ++ [36, 120, 36, 121] ++ [36, 120]) (by simp; omega) (setMap_le (setMap_le (setMap_le none_le _ _ _) _ _ _) _ _ _)
            unfold ExpandEnd at hx7
            rw [HEX.out, ← cat_mk, ← cat_mk] at hx7
            simp only [Option.getD_some, Option.isSome_some] at hx7
            rw [← cat_mk, ← cat_mk, ← cat_mk, bytes_self] at hx7
            have HX7 := Lib.hid hx7
            have HBZ := Lib.hid hbz
            clear hx7 hbz hm7
            go_wp2_with fail
            refine HX7.out.mono ?_
            rintro e w8 ⟨rfl, hb8⟩
            have HB8 := Lib.hid hb8
            clear hb8
            have da : decide ((a1.size : Int) ≤ 1000) = false := decide_eq_false (by omega)
            go_wp2_with fail
            go_ret
            exact ⟨rfl, chain (chain HB1.out HBZ.out) HB8.out⟩
        · by_cases lb : 1000 < b1.size
          · rw [if_neg la] at c1
            rw [if_pos lb] at c2
            rw [if_neg (by omega), if_pos (by omega)] at ev2
            have hex := sets_expand (f3 a1.data.toList b1.data.toList) u hnu ev1
            rw [ev2] at hex
            simp only [Option.map_some] at hex
            have HEX := Lib.hid hex
            have C1 := Lib.hid c1
            have C2 := Lib.hid c2
            have C3 := Lib.hid c3
            have EV2 := Lib.hid ev2
            clear c1 c2 c3 ev1 ev2 hex
            go_wp2_with fail
            refine (new_any _).mono ?_
            rintro e w2 ⟨rfl, hv2, hb2, hz2⟩
            have hm2 := HM1.out.below hb2 (by have := HB1.out.size; omega)
            have hx := expand_any hv2 hm2 [36, 120] (by decide) none_le
            have p0 : VM.expand (fun _ => none : KV) [36, 120] = none := by decide
            unfold ExpandEnd at hx
            rw [p0] at hx
            simp only [Option.getD_none, Option.isSome_none] at hx
            have HX := Lib.hid hx
            have HV2 := Lib.hid hv2
            have HB2 := Lib.hid hb2
            have HM2 := Lib.hid hm2
            clear hx hv2 hb2 hz2 hm2
            go_wp2_with fail
            refine HX.out.mono ?_
            rintro e w3 ⟨rfl, hb3⟩
            have hv3 := HV2.out.below hb3 HV2.out.ltp HV2.out.ltb
            have hm3 := HM2.out.below hb3 (by have := HV2.out.ltb; omega)
            have hs3 := set_any w3 _ _ 0 f0 hv3 (by omega) ⟨#[120]⟩ a1 (by decide)
            change Calls Tryd.prog 12 _ w3 (fun e w' => e = .returned (.int .i64 (setCode f0 0 [120] a1.data.toList)) ∧ VarsAt w' _ _ (setMap f0 0 [120] a1.data.toList) (setNum f0 0 [120] a1.data.toList) ∧ _) at hs3
            rw [C1.out] at hs3
            have HS3 := Lib.hid hs3
            have HB3 := Lib.hid hb3
            have HM3 := Lib.hid hm3
            clear hs3 hb3 hv3 hm3
            go_wp2_with fail
            refine HS3.out.mono ?_
            rintro e w4 ⟨rfl, hv4, hg4, hz4⟩
            have hs4 := set_any w4 _ _ _ _ hv4 (by omega) ⟨#[120]⟩ b1 (by decide)
            change Calls Tryd.prog 12 _ w4 (fun e w' => e = .returned (.int .i64 (setCode (setMap f0 0 [120] a1.data.toList) (setNum f0 0 [120] a1.data.toList) [120] b1.data.toList)) ∧ VarsAt w' _ _ (setMap (setMap f0 0 [120] a1.data.toList) (setNum f0 0 [120] a1.data.toList) [120] b1.data.toList) (setNum (setMap f0 0 [120] a1.data.toList) (setNum f0 0 [120] a1.data.toList) [120] b1.data.toList) ∧ _) at hs4
            rw [C2.out] at hs4
            have HS4 := Lib.hid hs4
            have HG4 := Lib.hid hg4
            have HZ4 := Lib.hid hz4
            clear hs4 hv4 hg4 hz4
            go_wp2_with fail
            refine HS4.out.mono ?_
            rintro e w5 ⟨rfl, hv5, hg5, hz5⟩
            have hs5 := set_any w5 _ _ _ _ hv5 (by omega) ⟨#[121]⟩ ⟨#[119]⟩ (by decide)
            change Calls Tryd.prog 12 _ w5 (fun e w' => e = .returned (.int .i64 (setCode (setMap (setMap f0 0 [120] a1.data.toList) (setNum f0 0 [120] a1.data.toList) [120] b1.data.toList) (setNum (setMap f0 0 [120] a1.data.toList) (setNum f0 0 [120] a1.data.toList) [120] b1.data.toList) [121] [119])) ∧ VarsAt w' _ _ (f3 a1.data.toList b1.data.toList) _ ∧ _) at hs5
            rw [C3.out] at hs5
            have HS5 := Lib.hid hs5
            have HG5 := Lib.hid hg5
            have HZ5 := Lib.hid hz5
            clear hs5 hv5 hg5 hz5
            go_wp2_with fail
            refine HS5.out.mono ?_
            rintro e w6 ⟨rfl, hv6, hg6, hz6⟩
            have hgt := get_any w6 _ _ _ _ hv6 ⟨#[120]⟩ (by decide)
            change Calls Tryd.prog 13 _ w6 (fun e w' => e = .returned (.tuple #[.string ⟨((f3 a1.data.toList b1.data.toList [120]).getD []).toArray⟩, .bool (f3 a1.data.toList b1.data.toList [120]).isSome]) ∧ w' = w6) at hgt
            rw [EV2.out] at hgt
            simp only [Option.getD_some, Option.isSome_some, bytes_self] at hgt
            have HGT := Lib.hid hgt
            have HV6 := Lib.hid hv6
            have HG6 := Lib.hid hg6
            have HZ6 := Lib.hid hz6
            clear hgt hv6 hg6 hz6
            go_wp2_with fail
            refine HGT.out.mono ?_
            rintro e w7 ⟨rfl, rfl⟩
            have hbz : Below w'.heap.size w' w7 := chain4 HB2.out HB3.out HG4.out HG5.out HG6.out HZ4.out HZ5.out HZ6.out (Nat.le_refl _)
            have hm7 := HM1.out.below hbz (by have := HB1.out.size; omega)
            have hx7 := expand_any HV6.out hm7 (u ++ [36, 120, 36, 121] ++ [36, 120]) (by simp; omega) (setMap_le (setMap_le (setMap_le none_le _ _ _) _ _ _) _ _ _)
            unfold ExpandEnd at hx7
            rw [HEX.out, ← cat_mk, ← cat_mk] at hx7
            simp only [Option.getD_some, Option.isSome_some] at hx7
            rw [← cat_mk, ← cat_mk, ← cat_mk, bytes_self] at hx7
            have HX7 := Lib.hid hx7
            have HBZ := Lib.hid hbz
            clear hx7 hbz hm7
            go_wp2_with fail
            refine HX7.out.mono ?_
            rintro e w8 ⟨rfl, hb8⟩
            have HB8 := Lib.hid hb8
            clear hb8
            have db : decide ((b1.size : Int) ≤ 1000) = false := decide_eq_false (by omega)
            go_wp2_with fail
            go_ret
            exact ⟨rfl, chain (chain HB1.out HBZ.out) HB8.out⟩
          · rw [if_neg la] at c1
            rw [if_neg lb] at c2
            rw [if_pos (by omega)] at ev2
            have hex := sets_expand (f3 a1.data.toList b1.data.toList) u hnu ev1
            rw [ev2] at hex
            simp only [Option.map_some] at hex
            have HEX := Lib.hid hex
            have C1 := Lib.hid c1
            have C2 := Lib.hid c2
            have C3 := Lib.hid c3
            have EV2 := Lib.hid ev2
            clear c1 c2 c3 ev1 ev2 hex
            go_wp2_with fail
            refine (new_any _).mono ?_
            rintro e w2 ⟨rfl, hv2, hb2, hz2⟩
            have hm2 := HM1.out.below hb2 (by have := HB1.out.size; omega)
            have hx := expand_any hv2 hm2 [36, 120] (by decide) none_le
            have p0 : VM.expand (fun _ => none : KV) [36, 120] = none := by decide
            unfold ExpandEnd at hx
            rw [p0] at hx
            simp only [Option.getD_none, Option.isSome_none] at hx
            have HX := Lib.hid hx
            have HV2 := Lib.hid hv2
            have HB2 := Lib.hid hb2
            have HM2 := Lib.hid hm2
            clear hx hv2 hb2 hz2 hm2
            go_wp2_with fail
            refine HX.out.mono ?_
            rintro e w3 ⟨rfl, hb3⟩
            have hv3 := HV2.out.below hb3 HV2.out.ltp HV2.out.ltb
            have hm3 := HM2.out.below hb3 (by have := HV2.out.ltb; omega)
            have hs3 := set_any w3 _ _ 0 f0 hv3 (by omega) ⟨#[120]⟩ a1 (by decide)
            change Calls Tryd.prog 12 _ w3 (fun e w' => e = .returned (.int .i64 (setCode f0 0 [120] a1.data.toList)) ∧ VarsAt w' _ _ (setMap f0 0 [120] a1.data.toList) (setNum f0 0 [120] a1.data.toList) ∧ _) at hs3
            rw [C1.out] at hs3
            have HS3 := Lib.hid hs3
            have HB3 := Lib.hid hb3
            have HM3 := Lib.hid hm3
            clear hs3 hb3 hv3 hm3
            go_wp2_with fail
            refine HS3.out.mono ?_
            rintro e w4 ⟨rfl, hv4, hg4, hz4⟩
            have hs4 := set_any w4 _ _ _ _ hv4 (by omega) ⟨#[120]⟩ b1 (by decide)
            change Calls Tryd.prog 12 _ w4 (fun e w' => e = .returned (.int .i64 (setCode (setMap f0 0 [120] a1.data.toList) (setNum f0 0 [120] a1.data.toList) [120] b1.data.toList)) ∧ VarsAt w' _ _ (setMap (setMap f0 0 [120] a1.data.toList) (setNum f0 0 [120] a1.data.toList) [120] b1.data.toList) (setNum (setMap f0 0 [120] a1.data.toList) (setNum f0 0 [120] a1.data.toList) [120] b1.data.toList) ∧ _) at hs4
            rw [C2.out] at hs4
            have HS4 := Lib.hid hs4
            have HG4 := Lib.hid hg4
            have HZ4 := Lib.hid hz4
            clear hs4 hv4 hg4 hz4
            go_wp2_with fail
            refine HS4.out.mono ?_
            rintro e w5 ⟨rfl, hv5, hg5, hz5⟩
            have hs5 := set_any w5 _ _ _ _ hv5 (by omega) ⟨#[121]⟩ ⟨#[119]⟩ (by decide)
            change Calls Tryd.prog 12 _ w5 (fun e w' => e = .returned (.int .i64 (setCode (setMap (setMap f0 0 [120] a1.data.toList) (setNum f0 0 [120] a1.data.toList) [120] b1.data.toList) (setNum (setMap f0 0 [120] a1.data.toList) (setNum f0 0 [120] a1.data.toList) [120] b1.data.toList) [121] [119])) ∧ VarsAt w' _ _ (f3 a1.data.toList b1.data.toList) _ ∧ _) at hs5
            rw [C3.out] at hs5
            have HS5 := Lib.hid hs5
            have HG5 := Lib.hid hg5
            have HZ5 := Lib.hid hz5
            clear hs5 hv5 hg5 hz5
            go_wp2_with fail
            refine HS5.out.mono ?_
            rintro e w6 ⟨rfl, hv6, hg6, hz6⟩
            have hgt := get_any w6 _ _ _ _ hv6 ⟨#[120]⟩ (by decide)
            change Calls Tryd.prog 13 _ w6 (fun e w' => e = .returned (.tuple #[.string ⟨((f3 a1.data.toList b1.data.toList [120]).getD []).toArray⟩, .bool (f3 a1.data.toList b1.data.toList [120]).isSome]) ∧ w' = w6) at hgt
            rw [EV2.out] at hgt
            simp only [Option.getD_some, Option.isSome_some, bytes_self] at hgt
            have HGT := Lib.hid hgt
            have HV6 := Lib.hid hv6
            have HG6 := Lib.hid hg6
            have HZ6 := Lib.hid hz6
            clear hgt hv6 hg6 hz6
            go_wp2_with fail
            refine HGT.out.mono ?_
            rintro e w7 ⟨rfl, rfl⟩
            have hbz : Below w'.heap.size w' w7 := chain4 HB2.out HB3.out HG4.out HG5.out HG6.out HZ4.out HZ5.out HZ6.out (Nat.le_refl _)
            have hm7 := HM1.out.below hbz (by have := HB1.out.size; omega)
            have hx7 := expand_any HV6.out hm7 (u ++ [36, 120, 36, 121] ++ [36, 120]) (by simp; omega) (setMap_le (setMap_le (setMap_le none_le _ _ _) _ _ _) _ _ _)
            unfold ExpandEnd at hx7
            rw [HEX.out, ← cat_mk, ← cat_mk] at hx7
            simp only [Option.getD_some, Option.isSome_some] at hx7
            rw [← cat_mk, ← cat_mk, ← cat_mk, bytes_self] at hx7
            have HX7 := Lib.hid hx7
            have HBZ := Lib.hid hbz
            clear hx7 hbz hm7
            go_wp2_with fail
            refine HX7.out.mono ?_
            rintro e w8 ⟨rfl, hb8⟩
            have HB8 := Lib.hid hb8
            clear hb8
            go_wp2_with fail
            go_ret
            exact ⟨rfl, chain (chain HB1.out HBZ.out) HB8.out⟩
    · generalize hbare : VM.bare (s.data.toList.take k) = u at hbl2 ⊢
      have hnu : (36 : UInt8) ∉ u := by rw [← hbare]; simp [VM.bare]
      clear hbare
      obtain ⟨c1, n1, c2, n2, c3, ev1, ev2⟩ := sets_case a1.data.toList b1.data.toList
      have hla : a1.data.toList.length = a1.size := by simp
      have hlb : b1.data.toList.length = b1.size := by simp
      rw [hla] at c1
      rw [hlb] at c2
      rw [hla, hlb] at ev2
      clear hla hlb
      by_cases la : 1000 < a1.size
      · by_cases lb : 1000 < b1.size
        · rw [if_pos la] at c1
          rw [if_pos lb] at c2
          rw [if_neg (by omega), if_neg (by omega)] at ev2
          have hex := sets_expand (f3 a1.data.toList b1.data.toList) u hnu ev1
          rw [ev2] at hex
          simp only [Option.map_none] at hex
          have HEX := Lib.hid hex
          have C1 := Lib.hid c1
          have C2 := Lib.hid c2
          have C3 := Lib.hid c3
          have EV2 := Lib.hid ev2
          clear c1 c2 c3 ev1 ev2 hex
          go_wp2_with fail
          refine (new_any _).mono ?_
          rintro e w2 ⟨rfl, hv2, hb2, hz2⟩
          have hm2 := HM1.out.below hb2 (by have := HB1.out.size; omega)
          have hx := expand_any hv2 hm2 [36, 120] (by decide) none_le
          have p0 : VM.expand (fun _ => none : KV) [36, 120] = none := by decide
          unfold ExpandEnd at hx
          rw [p0] at hx
          simp only [Option.getD_none, Option.isSome_none] at hx
          have HX := Lib.hid hx
          have HV2 := Lib.hid hv2
          have HB2 := Lib.hid hb2
          have HM2 := Lib.hid hm2
          clear hx hv2 hb2 hz2 hm2
          go_wp2_with fail
          refine HX.out.mono ?_
          rintro e w3 ⟨rfl, hb3⟩
          have hv3 := HV2.out.below hb3 HV2.out.ltp HV2.out.ltb
          have hm3 := HM2.out.below hb3 (by have := HV2.out.ltb; omega)
          have hs3 := set_any w3 _ _ 0 f0 hv3 (by omega) ⟨#[120]⟩ a1 (by decide)
          change Calls Tryd.prog 12 _ w3 (fun e w' => e = .returned (.int .i64 (setCode f0 0 [120] a1.data.toList)) ∧ VarsAt w' _ _ (setMap f0 0 [120] a1.data.toList) (setNum f0 0 [120] a1.data.toList) ∧ _) at hs3
          rw [C1.out] at hs3
          have HS3 := Lib.hid hs3
          have HB3 := Lib.hid hb3
          have HM3 := Lib.hid hm3
          clear hs3 hb3 hv3 hm3
          go_wp2_with fail
          refine HS3.out.mono ?_
          rintro e w4 ⟨rfl, hv4, hg4, hz4⟩
          have hs4 := set_any w4 _ _ _ _ hv4 (by omega) ⟨#[120]⟩ b1 (by decide)
          change Calls Tryd.prog 12 _ w4 (fun e w' => e = .returned (.int .i64 (setCode (setMap f0 0 [120] a1.data.toList) (setNum f0 0 [120] a1.data.toList) [120] b1.data.toList)) ∧ VarsAt w' _ _ (setMap (setMap f0 0 [120] a1.data.toList) (setNum f0 0 [120] a1.data.toList) [120] b1.data.toList) (setNum (setMap f0 0 [120] a1.data.toList) (setNum f0 0 [120] a1.data.toList) [120] b1.data.toList) ∧ _) at hs4
          rw [C2.out] at hs4
          have HS4 := Lib.hid hs4
          have HG4 := Lib.hid hg4
          have HZ4 := Lib.hid hz4
          clear hs4 hv4 hg4 hz4
          go_wp2_with fail
          refine HS4.out.mono ?_
          rintro e w5 ⟨rfl, hv5, hg5, hz5⟩
          have hs5 := set_any w5 _ _ _ _ hv5 (by omega) ⟨#[121]⟩ ⟨#[119]⟩ (by decide)
          change Calls Tryd.prog 12 _ w5 (fun e w' => e = .returned (.int .i64 (setCode (setMap (setMap f0 0 [120] a1.data.toList) (setNum f0 0 [120] a1.data.toList) [120] b1.data.toList) (setNum (setMap f0 0 [120] a1.data.toList) (setNum f0 0 [120] a1.data.toList) [120] b1.data.toList) [121] [119])) ∧ VarsAt w' _ _ (f3 a1.data.toList b1.data.toList) _ ∧ _) at hs5
          rw [C3.out] at hs5
          have HS5 := Lib.hid hs5
          have HG5 := Lib.hid hg5
          have HZ5 := Lib.hid hz5
          clear hs5 hv5 hg5 hz5
          go_wp2_with fail
          refine HS5.out.mono ?_
          rintro e w6 ⟨rfl, hv6, hg6, hz6⟩
          have hgt := get_any w6 _ _ _ _ hv6 ⟨#[120]⟩ (by decide)
          change Calls Tryd.prog 13 _ w6 (fun e w' => e = .returned (.tuple #[.string ⟨((f3 a1.data.toList b1.data.toList [120]).getD []).toArray⟩, .bool (f3 a1.data.toList b1.data.toList [120]).isSome]) ∧ w' = w6) at hgt
          rw [EV2.out] at hgt
          simp only [Option.getD_none, Option.isSome_none] at hgt
          have HGT := Lib.hid hgt
          have HV6 := Lib.hid hv6
          have HG6 := Lib.hid hg6
          have HZ6 := Lib.hid hz6
          clear hgt hv6 hg6 hz6
          go_wp2_with fail
          refine HGT.out.mono ?_
          rintro e w7 ⟨rfl, rfl⟩
          have hbz : Below w'.heap.size w' w7 := chain4 HB2.out HB3.out HG4.out HG5.out HG6.out HZ4.out HZ5.out HZ6.out (Nat.le_refl _)
          have hm7 := HM1.out.below hbz (by have := HB1.out.size; omega)
          have hx7 := expand_any HV6.out hm7 (u ++ [36, 120, 36, 121] ++ [36, 120]) (by simp; omega) (setMap_le (setMap_le (setMap_le none_le _ _ _) _ _ _) _ _ _)
          unfold ExpandEnd at hx7
          rw [HEX.out, ← cat_mk, ← cat_mk] at hx7
          simp only [Option.getD_none, Option.isSome_none] at hx7
          have HX7 := Lib.hid hx7
          have HBZ := Lib.hid hbz
          clear hx7 hbz hm7
          go_wp2_with fail
          refine HX7.out.mono ?_
          rintro e w8 ⟨rfl, hb8⟩
          have HB8 := Lib.hid hb8
          clear hb8
          have da : decide ((a1.size : Int) ≤ 1000) = false := decide_eq_false (by omega)
          have db : decide ((b1.size : Int) ≤ 1000) = false := decide_eq_false (by omega)
          go_wp2_with fail
          go_ret
          exact ⟨rfl, chain (chain HB1.out HBZ.out) HB8.out⟩
        · rw [if_pos la] at c1
          rw [if_neg lb] at c2
          rw [if_pos (by omega)] at ev2
          have hex := sets_expand (f3 a1.data.toList b1.data.toList) u hnu ev1
          rw [ev2] at hex
          simp only [Option.map_some] at hex
          have HEX := Lib.hid hex
          have C1 := Lib.hid c1
          have C2 := Lib.hid c2
          have C3 := Lib.hid c3
          have EV2 := Lib.hid ev2
          clear c1 c2 c3 ev1 ev2 hex
          go_wp2_with fail
          refine (new_any _).mono ?_
          rintro e w2 ⟨rfl, hv2, hb2, hz2⟩
          have hm2 := HM1.out.below hb2 (by have := HB1.out.size; omega)
          have hx := expand_any hv2 hm2 [36, 120] (by decide) none_le
          have p0 : VM.expand (fun _ => none : KV) [36, 120] = none := by decide
          unfold ExpandEnd at hx
          rw [p0] at hx
          simp only [Option.getD_none, Option.isSome_none] at hx
          have HX := Lib.hid hx
          have HV2 := Lib.hid hv2
          have HB2 := Lib.hid hb2
          have HM2 := Lib.hid hm2
          clear hx hv2 hb2 hz2 hm2
          go_wp2_with fail
          refine HX.out.mono ?_
          rintro e w3 ⟨rfl, hb3⟩
          have hv3 := HV2.out.below hb3 HV2.out.ltp HV2.out.ltb
          have hm3 := HM2.out.below hb3 (by have := HV2.out.ltb; omega)
          have hs3 := set_any w3 _ _ 0 f0 hv3 (by omega) ⟨#[120]⟩ a1 (by decide)
          change Calls Tryd.prog 12 _ w3 (fun e w' => e = .returned (.int .i64 (setCode f0 0 [120] a1.data.toList)) ∧ VarsAt w' _ _ (setMap f0 0 [120] a1.data.toList) (setNum f0 0 [120] a1.data.toList) ∧ _) at hs3
          rw [C1.out] at hs3
          have HS3 := Lib.hid hs3
          have HB3 := Lib.hid hb3
          have HM3 := Lib.hid hm3
          clear hs3 hb3 hv3 hm3
          go_wp2_with fail
          refine HS3.out.mono ?_
          rintro e w4 ⟨rfl, hv4, hg4, hz4⟩
          have hs4 := set_any w4 _ _ _ _ hv4 (by omega) ⟨#[120]⟩ b1 (by decide)
          change Calls Tryd.prog 12 _ w4 (fun e w' => e = .returned (.int .i64 (setCode (setMap f0 0 [120] a1.data.toList) (setNum f0 0 [120] a1.data.toList) [120] b1.data.toList)) ∧ VarsAt w' _ _ (setMap (setMap f0 0 [120] a1.data.toList) (setNum f0 0 [120] a1.data.toList) [120] b1.data.toList) (setNum (setMap f0 0 [120] a1.data.toList) (setNum f0 0 [120] a1.data.toList) [120] b1.data.toList) ∧ _) at hs4
          rw [C2.out] at hs4
          have HS4 := Lib.hid hs4
          have HG4 := Lib.hid hg4
          have HZ4 := Lib.hid hz4
          clear hs4 hv4 hg4 hz4
          go_wp2_with fail
          refine HS4.out.mono ?_
          rintro e w5 ⟨rfl, hv5, hg5, hz5⟩
          have hs5 := set_any w5 _ _ _ _ hv5 (by omega) ⟨#[121]⟩ ⟨#[119]⟩ (by decide)
          change Calls Tryd.prog 12 _ w5 (fun e w' => e = .returned (.int .i64 (setCode (setMap (setMap f0 0 [120] a1.data.toList) (setNum f0 0 [120] a1.data.toList) [120] b1.data.toList) (setNum (setMap f0 0 [120] a1.data.toList) (setNum f0 0 [120] a1.data.toList) [120] b1.data.toList) [121] [119])) ∧ VarsAt w' _ _ (f3 a1.data.toList b1.data.toList) _ ∧ _) at hs5
          rw [C3.out] at hs5
          have HS5 := Lib.hid hs5
          have HG5 := Lib.hid hg5
          have HZ5 := Lib.hid hz5
          clear hs5 hv5 hg5 hz5
          go_wp2_with fail
          refine HS5.out.mono ?_
          rintro e w6 ⟨rfl, hv6, hg6, hz6⟩
          have hgt := get_any w6 _ _ _ _ hv6 ⟨#[120]⟩ (by decide)
          change Calls Tryd.prog 13 _ w6 (fun e w' => e = .returned (.tuple #[.string ⟨((f3 a1.data.toList b1.data.toList [120]).getD []).toArray⟩, .bool (f3 a1.data.toList b1.data.toList [120]).isSome]) ∧ w' = w6) at hgt
          rw [EV2.out] at hgt
          simp only [Option.getD_some, Option.isSome_some, bytes_self] at hgt
          have HGT := Lib.hid hgt
          have HV6 := Lib.hid hv6
          have HG6 := Lib.hid hg6
          have HZ6 := Lib.hid hz6
          clear hgt hv6 hg6 hz6
          go_wp2_with fail
          refine HGT.out.mono ?_
          rintro e w7 ⟨rfl, rfl⟩
          have hbz : Below w'.heap.size w' w7 := chain4 HB2.out HB3.out HG4.out HG5.out HG6.out HZ4.out HZ5.out HZ6.out (Nat.le_refl _)
          have hm7 := HM1.out.below hbz (by have := HB1.out.size; omega)
          have hx7 := expand_any HV6.out hm7 (u ++ [36, 120, 36, 121] ++ [36, 120]) (by simp; omega) (setMap_le (setMap_le (setMap_le none_le _ _ _) _ _ _) _ _ _)
          unfold ExpandEnd at hx7
          rw [HEX.out, ← cat_mk, ← cat_mk] at hx7
          simp only [Option.getD_some, Option.isSome_some] at hx7
          rw [← cat_mk, ← cat_mk, ← cat_mk, bytes_self] at hx7
          have HX7 := Lib.hid hx7
          have HBZ := Lib.hid hbz
          clear hx7 hbz hm7
          go_wp2_with fail
          refine HX7.out.mono ?_
          rintro e w8 ⟨rfl, hb8⟩
          have HB8 := Lib.hid hb8
          clear hb8
          have da : decide ((a1.size : Int) ≤ 1000) = false := decide_eq_false (by omega)
          go_wp2_with fail
          go_ret
          exact ⟨rfl, chain (chain HB1.out HBZ.out) HB8.out⟩
      · by_cases lb : 1000 < b1.size
        · rw [if_neg la] at c1
          rw [if_pos lb] at c2
          rw [if_neg (by omega), if_pos (by omega)] at ev2
          have hex := sets_expand (f3 a1.data.toList b1.data.toList) u hnu ev1
          rw [ev2] at hex
          simp only [Option.map_some] at hex
          have HEX := Lib.hid hex
          have C1 := Lib.hid c1
          have C2 := Lib.hid c2
          have C3 := Lib.hid c3
          have EV2 := Lib.hid ev2
          clear c1 c2 c3 ev1 ev2 hex
          go_wp2_with fail
          refine (new_any _).mono ?_
          rintro e w2 ⟨rfl, hv2, hb2, hz2⟩
          have hm2 := HM1.out.below hb2 (by have := HB1.out.size; omega)
          have hx := expand_any hv2 hm2 [36, 120] (by decide) none_le
          have p0 : VM.expand (fun _ => none : KV) [36, 120] = none := by decide
          unfold ExpandEnd at hx
          rw [p0] at hx
          simp only [Option.getD_none, Option.isSome_none] at hx
          have HX := Lib.hid hx
          have HV2 := Lib.hid hv2
          have HB2 := Lib.hid hb2
          have HM2 := Lib.hid hm2
          clear hx hv2 hb2 hz2 hm2
          go_wp2_with fail
          refine HX.out.mono ?_
          rintro e w3 ⟨rfl, hb3⟩
          have hv3 := HV2.out.below hb3 HV2.out.ltp HV2.out.ltb
          have hm3 := HM2.out.below hb3 (by have := HV2.out.ltb; omega)
          have hs3 := set_any w3 _ _ 0 f0 hv3 (by omega) ⟨#[120]⟩ a1 (by decide)
          change Calls Tryd.prog 12 _ w3 (fun e w' => e = .returned (.int .i64 (setCode f0 0 [120] a1.data.toList)) ∧ VarsAt w' _ _ (setMap f0 0 [120] a1.data.toList) (setNum f0 0 [120] a1.data.toList) ∧ _) at hs3
          rw [C1.out] at hs3
          have HS3 := Lib.hid hs3
          have HB3 := Lib.hid hb3
          have HM3 := Lib.hid hm3
          clear hs3 hb3 hv3 hm3
          go_wp2_with fail
          refine HS3.out.mono ?_
          rintro e w4 ⟨rfl, hv4, hg4, hz4⟩
          have hs4 := set_any w4 _ _ _ _ hv4 (by omega) ⟨#[120]⟩ b1 (by decide)
          change Calls Tryd.prog 12 _ w4 (fun e w' => e = .returned (.int .i64 (setCode (setMap f0 0 [120] a1.data.toList) (setNum f0 0 [120] a1.data.toList) [120] b1.data.toList)) ∧ VarsAt w' _ _ (setMap (setMap f0 0 [120] a1.data.toList) (setNum f0 0 [120] a1.data.toList) [120] b1.data.toList) (setNum (setMap f0 0 [120] a1.data.toList) (setNum f0 0 [120] a1.data.toList) [120] b1.data.toList) ∧ _) at hs4
          rw [C2.out] at hs4
          have HS4 := Lib.hid hs4
          have HG4 := Lib.hid hg4
          have HZ4 := Lib.hid hz4
          clear hs4 hv4 hg4 hz4
          go_wp2_with fail
          refine HS4.out.mono ?_
          rintro e w5 ⟨rfl, hv5, hg5, hz5⟩
          have hs5 := set_any w5 _ _ _ _ hv5 (by omega) ⟨#[121]⟩ ⟨#[119]⟩ (by decide)
          change Calls Tryd.prog 12 _ w5 (fun e w' => e = .returned (.int .i64 (setCode (setMap (setMap f0 0 [120] a1.data.toList) (setNum f0 0 [120] a1.data.toList) [120] b1.data.toList) (setNum (setMap f0 0 [120] a1.data.toList) (setNum f0 0 [120] a1.data.toList) [120] b1.data.toList) [121] [119])) ∧ VarsAt w' _ _ (f3 a1.data.toList b1.data.toList) _ ∧ _) at hs5
          rw [C3.out] at hs5
          have HS5 := Lib.hid hs5
          have HG5 := Lib.hid hg5
          have HZ5 := Lib.hid hz5
          clear hs5 hv5 hg5 hz5
          go_wp2_with fail
          refine HS5.out.mono ?_
          rintro e w6 ⟨rfl, hv6, hg6, hz6⟩
          have hgt := get_any w6 _ _ _ _ hv6 ⟨#[120]⟩ (by decide)
          change Calls Tryd.prog 13 _ w6 (fun e w' => e = .returned (.tuple #[.string ⟨((f3 a1.data.toList b1.data.toList [120]).getD []).toArray⟩, .bool (f3 a1.data.toList b1.data.toList [120]).isSome]) ∧ w' = w6) at hgt
          rw [EV2.out] at hgt
          simp only [Option.getD_some, Option.isSome_some, bytes_self] at hgt
          have HGT := Lib.hid hgt
          have HV6 := Lib.hid hv6
          have HG6 := Lib.hid hg6
          have HZ6 := Lib.hid hz6
          clear hgt hv6 hg6 hz6
          go_wp2_with fail
          refine HGT.out.mono ?_
          rintro e w7 ⟨rfl, rfl⟩
          have hbz : Below w'.heap.size w' w7 := chain4 HB2.out HB3.out HG4.out HG5.out HG6.out HZ4.out HZ5.out HZ6.out (Nat.le_refl _)
          have hm7 := HM1.out.below hbz (by have := HB1.out.size; omega)
          have hx7 := expand_any HV6.out hm7 (u ++ [36, 120, 36, 121] ++ [36, 120]) (by simp; omega) (setMap_le (setMap_le (setMap_le none_le _ _ _) _ _ _) _ _ _)
          unfold ExpandEnd at hx7
          rw [HEX.out, ← cat_mk, ← cat_mk] at hx7
          simp only [Option.getD_some, Option.isSome_some] at hx7
          rw [← cat_mk, ← cat_mk, ← cat_mk, bytes_self] at hx7
          have HX7 := Lib.hid hx7
          have HBZ := Lib.hid hbz
          clear hx7 hbz hm7
          go_wp2_with fail
          refine HX7.out.mono ?_
          rintro e w8 ⟨rfl, hb8⟩
          have HB8 := Lib.hid hb8
          clear hb8
          have db : decide ((b1.size : Int) ≤ 1000) = false := decide_eq_false (by omega)
          go_wp2_with fail
          go_ret
          exact ⟨rfl, chain (chain HB1.out HBZ.out) HB8.out⟩
        · rw [if_neg la] at c1
          rw [if_neg lb] at c2
          rw [if_pos (by omega)] at ev2
          have hex := sets_expand (f3 a1.data.toList b1.data.toList) u hnu ev1
          rw [ev2] at hex
          simp only [Option.map_some] at hex
          have HEX := Lib.hid hex
          have C1 := Lib.hid c1
          have C2 := Lib.hid c2
          have C3 := Lib.hid c3
          have EV2 := Lib.hid ev2
          clear c1 c2 c3 ev1 ev2 hex
          go_wp2_with fail
          refine (new_any _).mono ?_
          rintro e w2 ⟨rfl, hv2, hb2, hz2⟩
          have hm2 := HM1.out.below hb2 (by have := HB1.out.size; omega)
          have hx := expand_any hv2 hm2 [36, 120] (by decide) none_le
          have p0 : VM.expand (fun _ => none : KV) [36, 120] = none := by decide
          unfold ExpandEnd at hx
          rw [p0] at hx
          simp only [Option.getD_none, Option.isSome_none] at hx
          have HX := Lib.hid hx
          have HV2 := Lib.hid hv2
          have HB2 := Lib.hid hb2
          have HM2 := Lib.hid hm2
          clear hx hv2 hb2 hz2 hm2
          go_wp2_with fail
          refine HX.out.mono ?_
          rintro e w3 ⟨rfl, hb3⟩
          have hv3 := HV2.out.below hb3 HV2.out.ltp HV2.out.ltb
          have hm3 := HM2.out.below hb3 (by have := HV2.out.ltb; omega)
          have hs3 := set_any w3 _ _ 0 f0 hv3 (by omega) ⟨#[120]⟩ a1 (by decide)
          change Calls Tryd.prog 12 _ w3 (fun e w' => e = .returned (.int .i64 (setCode f0 0 [120] a1.data.toList)) ∧ VarsAt w' _ _ (setMap f0 0 [120] a1.data.toList) (setNum f0 0 [120] a1.data.toList) ∧ _) at hs3
          rw [C1.out] at hs3
          have HS3 := Lib.hid hs3
          have HB3 := Lib.hid hb3
          have HM3 := Lib.hid hm3
          clear hs3 hb3 hv3 hm3
          go_wp2_with fail
          refine HS3.out.mono ?_
          rintro e w4 ⟨rfl, hv4, hg4, hz4⟩
          have hs4 := set_any w4 _ _ _ _ hv4 (by omega) ⟨#[120]⟩ b1 (by decide)
          change Calls Tryd.prog 12 _ w4 (fun e w' => e = .returned (.int .i64 (setCode (setMap f0 0 [120] a1.data.toList) (setNum f0 0 [120] a1.data.toList) [120] b1.data.toList)) ∧ VarsAt w' _ _ (setMap (setMap f0 0 [120] a1.data.toList) (setNum f0 0 [120] a1.data.toList) [120] b1.data.toList) (setNum (setMap f0 0 [120] a1.data.toList) (setNum f0 0 [120] a1.data.toList) [120] b1.data.toList) ∧ _) at hs4
          rw [C2.out] at hs4
          have HS4 := Lib.hid hs4
          have HG4 := Lib.hid hg4
          have HZ4 := Lib.hid hz4
          clear hs4 hv4 hg4 hz4
          go_wp2_with fail
          refine HS4.out.mono ?_
          rintro e w5 ⟨rfl, hv5, hg5, hz5⟩
          have hs5 := set_any w5 _ _ _ _ hv5 (by omega) ⟨#[121]⟩ ⟨#[119]⟩ (by decide)
          change Calls Tryd.prog 12 _ w5 (fun e w' => e = .returned (.int .i64 (setCode (setMap (setMap f0 0 [120] a1.data.toList) (setNum f0 0 [120] a1.data.toList) [120] b1.data.toList) (setNum (setMap f0 0 [120] a1.data.toList) (setNum f0 0 [120] a1.data.toList) [120] b1.data.toList) [121] [119])) ∧ VarsAt w' _ _ (f3 a1.data.toList b1.data.toList) _ ∧ _) at hs5
          rw [C3.out] at hs5
          have HS5 := Lib.hid hs5
          have HG5 := Lib.hid hg5
          have HZ5 := Lib.hid hz5
          clear hs5 hv5 hg5 hz5
          go_wp2_with fail
          refine HS5.out.mono ?_
          rintro e w6 ⟨rfl, hv6, hg6, hz6⟩
          have hgt := get_any w6 _ _ _ _ hv6 ⟨#[120]⟩ (by decide)
          change Calls Tryd.prog 13 _ w6 (fun e w' => e = .returned (.tuple #[.string ⟨((f3 a1.data.toList b1.data.toList [120]).getD []).toArray⟩, .bool (f3 a1.data.toList b1.data.toList [120]).isSome]) ∧ w' = w6) at hgt
          rw [EV2.out] at hgt
          simp only [Option.getD_some, Option.isSome_some, bytes_self] at hgt
          have HGT := Lib.hid hgt
          have HV6 := Lib.hid hv6
          have HG6 := Lib.hid hg6
          have HZ6 := Lib.hid hz6
          clear hgt hv6 hg6 hz6
          go_wp2_with fail
          refine HGT.out.mono ?_
          rintro e w7 ⟨rfl, rfl⟩
          have hbz : Below w'.heap.size w' w7 := chain4 HB2.out HB3.out HG4.out HG5.out HG6.out HZ4.out HZ5.out HZ6.out (Nat.le_refl _)
          have hm7 := HM1.out.below hbz (by have := HB1.out.size; omega)
          have hx7 := expand_any HV6.out hm7 (u ++ [36, 120, 36, 121] ++ [36, 120]) (by simp; omega) (setMap_le (setMap_le (setMap_le none_le _ _ _) _ _ _) _ _ _)
          unfold ExpandEnd at hx7
          rw [HEX.out, ← cat_mk, ← cat_mk] at hx7
          simp only [Option.getD_some, Option.isSome_some] at hx7
          rw [← cat_mk, ← cat_mk, ← cat_mk, bytes_self] at hx7
          have HX7 := Lib.hid hx7
          have HBZ := Lib.hid hbz
          clear hx7 hbz hm7
          go_wp2_with fail
          refine HX7.out.mono ?_
          rintro e w8 ⟨rfl, hb8⟩
          have HB8 := Lib.hid hb8
          clear hb8
          go_wp2_with fail
          go_ret
          exact ⟨rfl, chain (chain HB1.out HBZ.out) HB8.out⟩
end Go.Proofs.YtlggegjjhbknaaaDoor

