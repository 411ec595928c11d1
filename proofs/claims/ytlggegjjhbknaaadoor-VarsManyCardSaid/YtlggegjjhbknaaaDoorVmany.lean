import Derived.Test.YtlggegjjhbknaaaDoorDig
import Derived.Test.YtlggegjjhbknaaaDoorNumPl
namespace Go.Proofs.YtlggegjjhbknaaaDoor
open Go.RowKit Go.Shelf Go.Lib Go.Maps Go.WideMaps

def xk (i : Nat) : Bs := 120 :: decDigits i
def vk (i : Nat) : Bs := 118 :: decDigits i
theorem xk_inj {i j : Nat} (h : xk i = xk j) : i = j := by
  unfold xk at h
  have e := (List.cons.inj h).2
  have := congrArg (SP.valF 0) e
  rwa [SP.valF_decDigits, SP.valF_decDigits] at this
theorem dec_len {k : Nat} (h : k < 100) : (decDigits k).length ≤ 2 := by
  rw [decDigits_length]
  by_cases h1 : k < 10
  · rw [nDigits_small h1]; omega
  · rw [nDigits_big h1, nDigits_small (by omega)]; omega
theorem xk_cat (k : Nat) : (⟨#[120]⟩ : ByteArray) ++ ⟨(decDigits k).toArray⟩ = ⟨(xk k).toArray⟩ := cat_mk [120] (decDigits k)
theorem vk_cat (k : Nat) : (⟨#[118]⟩ : ByteArray) ++ ⟨(decDigits k).toArray⟩ = ⟨(vk k).toArray⟩ := cat_mk [118] (decDigits k)

/-- What is held behind k rounds. -/
def Held (f : KV) (k : Nat) : Prop := ∀ j, f (xk j) = if j < k ∧ j < 16 then some (vk j) else none

theorem Held.step {f : KV} {k : Nat} (h : Held f k) (hk : k < 16) : Held (upd f (xk k) (vk k)) (k + 1) := by
  intro j
  unfold upd
  by_cases hj : j = k
  · subst hj; rw [if_pos rfl, if_pos (by omega)]
  · rw [if_neg (fun e => hj (xk_inj e)), h j]
    by_cases h1 : j < k ∧ j < 16
    · rw [if_pos h1, if_pos (by omega)]
    · rw [if_neg h1, if_neg (by omega)]
theorem Held.stay {f : KV} {k : Nat} (h : Held f k) (hk : 16 ≤ k) : Held f (k + 1) := by
  intro j
  rw [h j]
  by_cases h1 : j < k ∧ j < 16
  · rw [if_pos h1, if_pos (by omega)]
  · rw [if_neg h1, if_neg (by omega)]

theorem xk_size (k : Nat) (hl : (decDigits k).length ≤ 2) : (⟨(xk k).toArray⟩ : ByteArray).size ≤ maxLen := by
  have : (⟨(xk k).toArray⟩ : ByteArray).size = (xk k).length := by simp [ByteArray.size]
  rw [this]; unfold xk maxLen; simp; omega

theorem set_many {w : World} {p b k : Nat} {f : KV} (h : VarsAt w p b f (min k 16)) (hf : Held f k) (hk : k < 31) :
    Calls Tryd.prog 12 #[.pointer (some ⟨p, 0, none⟩), .string (⟨#[120]⟩ ++ ⟨(decDigits k).toArray⟩), .string (⟨#[118]⟩ ++ ⟨(decDigits k).toArray⟩)] w fun e w' => e = .returned (.int .i64 (if k < 16 then 0 else 72)) ∧ ∃ f', VarsAt w' p b f' (min (k + 1) 16) ∧ Held f' (k + 1) ∧ w.grownBy w' (some b) ∧ w'.heap.size = w.heap.size := by
  rw [xk_cat, vk_cat]
  have hl := dec_len (k := k) (by omega)
  have hs := set_any w p b (min k 16) f h (by omega) ⟨(xk k).toArray⟩ ⟨(vk k).toArray⟩ (xk_size k hl)
  refine hs.mono fun e w' ⟨he, hv, hg, hz⟩ => ?_
  simp only at he hv
  have hn : f (xk k) = none := by rw [hf k, if_neg (by omega)]
  have hvl : ¬ 1000 < (vk k).length := by unfold vk; simp; omega
  by_cases h16 : k < 16
  · have hc : setCode f (min k 16) (xk k) (vk k) = 0 := by
      unfold setCode; rw [if_neg hvl, if_neg (by omega)]
    have hmap : setMap f (min k 16) (xk k) (vk k) = upd f (xk k) (vk k) := by unfold setMap; rw [if_pos hc]
    have hnum : setNum f (min k 16) (xk k) (vk k) = min (k + 1) 16 := by unfold setNum; rw [if_pos ⟨hc, by rw [hn]; rfl⟩]; omega
    rw [hc] at he
    rw [hmap, hnum] at hv
    rw [if_pos h16]
    exact ⟨he, _, hv, hf.step h16, hg, hz⟩
  · have hc : setCode f (min k 16) (xk k) (vk k) = 72 := by
      unfold setCode; rw [if_neg hvl, if_pos ⟨by rw [hn]; rfl, by omega⟩]
    have hmap : setMap f (min k 16) (xk k) (vk k) = f := by unfold setMap; rw [hc, if_neg (by decide)]
    have hnum : setNum f (min k 16) (xk k) (vk k) = min (k + 1) 16 := by unfold setNum; rw [hc, if_neg (by simp)]; omega
    rw [hc] at he
    rw [hmap, hnum] at hv
    rw [if_neg h16]
    exact ⟨he, _, hv, hf.stay (by omega), hg, hz⟩

theorem set_other {w : World} {p b k q : Nat} {f : KV} (h : VarsAt w p b f (min k 16)) (hf : Held f k) (hk : k < 31) (hq : q < 16) (hqk : q < k) :
    Calls Tryd.prog 12 #[.pointer (some ⟨p, 0, none⟩), .string (⟨#[120]⟩ ++ ⟨(decDigits q).toArray⟩), .string ⟨#[111, 116, 104, 101, 114]⟩] w fun e w' => e = .returned (.int .i64 0) ∧ VarsAt w' p b (upd f (xk q) [111, 116, 104, 101, 114]) (min k 16) ∧ w.grownBy w' (some b) ∧ w'.heap.size = w.heap.size := by
  rw [xk_cat]
  have hl := dec_len (k := q) (by omega)
  have hs := set_any w p b (min k 16) f h (by omega) ⟨(xk q).toArray⟩ ⟨#[111, 116, 104, 101, 114]⟩ (xk_size q hl)
  refine hs.mono fun e w' ⟨he, hv, hg, hz⟩ => ?_
  simp only at he hv
  have hn : f (xk q) = some (vk q) := by rw [hf q, if_pos ⟨hqk, hq⟩]
  have hc : setCode f (min k 16) (xk q) [111, 116, 104, 101, 114] = 0 := by
    unfold setCode; rw [if_neg (by decide), if_neg (by rw [hn]; simp)]
  have hmap : setMap f (min k 16) (xk q) [111, 116, 104, 101, 114] = upd f (xk q) [111, 116, 104, 101, 114] := by unfold setMap; rw [if_pos hc]
  have hnum : setNum f (min k 16) (xk q) [111, 116, 104, 101, 114] = min k 16 := by unfold setNum; rw [if_neg (by rw [hn]; simp)]
  rw [hc] at he
  rw [hmap, hnum] at hv
  exact ⟨he, hv, hg, hz⟩

theorem get_xk {w : World} {p b m i : Nat} {f : KV} (h : VarsAt w p b f m) (hi : i < 31) (v : ByteArray) (hf : f (xk i) = some v.data.toList) :
    Calls Tryd.prog 13 #[.pointer (some ⟨p, 0, none⟩), .string (⟨#[120]⟩ ++ ⟨(decDigits i).toArray⟩)] w fun e w' => e = .returned (.tuple #[.string v, .bool true]) ∧ w' = w := by
  rw [xk_cat]
  have hg := get_any w p b m f h ⟨(xk i).toArray⟩ (xk_size i (dec_len (by omega)))
  simp only [hf, Option.getD_some, Option.isSome_some, bytes_self] at hg
  exact hg

theorem get_none {w : World} {p b m i : Nat} {f : KV} (h : VarsAt w p b f m) (hi : i < 31) (hf : f (xk i) = none) :
    Calls Tryd.prog 13 #[.pointer (some ⟨p, 0, none⟩), .string (⟨#[120]⟩ ++ ⟨(decDigits i).toArray⟩)] w fun e w' => e = .returned (.tuple #[.string ⟨#[]⟩, .bool false]) ∧ w' = w := by
  rw [xk_cat]
  have hg := get_any w p b m f h ⟨(xk i).toArray⟩ (xk_size i (dec_len (by omega)))
  simp only [hf, Option.getD_none, Option.isSome_none] at hg
  exact hg

def ManyRel (p b n : Nat) (w : World) (iv : Value) (wr : World) : Prop :=
  ∃ (k : Nat) (f : KV), k ≤ n ∧ iv = .int .i64 k ∧ VarsAt wr p b f (min k 16) ∧ Held f k ∧ Below b w wr

set_option maxHeartbeats 4000000 in
theorem many_law (many again : Nat) (h1 : many ≤ 255) (h2 : again ≤ 255) (w : World) (hm : ML w) (h0 : 0 < w.heap.size) :
    Calls Tryd.prog 4 #[.int .u8 many, .int .u8 again] w fun e w' => e = .returned (.bool true) ∧ Below w.heap.size w w' := by
  have hn31 : many % 31 < 31 := Nat.mod_lt _ (by decide)
  go_enter Tryd.func4, Tryd.ntmps4
  go_wp2_with fail
  refine (shown_any hm h0).mono ?_
  rintro e w1 ⟨rfl, hb1⟩
  have HB1 := Lib.hid hb1
  clear hb1
  go_wp2_with fail
  refine (new_any _).mono ?_
  rintro e w2 ⟨rfl, hv2, hb2, hz2⟩
  have HV2 := Lib.hid hv2
  have HB2 := Lib.hid hb2
  clear hv2 hb2 hz2
  go_wp2_with fail
  have en : ((many : Int) % 31) = ((many % 31 : Nat) : Int) := by omega
  rw [en]
  clear en
  generalize many % 31 = n at hn31 ⊢
  go_loopw [8] (fun iv wr => ManyRel (w1.heap.size + 1) w1.heap.size n w2 iv wr) (fun iv _ => 31 - (RowKit.intOf iv).toNat)
  case atStart => exact ⟨0, _, by omega, rfl, HV2.out, fun j => by simp, Below.refl _ _⟩
  case round =>
    obtain ⟨k, f, hk, rfl, hv, hf, hb⟩ := hrel
    have HV := Lib.hid hv
    have HF := Lib.hid hf
    have HB := Lib.hid hb
    clear hv hf hb
    by_cases hlt : k < n
    · have hl := dec_len (k := k) (by omega)
      have hset := set_many HV.out HF.out (by omega)
      by_cases h16 : k < 16
      · rw [if_pos h16] at hset
        have HS := Lib.hid hset
        clear hset
        go_wp2_with (first | (go_at_call 14; refine (digits_nat k (by omega) _).mono ?_; rintro e w' ⟨rfl, rfl⟩) | (go_at_call 12; refine HS.out.mono ?_; rintro e w' ⟨rfl, f', hv', hf', hg', hz'⟩; have HV' := Lib.hid hv'; have HF' := Lib.hid hf'; have HG' := Lib.hid hg'; have HZ' := Lib.hid hz'; clear hv' hf' hg' hz'))
        go_roundw
        case rel => exact ⟨k + 1, f', by omega, by go_num, HV'.out, HF'.out, HB.out.grown HG'.out (by have := HB.out.size; have := HV2.out.ltb; omega) (fun j hj => by injection hj with hj; omega)⟩
        case measure => simp [RowKit.intOf]; omega
      · rw [if_neg h16] at hset
        have HS := Lib.hid hset
        clear hset
        go_wp2_with (first | (go_at_call 14; refine (digits_nat k (by omega) _).mono ?_; rintro e w' ⟨rfl, rfl⟩) | (go_at_call 12; refine HS.out.mono ?_; rintro e w' ⟨rfl, f', hv', hf', hg', hz'⟩; have HV' := Lib.hid hv'; have HF' := Lib.hid hf'; have HG' := Lib.hid hg'; have HZ' := Lib.hid hz'; clear hv' hf' hg' hz'))
        go_roundw
        case rel => exact ⟨k + 1, f', by omega, by go_num, HV'.out, HF'.out, HB.out.grown HG'.out (by have := HB.out.size; have := HV2.out.ltb; omega) (fun j hj => by injection hj with hj; omega)⟩
        case measure => simp [RowKit.intOf]; omega
    · have hkn : k = n := by omega
      have hnn := hkn
      clear hkn
      by_cases hz : n = 0
      · have hn0 : ((n : Int) == 0) = true := by simp [hz]
        have hlen := len_any wr _ _ _ _ HV.out
        have e0 : min k 16 = 0 := by omega
        rw [e0] at hlen
        have HL := Lib.hid hlen
        have HZ := Lib.hid hz
        have HK := Lib.hid hnn
        clear hlen hz e0 hnn
        go_wp2_with fail
        refine HL.out.mono ?_
        rintro e w' ⟨rfl, rfl⟩
        go_wp2_with fail
        go_ret
        refine ⟨rfl, chain HB1.out (HB2.out.trans (HB.out.mono (Nat.le_refl _)))⟩
      · have hn0 : ((n : Int) == 0) = false := by simp; omega
        have hmn : ¬ (min (n : Int) 16 = 0) := by omega
        have em : (again : Int) % min (n : Int) 16 = ((again % min n 16 : Nat) : Int) := by
          have : min (n : Int) 16 = ((min n 16 : Nat) : Int) := by omega
          rw [this]; omega
        have hkk : again % min n 16 < min n 16 := Nat.mod_lt _ (by omega)
        have EM := Lib.hid em
        have HK := Lib.hid hnn
        clear em hnn
        go_wp2_with fail
        rw [EM.out]
        clear EM
        generalize again % min n 16 = q at hkk ⊢
        have hq16 : q < 16 := by omega
        have hqn : q < n := by omega
        clear hkk
        have hset := set_other HV.out HF.out (by omega) hq16 (by rw [HK.out]; omega)
        have HS := Lib.hid hset
        clear hset
        refine (digits_nat q (by omega) _).mono ?_
        rintro e w' ⟨rfl, rfl⟩
        have hlq := dec_len (k := q) (by omega)
        go_wp2_with fail
        refine HS.out.mono ?_
        rintro e w5 ⟨rfl, hv5, hg5, hz5⟩
        have HV5 := Lib.hid hv5
        have HG5 := Lib.hid hg5
        have HZ5 := Lib.hid hz5
        clear hv5 hg5 hz5
        go_wp2_with fail
        go_loop [12] (fun iv => ∃ i : Nat, i ≤ n ∧ iv = .int .i64 i) (fun iv => 31 - (RowKit.intOf iv).toNat)
        case atStart => exact ⟨0, by omega, rfl⟩
        case round =>
          obtain ⟨i, hi, rfl⟩ := hrel
          by_cases hin : i < n
          · have hli := dec_len (k := i) (by omega)
            by_cases hiq : i = q
            · subst hiq
              have hget := get_xk HV5.out (i := i) (by omega) ⟨#[111, 116, 104, 101, 114]⟩ (by simp [upd])
              have HGT := Lib.hid hget
              clear hget
              have hqq : ((i : Int) == (i : Int)) = true := by simp
              go_wp2_with (first | (go_at_call 14; refine (digits_nat i (by omega) _).mono ?_; rintro e w' ⟨rfl, rfl⟩) | (go_at_call 13; refine HGT.out.mono ?_; rintro e w' ⟨rfl, rfl⟩))
              go_roundw
              case rel => exact ⟨i + 1, by omega, by go_num⟩
              case measure => simp [RowKit.intOf]; omega
            · have hne : ((i : Int) == (q : Int)) = false := by simp; omega
              have hfi : upd f (xk q) [111, 116, 104, 101, 114] (xk i) = if i < 16 then some (vk i) else none := by
                unfold upd
                rw [if_neg (fun e => hiq (xk_inj e)), HF.out i]
                by_cases h16 : i < 16
                · rw [if_pos ⟨by rw [HK.out]; omega, h16⟩, if_pos h16]
                · rw [if_neg (by omega), if_neg h16]
              by_cases h16 : i < 16
              · rw [if_pos h16] at hfi
                have hget := get_xk HV5.out (i := i) (by omega) (⟨#[118]⟩ ++ ⟨(decDigits i).toArray⟩) (by rw [hfi, vk_cat])
                have HGT := Lib.hid hget
                clear hget hfi
                go_wp2_with (first | (go_at_call 14; refine (digits_nat i (by omega) _).mono ?_; rintro e w' ⟨rfl, rfl⟩) | (go_at_call 13; refine HGT.out.mono ?_; rintro e w' ⟨rfl, rfl⟩))
                go_roundw
                case rel => exact ⟨i + 1, by omega, by go_num⟩
                case measure => simp [RowKit.intOf]; omega
              · rw [if_neg h16] at hfi
                have hget := get_none HV5.out (i := i) (by omega) hfi
                have HGT := Lib.hid hget
                clear hget hfi
                go_wp2_with (first | (go_at_call 14; refine (digits_nat i (by omega) _).mono ?_; rintro e w' ⟨rfl, rfl⟩) | (go_at_call 13; refine HGT.out.mono ?_; rintro e w' ⟨rfl, rfl⟩))
                go_roundw
                case rel => exact ⟨i + 1, by omega, by go_num⟩
                case measure => simp [RowKit.intOf]; omega
          · have hlen := len_any w5 _ _ _ _ HV5.out
            have HL := Lib.hid hlen
            clear hlen
            have hmm : (((min k 16 : Nat) : Int) == min (n : Int) 16) = true := by rw [HK.out]; simp; omega
            go_wp2_with fail
            refine HL.out.mono ?_
            rintro e w' ⟨rfl, rfl⟩
            go_wp2_with fail
            go_ret
            refine ⟨rfl, chain HB1.out ((HB2.out.trans HB.out).grown HG5.out (by have := HB2.out.size; have := HB.out.size; have := HV2.out.ltb; omega) (fun j hj => by injection hj with hj; omega))⟩
end Go.Proofs.YtlggegjjhbknaaaDoor
