import Derived.Test.YtlggegjjhbknaaaDoorVl0
import Derived.Lib.ItoaNum
namespace Go.Proofs.YtlggegjjhbknaaaDoor
open Go.RowKit Go.Shelf Go.Lib Go.Maps Go.WideMaps

def tenP (i : Nat) : Nat := 10 ^ (20 - i)
theorem tenP_zero (x : Nat) (h : x ≤ 9223372036854775808) : x < tenP 0 := by
  unfold tenP
  have : (10 : Nat) ^ (20 - 0) = 100000000000000000000 := by decide
  rw [this]; omega
theorem tenP_succ (i x : Nat) (hi : i ≤ 19) (h : x < tenP i) : x / 10 < tenP (i + 1) := by
  unfold tenP at h ⊢
  have e : 20 - i = (20 - (i + 1)) + 1 := by omega
  rw [e, Nat.pow_succ] at h
  omega
theorem tenP_last (i x : Nat) (hi : 19 ≤ i) (h : x < tenP i) : x < 10 := by
  unfold tenP at h
  have : 20 - i ≤ 1 := by omega
  have h2 : (10 : Nat) ^ (20 - i) ≤ 10 ^ 1 := Nat.pow_le_pow_right (by decide) this
  omega

def ten : ByteArray := ⟨#[48, 49, 50, 51, 52, 53, 54, 55, 56, 57]⟩
theorem ten_ext (d : Nat) (h : d < 10) : ten.extract d (d + 1) = ⟨[UInt8.ofNat (48 + d)].toArray⟩ := by
  have : ∀ d : Fin 10, ten.extract d.val (d.val + 1) = ⟨[UInt8.ofNat (48 + d.val)].toArray⟩ := by decide +kernel
  exact this ⟨d, h⟩

theorem decDigits_small {u : Nat} (h : u < 10) : decDigits u = [UInt8.ofNat (48 + u)] := by rw [decDigits, dif_pos h]
theorem decDigits_step {u : Nat} (h : ¬ u < 10) : decDigits u = decDigits (u / 10) ++ [UInt8.ofNat (48 + u % 10)] := by rw [decDigits, dif_neg h]

def DigRel (u : Nat) (xv sv iv : Value) : Prop :=
  ∃ (i x : Nat) (acc : Bs), i ≤ 19 ∧ iv = .int .i64 i ∧ xv = .int .u64 x ∧ sv = .string ⟨acc.toArray⟩ ∧ x < tenP i ∧ x ≤ 9223372036854775808 ∧ acc.length ≤ i ∧ decDigits u = decDigits x ++ acc

set_option maxHeartbeats 1000000 in
theorem digits_nat (n : Nat) (hn : n ≤ 9223372036854775807) (w : World) :
    Calls Tryd.prog 14 #[.int .i64 n] w fun e w' => e = .returned (.string ⟨(decDigits n).toArray⟩) ∧ w' = w := by
  go_enter Tryd.func14, Tryd.ntmps14
  go_wp2_with fail
  go_loop [3, 4, 5] (fun xv sv iv => DigRel n xv sv iv) (fun _ _ iv => 20 - (RowKit.intOf iv).toNat)
  case atStart => exact ⟨0, n, [], by omega, rfl, rfl, rfl, tenP_zero n (by omega), by omega, by simp, by simp⟩
  case round =>
    obtain ⟨i, x, acc, hi, rfl, rfl, rfl, hp, hx, hacc, hd⟩ := hrel
    have HP := Lib.hid hp
    have HD := Lib.hid hd
    clear hp hd
    have hm : x % 10 < 10 := Nat.mod_lt _ (by decide)
    have hte := ten_ext (x % 10) hm
    unfold ten at hte
    by_cases h10 : x < 10
    · go_wp2_with fail
      go_ret
      refine ⟨?_, rfl⟩
      have hxm : x % 10 = x := Nat.mod_eq_of_lt h10
      have e : decDigits n = UInt8.ofNat (48 + x) :: acc := by rw [HD.out, decDigits_small h10]; rfl
      rw [e]
      simp only [hxm]
      have e2 : (48 : UInt8) + UInt8.ofNat x = UInt8.ofNat (48 + x) := by rw [UInt8.ofNat_add]; rfl
      have e3 := cat_mk [UInt8.ofNat (48 + x)] acc
      simp only [List.cons_append, List.nil_append] at e3
      rw [← e3, ← e2]
      rfl
    · have hi2 : i ≤ 18 := by
        rcases Nat.lt_or_ge i 19 with h | h
        · omega
        · have := tenP_last i x h HP.out; omega
      go_wp2_with fail
      go_roundw
      case rel =>
        have e2 : (48 : UInt8) + UInt8.ofNat (x % 10) = UInt8.ofNat (48 + x % 10) := by rw [UInt8.ofNat_add]; rfl
        have e3 := cat_mk [UInt8.ofNat (48 + x % 10)] acc
        rw [← e2] at e3
        refine ⟨i + 1, x / 10, UInt8.ofNat (48 + x % 10) :: acc, by omega, by go_num, by simp, ?_, tenP_succ i x (by omega) HP.out, by omega, by simp; omega, ?_⟩
        · rw [← e2]
          exact congrArg Value.string e3
        · rw [HD.out, decDigits_step h10]; simp
      case measure => simp [RowKit.intOf]; omega
end Go.Proofs.YtlggegjjhbknaaaDoor
