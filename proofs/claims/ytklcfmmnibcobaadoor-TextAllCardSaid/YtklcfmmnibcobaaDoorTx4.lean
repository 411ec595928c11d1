import Derived.Test.YtklcfmmnibcobaaDoorTx1
namespace SP
open Go Go.Lib
/-- What is left of a number, digit by digit from behind. -/
def Dg (u i x : Nat) (s : Bs) : Prop := i ≤ 19 ∧ x * 10 ^ i ≤ u ∧ (1 ≤ x ∨ i = 0) ∧ decDigits u = decDigits x ++ s
theorem Dg.start (u : Nat) : Dg u 0 u [] := ⟨by omega, by simp, .inr rfl, by simp⟩
theorem Dg.last {u i x : Nat} {s : Bs} (h : Dg u i x s) (hx : x / 10 = 0) : decDigits u = UInt8.ofNat (48 + x % 10) :: s := by
  obtain ⟨_, _, _, h4⟩ := h
  have : x < 10 := by omega
  rw [h4, decDigits, dif_pos this, Nat.mod_eq_of_lt this]; rfl
theorem Dg.next {u i x : Nat} {s : Bs} (h : Dg u i x s) (hu : u < 18446744073709551616) (hx : x / 10 ≠ 0) : Dg u (i + 1) (x / 10) (UInt8.ofNat (48 + x % 10) :: s) := by
  obtain ⟨h1, h2, h3, h4⟩ := h
  have h5 : x / 10 * 10 ^ (i + 1) ≤ u := by
    rw [Nat.pow_succ, Nat.mul_comm (10 ^ i) 10, ← Nat.mul_assoc]
    exact Nat.le_trans (Nat.mul_le_mul_right _ (Nat.div_mul_le_self x 10)) h2
  refine ⟨?_, h5, .inl (by omega), ?_⟩
  · by_cases h9 : i + 1 ≤ 19
    · exact h9
    · exfalso
      have : i = 19 := by omega
      subst this
      have : 1 * 10 ^ 20 ≤ x / 10 * 10 ^ 20 := Nat.mul_le_mul_right _ (by omega)
      omega
  · rw [h4, decDigits, dif_neg (by omega)]; simp
theorem dig_ext (k : Nat) (h : k < 10) : (⟨#[48, 49, 50, 51, 52, 53, 54, 55, 56, 57]⟩ : ByteArray).extract k (k + 1) = ⟨#[UInt8.ofNat (48 + k)]⟩ := by
  have h : ∀ k : Fin 10, (⟨#[48, 49, 50, 51, 52, 53, 54, 55, 56, 57]⟩ : ByteArray).extract k.val (k.val + 1) = ⟨#[UInt8.ofNat (48 + k.val)]⟩ := by decide +kernel
  exact h ⟨k, by assumption⟩
end SP
namespace Go.Proofs.YtklcfmmnibcobaaDoor
open Go.RowKit Go.Lib

set_option maxRecDepth 100000 in
set_option maxHeartbeats 2000000 in
theorem rdigits_any (n : Int) (w : World) (h0 : -9223372036854775808 ≤ n) (h1 : n ≤ 9223372036854775807) :
    Calls Tryd.prog 27 #[.int .i64 n] w fun e w' => e = .returned (.string ⟨(Lib.itoa n).toArray⟩) ∧ w' = w := by
  by_cases hn : n < 0
  · have hi : Lib.itoa n = 45 :: decDigits n.natAbs := by unfold Lib.itoa; rw [if_pos hn]
    obtain ⟨u, hu⟩ : ∃ u, n.natAbs = u := ⟨_, rfl⟩
    rw [hu] at hi
    have hu2 : (u : Int) = -n := by omega
    obtain ⟨m, hm⟩ : ∃ m : Int, IntKind.u64.wrap n = m := ⟨_, rfl⟩
    have hm2 : m = n + 18446744073709551616 := by
      rw [← hm]; show n % 18446744073709551616 = _; omega
    have hw : IntKind.u64.wrap (-m) = (u : Int) := by
      show (-m) % 18446744073709551616 = _; omega
    have hub : u < 18446744073709551616 := by omega
    have HI := Lib.hid hi
    have HU := Lib.hid hub
    clear hi hu hm2 hu2 h0 h1 hub
    go_enter Tryd.func27, Tryd.ntmps27
    go_wp2_with fail
    go_loopg [3, 4, 5] 20 (fun g xv sv iv wr => wr = w ∧ ∃ (i x : Nat) (t : ByteArray), g = 20 - i ∧ iv = .int .i64 i ∧ xv = .int .u64 x ∧ x ≤ u ∧ sv = .string t ∧ t.size ≤ i ∧ SP.Dg u i x t.data.toList)
    case atStart => exact ⟨rfl, 0, u, ⟨#[]⟩, by omega, rfl, rfl, Nat.le_refl _, rfl, Nat.le_refl _, SP.Dg.start u⟩
    case round =>
      obtain ⟨rfl, i, x, t, rfl, rfl, rfl, hxu, rfl, hts, hd⟩ := hrel
      have hi := hd.1
      have HD := Lib.hid hd
      have hub := HU.out
      have hm := SP.dig_ext (x % 10) (by omega)
      have hx0 : 0 ≤ (x : Int) := by omega
      have hx1 : (x : Int) ≤ 18446744073709551615 := by omega
      have hmm : ((x : Int) % 10).toNat = x % 10 := by omega
      have hm1 : ((x : Int) % 10 + 1).toNat = x % 10 + 1 := by omega
      have HN := Lib.hid (fun (h : x / 10 ≠ 0) => hd.next HU.out h)
      have HZ := Lib.hid (fun (h : x / 10 = 0) => hd.last h)
      generalize UInt8.ofNat (48 + x % 10) = c at hm HN HZ
      have hcs : (⟨#[c]⟩ ++ t : ByteArray).size = 1 + t.size := by rw [ByteArray.size_append]; rfl
      have hcd : (⟨#[c]⟩ ++ t : ByteArray).data.toList = c :: t.data.toList := by simp
      have HC := Lib.hid hcd
      have HCS := Lib.hid hcs
      clear hd hub hcd hcs HD
      by_cases hx : x / 10 = 0
      · have hl := HZ.out hx
        have HL := Lib.hid hl
        have hz : ((x : Int) / 10 == 0) = true := by rw [beq_iff_eq]; omega
        clear hl hx
        go_wp2_with fail
        go_ret
        exact ⟨by rw [HI.out, HL.out, ← HC.out]; exact congrArg (fun b => Ending.returned (.string b)) ((congrArg (fun b => (⟨#[45]⟩ : ByteArray) ++ b) (bytes_self _).symm).trans (cat_mk [45] _)), rfl⟩
      · have hl := HN.out hx
        have HL := Lib.hid hl
        have hz : ((x : Int) / 10 == 0) = false := by rw [beq_eq_false_iff_ne]; omega
        clear hl hx
        go_wp2_with fail
        go_roundg (20 - (i + 1))
        case measure => omega
        case rel => exact ⟨rfl, i + 1, x / 10, _, rfl, by go_num, by go_num, by omega, rfl, by rw [HCS.out]; omega, by rw [HC.out]; exact HL.out⟩
  · have hi : Lib.itoa n = decDigits n.toNat := by unfold Lib.itoa; rw [if_neg hn]
    obtain ⟨u, hu⟩ : ∃ u, n.toNat = u := ⟨_, rfl⟩
    rw [hu] at hi
    have hu2 : (u : Int) = n := by omega
    have hw : IntKind.u64.wrap n = (u : Int) := by
      show n % 18446744073709551616 = _; omega
    have hub : u < 18446744073709551616 := by omega
    have HI := Lib.hid hi
    have HU := Lib.hid hub
    clear hi hu hu2 h0 h1 hub
    go_enter Tryd.func27, Tryd.ntmps27
    go_wp2_with fail
    go_loopg [3, 4, 5] 20 (fun g xv sv iv wr => wr = w ∧ ∃ (i x : Nat) (t : ByteArray), g = 20 - i ∧ iv = .int .i64 i ∧ xv = .int .u64 x ∧ x ≤ u ∧ sv = .string t ∧ t.size ≤ i ∧ SP.Dg u i x t.data.toList)
    case atStart => exact ⟨rfl, 0, u, ⟨#[]⟩, by omega, rfl, rfl, Nat.le_refl _, rfl, Nat.le_refl _, SP.Dg.start u⟩
    case round =>
      obtain ⟨rfl, i, x, t, rfl, rfl, rfl, hxu, rfl, hts, hd⟩ := hrel
      have hi := hd.1
      have HD := Lib.hid hd
      have hub := HU.out
      have hm := SP.dig_ext (x % 10) (by omega)
      have hx0 : 0 ≤ (x : Int) := by omega
      have hx1 : (x : Int) ≤ 18446744073709551615 := by omega
      have hmm : ((x : Int) % 10).toNat = x % 10 := by omega
      have hm1 : ((x : Int) % 10 + 1).toNat = x % 10 + 1 := by omega
      have HN := Lib.hid (fun (h : x / 10 ≠ 0) => hd.next HU.out h)
      have HZ := Lib.hid (fun (h : x / 10 = 0) => hd.last h)
      generalize UInt8.ofNat (48 + x % 10) = c at hm HN HZ
      have hcs : (⟨#[c]⟩ ++ t : ByteArray).size = 1 + t.size := by rw [ByteArray.size_append]; rfl
      have hcd : (⟨#[c]⟩ ++ t : ByteArray).data.toList = c :: t.data.toList := by simp
      have HC := Lib.hid hcd
      have HCS := Lib.hid hcs
      clear hd hub hcd hcs HD
      by_cases hx : x / 10 = 0
      · have hl := HZ.out hx
        have HL := Lib.hid hl
        have hz : ((x : Int) / 10 == 0) = true := by rw [beq_iff_eq]; omega
        clear hl hx
        go_wp2_with fail
        go_ret
        exact ⟨by rw [HI.out, HL.out, ← HC.out]; exact congrArg (fun b => Ending.returned (.string b)) (bytes_self _).symm, rfl⟩
      · have hl := HN.out hx
        have HL := Lib.hid hl
        have hz : ((x : Int) / 10 == 0) = false := by rw [beq_eq_false_iff_ne]; omega
        clear hl hx
        go_wp2_with fail
        go_roundg (20 - (i + 1))
        case measure => omega
        case rel => exact ⟨rfl, i + 1, x / 10, _, rfl, by go_num, by go_num, by omega, rfl, by rw [HCS.out]; omega, by rw [HC.out]; exact HL.out⟩
end Go.Proofs.YtklcfmmnibcobaaDoor
