import Derived.Lib.AtoiTie
import Derived.Lib.AtoiAllCases
import Derived.Lib.ItoaNum
namespace SP
open Go Go.Lib

def isD (c : UInt8) : Bool := decide (48 ≤ c.toNat) && decide (c.toNat ≤ 57)
def dv (c : UInt8) : Nat := c.toNat - 48
def tenfold (acc d : Nat) : Nat := acc * 10 + d
def valF (acc : Nat) (l : List UInt8) : Nat := l.foldl (fun a c => tenfold a (dv c)) acc
theorem valF_cons (acc : Nat) (c : UInt8) (r : List UInt8) : valF acc (c :: r) = valF (tenfold acc (dv c)) r := List.foldl_cons ..
theorem valF_nil (acc : Nat) : valF acc [] = acc := List.foldl_nil
/-- The number of a text: digits alone, nine at most, no greater than 'most'. -/
def number (l : List UInt8) (most : Int) : Option Nat :=
  if l.all isD = true ∧ l ≠ [] ∧ l.length ≤ 9 ∧ (valF 0 l : Int) ≤ most then some (valF 0 l) else none

theorem digitVal_isD {c : UInt8} (h : isD c = true) : digitVal c = some (dv c) := by
  simp [isD] at h; simp [digitVal, h, dv]
theorem digitVal_not {c : UInt8} (h : isD c = false) : digitVal c = none := by
  simp [isD] at h; simp [digitVal]; omega

theorem decFrom_val (l : List UInt8) : ∀ (acc : Nat), l.all isD = true → decFrom acc l = some (valF acc l) := by
  induction l with
  | nil => intro acc _; rfl
  | cons c r ih =>
    intro acc h
    simp only [List.all_cons, Bool.and_eq_true] at h
    simp only [decFrom, digitVal_isD h.1, valF_cons]
    exact ih _ h.2

theorem atoi_digits {l : List UInt8} (h : l.all isD = true) (h0 : l ≠ []) : atoi l = some (valF 0 l : Int) := by
  cases l with
  | nil => exact absurd rfl h0
  | cons c r =>
    have hc : isD c = true := by simp only [List.all_cons, Bool.and_eq_true] at h; exact h.1
    have h45 : (c == 45) = false := by rw [beq_eq_false_iff_ne]; rintro rfl; revert hc; decide
    have h43 : (c == 43) = false := by rw [beq_eq_false_iff_ne]; rintro rfl; revert hc; decide
    simp only [atoi, h45, h43, decNat, List.isEmpty_cons, Bool.false_eq_true, if_false]
    rw [decFrom_val _ 0 h]; rfl

theorem atoiAll_digits {l : List UInt8} (h : l.all isD = true) (h0 : l ≠ []) (h9 : l.length ≤ 18) : atoiAll l = .ok (valF 0 l : Int) := by
  rw [atoiAll_short l h9, atoi_digits h h0]; rfl

theorem atoiAll_nil : atoiAll [] = Go.Lib.NumEnd.syntax := rfl

theorem valF_lt (l : List UInt8) : ∀ (acc : Nat), l.all isD = true → valF acc l < (acc + 1) * 10 ^ l.length := by
  induction l with
  | nil => intro acc _; simp [valF_nil]
  | cons c r ih =>
    intro acc h
    simp only [List.all_cons, Bool.and_eq_true] at h
    have := ih (tenfold acc (dv c)) h.2
    have hc : c.toNat ≤ 57 := by have := h.1; simp [isD] at this; omega
    simp only [valF_cons, List.length_cons, Nat.pow_succ]
    refine Nat.lt_of_lt_of_le this ?_
    rw [Nat.mul_comm (10 ^ r.length) 10, ← Nat.mul_assoc]
    exact Nat.mul_le_mul_right _ (by unfold tenfold dv; omega)

theorem valF_append (l r : List UInt8) : ∀ acc, valF acc (l ++ r) = valF (valF acc l) r := by
  induction l with
  | nil => intro acc; rfl
  | cons c t ih => intro acc; rw [List.cons_append, valF_cons, valF_cons, ih]

theorem decDigits_all (u : Nat) : (decDigits u).all isD = true := by
  induction u using Nat.strongRecOn with
  | _ u ih =>
    have d : ∀ k, k < 10 → isD (UInt8.ofNat (48 + k)) = true := by
      intro k hk
      simp [isD]; omega
    by_cases h : u < 10
    · rw [decDigits, dif_pos h, List.all_cons, d u h]; rfl
    · rw [decDigits, dif_neg h, List.all_append, ih (u / 10) (by omega), List.all_cons, d (u % 10) (by omega)]; rfl

theorem valF_decDigits (u : Nat) : valF 0 (decDigits u) = u := by
  induction u using Nat.strongRecOn with
  | _ u ih =>
    have t : ∀ k, k < 10 → (UInt8.ofNat (48 + k)).toNat = 48 + k := by intro k hk; simp; omega
    by_cases h : u < 10
    · rw [decDigits, dif_pos h]; rw [valF_cons, valF_nil]; unfold tenfold dv; rw [t u h]; omega
    · rw [decDigits, dif_neg h, valF_append, ih (u / 10) (by omega)]
      rw [valF_cons, valF_nil]; unfold tenfold dv; rw [t (u % 10) (by omega)]; omega

theorem decDigits_ne (u : Nat) : decDigits u ≠ [] := by
  have := nDigits_pos u
  intro h
  have h2 := decDigits_length u
  rw [h] at h2; simp at h2; omega

theorem number_itoa {n : Nat} {most : Int} (h : n < 1000000000) (hm : (n : Int) ≤ most) : number (itoa n) most = some n := by
  have e : itoa (n : Int) = decDigits n := by unfold itoa; rw [if_neg (by omega)]; simp
  unfold number
  have hl : (decDigits n).length ≤ 9 := by
    rw [decDigits_length]
    by_cases h0 : nDigits n ≤ 9
    · exact h0
    · exfalso
      have : ∀ (k u : Nat), nDigits u = k + 1 → k ≠ 0 → 10 ^ k ≤ u := by
        intro k
        induction k with
        | zero => intro u _ h; exact absurd rfl h
        | succ k ih =>
          intro u hu _
          by_cases h : u < 10
          · rw [nDigits_small h] at hu; omega
          · rw [nDigits_big h] at hu
            by_cases hk : k = 0
            · subst hk; simp; omega
            · have := ih (u / 10) (by omega) hk
              rw [Nat.pow_succ]; omega
      have h1 := this (nDigits n - 1) n (by omega) (by omega)
      have h2 : 10 ^ 9 ≤ 10 ^ (nDigits n - 1) := Nat.pow_le_pow_right (by decide) (by omega)
      omega
  rw [e, if_pos ⟨decDigits_all n, decDigits_ne n, hl, by rw [valF_decDigits]; exact hm⟩, valF_decDigits]
end SP
