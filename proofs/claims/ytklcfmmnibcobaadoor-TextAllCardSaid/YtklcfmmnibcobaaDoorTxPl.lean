import Derived.Test.YtklcfmmnibcobaaDoorStrPl
import Derived.Test.YtklcfmmnibcobaaDoorNumPl
namespace SP
open Go Go.Lib

def pl (c : UInt8) : Bool := decide (32 ≤ c.toNat) && decide (c.toNat ≤ 126)

theorem words_blank (l : Bs) (i fr : Nat) (hi : i < l.length) (hf : fr ≤ i) (hb : l[i] = 32 ∨ l[i] = 9) :
    wordsF ((l.drop fr).take (i - fr)) (l.drop i) = (if fr < i then [(l.drop fr).take (i - fr)] else []) ++ wordsF [] (l.drop (i + 1)) := by
  rw [List.drop_eq_getElem_cons hi, wordsF, if_pos hb]
  by_cases h : fr < i
  · rw [if_pos h, if_neg]
    · rfl
    · intro e
      have := congrArg List.length e
      simp at this; omega
  · have e : (l.drop fr).take (i - fr) = [] := by
      have : i - fr = 0 := by omega
      rw [this]; rfl
    rw [if_neg h, if_pos e]; rfl

theorem words_char (l : Bs) (i fr : Nat) (hi : i < l.length) (hf : fr ≤ i) (hb : ¬ (l[i] = 32 ∨ l[i] = 9)) :
    wordsF ((l.drop fr).take (i - fr)) (l.drop i) = wordsF ((l.drop fr).take (i + 1 - fr)) (l.drop (i + 1)) := by
  rw [List.drop_eq_getElem_cons hi, wordsF, if_neg hb]
  congr 1
  have e : i + 1 - fr = (i - fr) + 1 := by omega
  rw [e, List.take_succ_eq_append_getElem (by simp; omega)]
  congr 2
  simp
  congr 1
  omega

theorem words_end (l : Bs) (fr : Nat) (hf : fr ≤ l.length) :
    wordsF ((l.drop fr).take (l.length - fr)) (l.drop l.length) = if fr < l.length then [(l.drop fr).take (l.length - fr)] else [] := by
  rw [List.drop_length, wordsF]
  by_cases h : fr < l.length
  · rw [if_pos h, if_neg]
    intro e
    have := congrArg List.length e
    simp at this; omega
  · have e : (l.drop fr).take (l.length - fr) = [] := by
      have : l.length - fr = 0 := by omega
      rw [this]; rfl
    rw [if_neg h, if_pos e]

theorem wordsF_len (s : Bs) : ∀ acc, (wordsF acc s).length ≤ s.length + 1 := by
  induction s with
  | nil => intro acc; simp only [wordsF]; split <;> simp
  | cons b r ih =>
    intro acc
    simp only [wordsF]
    split
    · split
      · have := ih []; simp; omega
      · have := ih []; simp; omega
    · have := ih (acc ++ [b]); simp; omega

theorem all_snoc (l : Bs) (i : Nat) (p : UInt8 → Bool) (hi : i < l.length) : (l.take (i + 1)).all p = ((l.take i).all p && p l[i]) := by
  rw [List.take_succ_eq_append_getElem hi, List.all_append]; simp

def plB (l : Bs) : Bool := l.all pl
def dgB (l : Bs) : Bool := l.all isD
theorem plB_nil : plB [] = true := rfl
theorem plB_snoc (l : Bs) (i : Nat) (hi : i < l.length) : plB (l.take (i + 1)) = (plB (l.take i) && pl l[i]) := all_snoc l i pl hi
theorem dgB_snoc (l : Bs) (i : Nat) (hi : i < l.length) : dgB (l.take (i + 1)) = (dgB (l.take i) && isD l[i]) := all_snoc l i isD hi
theorem all_not (l : Bs) (i : Nat) (p : UInt8 → Bool) (hi : i < l.length) (h : p l[i] = false) : l.all p = false := by
  have e : l = l.take i ++ l[i] :: l.drop (i + 1) := by rw [← List.drop_eq_getElem_cons hi, List.take_append_drop]
  rw [e, List.all_append, List.all_cons, h]; simp

theorem plB_not (l : Bs) (i : Nat) (hi : i < l.length) (h : pl l[i] = false) : plB l = false := all_not l i pl hi h
theorem dgB_not (l : Bs) (i : Nat) (hi : i < l.length) (h : isD l[i] = false) : dgB l = false := all_not l i isD hi h
theorem isD_iff (c : UInt8) : isD c = true ↔ 48 ≤ c.toNat ∧ c.toNat ≤ 57 := by simp [isD]
theorem pl_iff (c : UInt8) : pl c = true ↔ 32 ≤ c.toNat ∧ c.toNat ≤ 126 := by simp [pl]
theorem isD_no {c : UInt8} (h : ¬ (48 ≤ c.toNat ∧ c.toNat ≤ 57)) : isD c = false := by
  cases hc : isD c with
  | false => rfl
  | true => exact absurd ((isD_iff c).1 hc) h
theorem pl_no {c : UInt8} (h : ¬ (32 ≤ c.toNat ∧ c.toNat ≤ 126)) : pl c = false := by
  cases hc : pl c with
  | false => rfl
  | true => exact absurd ((pl_iff c).1 hc) h

/-- The number, digit by digit. -/
theorem valF_snoc (l : Bs) (i : Nat) (hi : i < l.length) : valF 0 (l.take (i + 1)) = valF 0 (l.take i) * 10 + dv l[i] := by
  rw [List.take_succ_eq_append_getElem hi, valF_append, valF_cons, valF_nil]; rfl

theorem number_bad {l : Bs} {m : Int} (h : l.all isD = false) : number l m = none := by
  unfold number; rw [if_neg]; rintro ⟨h1, _⟩; rw [h] at h1; cases h1
theorem number_ok {l : Bs} {m : Int} (h : l.all isD = true) (h0 : l ≠ []) (h9 : l.length ≤ 9) (hm : (valF 0 l : Int) ≤ m) : number l m = some (valF 0 l) := by
  unfold number; rw [if_pos ⟨h, h0, h9, hm⟩]
theorem number_big {l : Bs} {m : Int} (hm : ¬ (valF 0 l : Int) ≤ m) : number l m = none := by
  unfold number; rw [if_neg]; rintro ⟨_, _, _, h⟩; exact hm h
theorem number_long {l : Bs} {m : Int} (h9 : ¬ l.length ≤ 9) : number l m = none := by
  unfold number; rw [if_neg]; rintro ⟨_, _, h, _⟩; exact h9 h
theorem number_le {l : Bs} {m : Int} {n : Nat} (h : number l m = some n) : (n : Int) ≤ m ∧ n < 1000000000 ∧ l.all isD = true ∧ l ≠ [] ∧ l.length ≤ 9 := by
  unfold number at h
  split at h
  · rename_i h1
    injection h with h
    obtain ⟨h2, h3, h4, h5⟩ := h1
    refine ⟨by rw [← h]; exact h5, ?_, h2, h3, h4⟩
    have := valF_lt l 0 h2
    have h6 : 10 ^ l.length ≤ 10 ^ 9 := Nat.pow_le_pow_right (by decide) h4
    omega
  · cases h
end SP
