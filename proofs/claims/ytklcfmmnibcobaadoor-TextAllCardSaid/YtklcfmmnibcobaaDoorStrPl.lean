import Derived.Lib.ReplaceLaws
import Derived.Lib.Replace
import Derived.Lib.SlTrimSet
namespace SP
open Go Go.Lib
abbrev Bs := List UInt8

/-- One byte in a text: none, or a first place. -/
theorem one_cases (s : Bs) (c : UInt8) : (c ∉ s ∧ index s [c] = -1) ∨ ∃ a r, s = a ++ c :: r ∧ c ∉ a ∧ index s [c] = (a.length : Int) := by
  induction s with
  | nil => exact .inl ⟨by simp, rfl⟩
  | cons b l ih =>
    by_cases h : b = c
    · subst h
      exact .inr ⟨[], l, rfl, by simp, by simp [index_one, indexByte]⟩
    · have hb : (b == c) = false := beq_eq_false_iff_ne.2 h
      rcases ih with ⟨h1, h2⟩ | ⟨a, r, h1, h2, h3⟩
      · refine .inl ⟨by simp [h1, Ne.symm h], ?_⟩
        rw [index_one] at h2 ⊢
        simp [indexByte, hb, h2]
      · refine .inr ⟨b :: a, r, by simp [h1], by simp [h2, Ne.symm h], ?_⟩
        rw [index_one] at h3 ⊢
        have e : ((a.length : Int) == -1) = false := beq_eq_false_iff_ne.2 (by omega)
        simp [indexByte, hb, h3, e]

theorem index_none {s : Bs} {c : UInt8} (h : c ∉ s) : index s [c] = -1 := by
  rcases one_cases s c with ⟨_, h2⟩ | ⟨a, r, h1, _, _⟩
  · exact h2
  · subst h1; simp at h

theorem index_at {a r : Bs} {c : UInt8} (h : c ∉ a) : index (a ++ c :: r) [c] = (a.length : Int) := by
  induction a with
  | nil => simp [index_one, indexByte]
  | cons b l ih =>
    simp only [List.mem_cons, not_or] at h
    have hb : (b == c) = false := beq_eq_false_iff_ne.2 (Ne.symm h.1)
    have h3 := ih h.2
    rw [index_one] at h3 ⊢
    have e : ((l.length : Int) == -1) = false := beq_eq_false_iff_ne.2 (by omega)
    simp [indexByte, hb, h3, e]

theorem cut_none {s : Bs} {c : UInt8} (h : c ∉ s) : cut s [c] = (s, [], false) := by
  unfold cut; rw [index_none h, if_neg (by omega)]

theorem cut_at {a r : Bs} {c : UInt8} (h : c ∉ a) : cut (a ++ c :: r) [c] = (a, r, true) := by
  unfold cut
  rw [index_at h, if_pos (by omega)]
  simp

theorem contains_one (s : Bs) (c : UInt8) : contains s [c] = decide (c ∈ s) := by
  unfold contains
  rcases one_cases s c with ⟨h1, h2⟩ | ⟨a, r, h1, _, h3⟩
  · rw [h2]; simp [h1]
  · rw [h3]; subst h1; simp

/-- A text cut at each of one byte, at most n times. -/
def splitOn (c : UInt8) : Nat → Bs → List Bs
  | 0, s => [s]
  | _ + 1, [] => [[]]
  | n + 1, b :: r => if b = c then [] :: splitOn c n r else match splitOn c (n + 1) r with
    | [] => [[b]]
    | x :: l => (b :: x) :: l
  termination_by _ s => s.length

theorem splitOn_zero (c : UInt8) (s : Bs) : splitOn c 0 s = [s] := by rw [splitOn]
theorem splitOn_none (c : UInt8) (n : Nat) (s : Bs) (h : c ∉ s) : splitOn c n s = [s] := by
  induction s with
  | nil => cases n <;> simp [splitOn]
  | cons b r ih =>
    simp only [List.mem_cons, not_or] at h
    cases n with
    | zero => simp [splitOn]
    | succ n => rw [splitOn, if_neg (Ne.symm h.1), ih h.2]
theorem splitOn_at (c : UInt8) (n : Nat) (a r : Bs) (h : c ∉ a) : splitOn c (n + 1) (a ++ c :: r) = a :: splitOn c n r := by
  induction a with
  | nil => rw [List.nil_append, splitOn, if_pos rfl]
  | cons b l ih =>
    simp only [List.mem_cons, not_or] at h
    rw [List.cons_append, splitOn, if_neg (Ne.symm h.1), ih h.2]

theorem splitK_on (c : UInt8) : ∀ (n : Nat) (s : Bs), splitK [c] 0 n s = splitOn c n s
  | 0, s => by rw [splitOn_zero]; rfl
  | n + 1, s => by
    rcases one_cases s c with ⟨h1, h2⟩ | ⟨a, r, h1, h2, h3⟩
    · rw [splitOn_none c _ s h1]; unfold splitK; rw [h2]; rfl
    · have e : ((a.length : Int) == -1) = false := beq_eq_false_iff_ne.2 (by omega)
      unfold splitK
      rw [h3, e, h1, splitOn_at c n a r h2]
      simp [splitK_on c n r]

theorem splitOn_ne (c : UInt8) (n : Nat) (s : Bs) : splitOn c n s ≠ [] := by
  match n, s with
  | 0, s => simp [splitOn]
  | n + 1, [] => simp [splitOn]
  | n + 1, b :: r =>
    rw [splitOn]
    split
    · simp
    · split <;> simp

theorem splitN_on (c : UInt8) (s : Bs) (n : Nat) : splitN s [c] n = splitOn c (min n (s.length + 1) - 1) s := splitK_on c _ s
theorem split_on (c : UInt8) (s : Bs) : split s [c] = splitOn c (s.count c) s := by
  unfold split; rw [splitK_on, count_one]
/-- More cuts than bytes make no odds. -/
theorem splitOn_more (c : UInt8) : ∀ (n m : Nat) (s : Bs), s.count c ≤ n → s.count c ≤ m → splitOn c n s = splitOn c m s := by
  intro n m s
  rcases one_cases s c with ⟨h1, _⟩ | ⟨a, r, h1, h2, _⟩
  · intro _ _; rw [splitOn_none c n s h1, splitOn_none c m s h1]
  · subst h1
    rw [List.count_append, List.count_cons_self]
    intro hn hm
    obtain ⟨n, rfl⟩ : ∃ k, n = k + 1 := ⟨n - 1, by omega⟩
    obtain ⟨m, rfl⟩ : ∃ k, m = k + 1 := ⟨m - 1, by omega⟩
    rw [splitOn_at c n a r h2, splitOn_at c m a r h2, splitOn_more c n m r (by omega) (by omega)]
  termination_by _ _ s => s.length

/-- Words, one byte after the other. -/
def wordsF : Bs → Bs → List Bs
  | acc, [] => if acc = [] then [] else [acc]
  | acc, b :: r => if b = 32 ∨ b = 9 then (if acc = [] then wordsF [] r else acc :: wordsF [] r) else wordsF (acc ++ [b]) r

def tabs (s : Bs) : Bs := s.map fun b => if b = 9 then 32 else b

theorem tabs_none (s : Bs) (h : (9 : UInt8) ∉ s) : tabs s = s :=
  (List.map_congr_left (g := id) fun b hb => by
    have hb9 : ¬ b = 9 := by intro e; subst e; exact h hb
    rw [if_neg hb9]; rfl).trans (List.map_id s)

theorem replaceK_tabs : ∀ (n : Nat) (s : Bs), s.count 9 ≤ n → replaceK [9] [32] n s = tabs s := by
  intro n s
  rcases one_cases s 9 with ⟨h1, h2⟩ | ⟨a, r, h1, h2, h3⟩
  · intro _
    rw [tabs_none s h1]
    cases n with
    | zero => rfl
    | succ n => unfold replaceK; rw [h2]; rfl
  · subst h1
    rw [List.count_append, List.count_cons_self]
    intro hn
    obtain ⟨n, rfl⟩ : ∃ k, n = k + 1 := ⟨n - 1, by omega⟩
    have e := tabs_none a h2
    have e0 : ((a.length : Int) == -1) = false := beq_eq_false_iff_ne.2 (by omega)
    unfold replaceK
    rw [h3, e0]
    simp only [Bool.false_eq_true, if_false, Int.toNat_natCast, List.take_left', List.length_cons, List.length_nil]
    rw [show (a ++ 9 :: r).drop (a.length + (0 + 1)) = r by simp, replaceK_tabs n r (by omega)]
    unfold tabs at e ⊢
    simp [e]
  termination_by _ s => s.length

theorem replaceAll_tabs (s : Bs) : replaceAll s [9] [32] = tabs s := by
  unfold replaceAll replace replaceNum
  rw [if_neg (by decide), if_pos (by omega), replaceK_tabs _ s (by rw [count_one]; exact Nat.le_refl _)]

theorem wordsF_split (acc s : Bs) (n : Nat) (hn : (tabs s).count 32 ≤ n) : wordsF acc s = ((match splitOn 32 n (tabs s) with | [] => [acc] | x :: l => (acc ++ x) :: l).filter fun w => w ≠ []) := by
  induction s generalizing acc n with
  | nil => cases n <;> by_cases h : acc = [] <;> simp [tabs, splitOn, wordsF, h]
  | cons b r ih =>
    by_cases hb : b = 32 ∨ b = 9
    · have e : tabs (b :: r) = 32 :: tabs r := by
        rcases hb with rfl | rfl <;> simp [tabs]
      rw [e] at hn ⊢
      rw [List.count_cons_self] at hn
      obtain ⟨n, rfl⟩ : ∃ k, n = k + 1 := ⟨n - 1, by omega⟩
      rw [wordsF, if_pos hb, splitOn, if_pos rfl, ih [] n (by omega)]
      rcases hs : splitOn 32 n (tabs r) with _ | ⟨x, l⟩
      · exact absurd hs (splitOn_ne _ _ _)
      · by_cases h : acc = [] <;> simp [h, List.filter_cons]
    · have hb1 : ¬ b = 32 := fun e => hb (.inl e)
      have hb2 : ¬ b = 9 := fun e => hb (.inr e)
      have e : tabs (b :: r) = b :: tabs r := by simp [tabs, hb2]
      rw [e] at hn ⊢
      rw [List.count_cons_of_ne (Ne.symm (Ne.symm hb1))] at hn
      rw [wordsF, if_neg hb, ih (acc ++ [b]) n hn]
      cases n with
      | zero => simp [splitOn]
      | succ n =>
        rw [splitOn, if_neg hb1]
        rcases hs : splitOn 32 (n + 1) (tabs r) with _ | ⟨x, l⟩
        · exact absurd hs (splitOn_ne _ _ _)
        · simp

theorem words_split (s : Bs) : (split (replaceAll s [9] [32]) [32]).filter (fun w => w ≠ []) = wordsF [] s := by
  rw [replaceAll_tabs, split_on, wordsF_split [] s _ (Nat.le_refl _)]
  rcases hs : splitOn 32 ((tabs s).count 32) (tabs s) with _ | ⟨x, l⟩
  · exact absurd hs (splitOn_ne _ _ _)
  · simp
end SP
