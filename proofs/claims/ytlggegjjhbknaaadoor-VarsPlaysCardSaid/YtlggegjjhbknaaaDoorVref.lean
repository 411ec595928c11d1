import Derived.Test.YtlggegjjhbknaaaDoorVparts
namespace Go.Proofs.YtlggegjjhbknaaaDoor
open Go.RowKit Go.Shelf Go.Lib Go.Maps Go.WideMaps

theorem small_eq (c : UInt8) : VM.small c = (decide (97 ≤ c.toNat) && decide (c.toNat ≤ 122)) := by
  unfold VM.small; simp [UInt8.le_iff_toNat_le]
theorem more_eq (c : UInt8) : VM.more c = ((decide (97 ≤ c.toNat) && decide (c.toNat ≤ 122)) || (decide (48 ≤ c.toNat) && decide (c.toNat ≤ 57)) || decide (c.toNat = 95)) := by
  unfold VM.more; rw [small_eq]; simp [UInt8.le_iff_toNat_le, Bool.beq_eq_decide_eq, ← UInt8.toNat_inj]

theorem letter_any (c : UInt8) (first : Bool) (w : World) :
    Calls Tryd.prog 36 #[.int .u8 (c.toNat : Int), .bool first] w fun e w' => e = .returned (.bool (VM.small c || (!first && VM.more c))) ∧ w' = w := by
  rw [small_eq, more_eq]
  go_enter Tryd.func36, Tryd.ntmps36
  go_wp2
  all_goals
    go_ret
    refine ⟨congrArg Ending.returned (congrArg Value.bool ?_), rfl⟩
    rw [Bool.eq_iff_iff]
    simp_all <;> omega
def tokV : List VM.Tok → List Value := fun l => l.flatMap fun | .ch c => [.string ⟨#[c]⟩, .bool false] | .nm s => [.string ⟨s.toArray⟩, .bool true]
def OwnT (B : Nat) (w : World) (v : Value) (l : List VM.Tok) : Prop := w.ownsRow B 65 2 v l.length (tokV l)
theorem info65 : (Tryd.prog.info? 65).map (fun i => (i.zero, i.size, i.bytes)) = some (some (.agg #[.string ⟨#[]⟩, .bool false]), 2, 24) := by kernel_rfl
theorem tokV_snoc (l : List VM.Tok) (t : VM.Tok) : tokV (l ++ [t]) = tokV l ++ tokV [t] := by simp [tokV]

/-- Where the reading of a name stands. -/
def atSt (t : Bs) (k j : Nat) : VM.St := if j = k + 1 then .sign else .name ((t.drop (k + 1)).take (j - (k + 1)))

theorem cat_snoc (acc : List VM.Tok) (x : VM.Tok) (p : Option (List VM.Tok)) : VM.cat? (some acc) (VM.cons? x p) = VM.cat? (some (acc ++ [x])) p := by
  cases p <;> simp [VM.cat?, VM.cons?]

theorem parse_atSt {t : Bs} {k j : Nat} (hk : k + 1 ≤ j) (hj : j < t.length) (h : (VM.small t[j] || (!decide (j = k + 1) && VM.more t[j])) = true) :
    VM.parse (atSt t k j) (t.drop j) = VM.parse (atSt t k (j + 1)) (t.drop (j + 1)) := by
  rw [List.drop_eq_getElem_cons hj]
  unfold atSt
  rw [if_neg (show ¬ j + 1 = k + 1 by omega)]
  by_cases e : j = k + 1
  · subst e
    simp at h
    have h36 : ¬ t[k + 1] = 36 := by intro e; rw [e] at h; revert h; decide
    rw [if_pos rfl, VM.parse, if_neg h36, if_pos h, show k + 1 + 1 - (k + 1) = 1 from by omega, List.drop_eq_getElem_cons (i := k + 1) hj, List.take_succ_cons, List.take_zero]
  · have hm : VM.more t[j] = true := by
      simp [e] at h
      rcases h with h | h
      · exact VM.small_more _ h
      · exact h
    rw [if_neg e, VM.parse, if_pos hm]
    congr 2
    have : j + 1 - (k + 1) = (j - (k + 1)) + 1 := by omega
    rw [this, List.take_succ_eq_append_getElem (by simp; omega)]
    congr 2
    simp
    congr 1
    omega

theorem parse_atEnd {t : Bs} {k j : Nat} (hk : k + 1 < j) (hj : j ≤ t.length) (h : ∀ hl : j < t.length, (VM.small t[j] || (!decide (j = k + 1) && VM.more t[j])) = false) :
    VM.parse (atSt t k j) (t.drop j) = VM.cons? (.nm ((t.drop (k + 1)).take (j - (k + 1)))) (VM.parse .norm (t.drop j)) := by
  unfold atSt
  rw [if_neg (by omega), VM.parse_name]
  by_cases hl : j < t.length
  · have h1 := h hl
    have hm : VM.more t[j] = false := by
      have hd : decide (j = k + 1) = false := decide_eq_false (by omega)
      rw [hd] at h1
      simp at h1
      exact h1.2
    have e : t.drop j = t[j] :: t.drop (j + 1) := List.drop_eq_getElem_cons hl
    rw [e, List.takeWhile_cons, List.dropWhile_cons, hm]
    simp
  · have e : t.drop j = [] := List.drop_eq_nil_of_le (by omega)
    rw [e]
    simp
end Go.Proofs.YtlggegjjhbknaaaDoor
