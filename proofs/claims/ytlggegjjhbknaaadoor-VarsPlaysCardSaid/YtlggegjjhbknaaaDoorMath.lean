namespace VM
abbrev Bs := List UInt8
def small (c : UInt8) : Bool := decide (97 ≤ c) && decide (c ≤ 122)
def more (c : UInt8) : Bool := small c || (decide (48 ≤ c) && decide (c ≤ 57)) || c == 95

/-- A piece of a text: a byte, or a name. -/
inductive Tok | ch (c : UInt8) | nm (s : Bs)
deriving DecidableEq

inductive St | norm | sign | name (acc : Bs)

def cons? (t : Tok) : Option (List Tok) → Option (List Tok)
  | none => none
  | some l => some (t :: l)

def parse : St → Bs → Option (List Tok)
  | .norm, [] => some []
  | .norm, c :: r => if c = 36 then parse .sign r else cons? (.ch c) (parse .norm r)
  | .sign, [] => none
  | .sign, c :: r => if c = 36 then cons? (.ch 36) (parse .norm r) else if small c then parse (.name [c]) r else none
  | .name acc, [] => some [.nm acc]
  | .name acc, c :: r => if more c then parse (.name (acc ++ [c])) r else cons? (.nm acc) (if c = 36 then parse .sign r else cons? (.ch c) (parse .norm r))

theorem parse_name (acc l : Bs) : parse (.name acc) l = cons? (.nm (acc ++ l.takeWhile more)) (parse .norm (l.dropWhile more)) := by
  induction l generalizing acc with
  | nil => simp [parse, cons?]
  | cons c r ih =>
    by_cases h : more c
    · simp [parse, h, ih]
    · simp [parse, h]

def names (l : List Tok) : List Bs := l.filterMap fun | .nm s => some s | .ch _ => none

def out (m : Bs → Option Bs) : List Tok → Option Bs
  | [] => some []
  | .ch c :: r => (out m r).map (c :: ·)
  | .nm s :: r => match m s with
    | none => none
    | some v => (out m r).map (v ++ ·)

def expand (m : Bs → Option Bs) (t : Bs) : Option Bs := (parse .norm t).bind (out m)

def cat? : Option (List Tok) → Option (List Tok) → Option (List Tok)
  | some a, some b => some (a ++ b)
  | _, _ => none

theorem cat_cons (t : Tok) (a b : Option (List Tok)) : cat? (cons? t a) b = cons? t (cat? a b) := by
  cases a <;> cases b <;> rfl

/-- two texts, a blank between -/
theorem parse_blank (s : St) (a b : Bs) : parse s (a ++ 32 :: b) = cat? (parse s a) (cons? (.ch 32) (parse .norm b)) := by
  induction a generalizing s with
  | nil =>
    cases s with
    | norm => simp [parse, cat?]; cases parse .norm b <;> rfl
    | sign => simp [parse, cat?, small]
    | name acc =>
      simp [parse, more, small]
      cases parse .norm b <;> rfl
  | cons c r ih =>
    cases s with
    | norm =>
      simp only [List.cons_append, parse]
      split
      · exact ih _
      · rw [ih, cat_cons]
    | sign =>
      simp only [List.cons_append, parse]
      split
      · rw [ih, cat_cons]
      · split
        · exact ih _
        · cases parse .norm b <;> rfl
    | name acc =>
      simp only [List.cons_append, parse]
      split
      · exact ih _
      · rw [cat_cons]
        split
        · rw [ih]
        · rw [ih, cat_cons]

theorem out_append (m : Bs → Option Bs) (a b : List Tok) : out m (a ++ b) = (out m a).bind fun x => (out m b).map (x ++ ·) := by
  induction a with
  | nil => simp [out]
  | cons t r ih =>
    cases t with
    | ch c => simp only [List.cons_append, out, ih]; cases out m r <;> simp [Function.comp_def]
    | nm s =>
      simp only [List.cons_append, out, ih]
      cases m s with
      | none => rfl
      | some v => cases out m r <;> simp; cases out m b <;> simp

theorem names_append (a b : List Tok) : names (a ++ b) = names a ++ names b := by simp [names, List.filterMap_append]

def double : Bs → Bs
  | [] => []
  | c :: r => if c = 36 then 36 :: 36 :: double r else c :: double r

theorem parse_double (t : Bs) : parse .norm (double t) = some (t.map .ch) := by
  induction t with
  | nil => rfl
  | cons c r ih =>
    unfold double
    split
    · rename_i h; subst h; simp [parse, ih, cons?]
    · rename_i h; simp [parse, h, ih, cons?]

def bare (t : Bs) : Bs := t.filter (· ≠ 36)

theorem parse_bare (t r : Bs) : parse .norm (bare t ++ r) = cat? (some ((bare t).map .ch)) (parse .norm r) := by
  induction t with
  | nil => simp [bare]; cases parse .norm r <;> rfl
  | cons c s ih =>
    unfold bare at ih ⊢
    by_cases h : c = 36
    · simp [h]; simpa using ih
    · simp [h, parse] at ih ⊢
      rw [ih]
      cases parse .norm r <;> rfl

theorem out_chars (m : Bs → Option Bs) (t : Bs) : out m (t.map .ch) = some t := by
  induction t with
  | nil => rfl
  | cons c r ih => simp [out, ih]

theorem names_chars (t : Bs) : names (t.map .ch) = [] := by
  induction t with
  | nil => rfl
  | cons c r ih => simp [names]

theorem parse_plain (t : Bs) (h : 36 ∉ t) : parse .norm t = some (t.map .ch) := by
  induction t with
  | nil => rfl
  | cons c r ih =>
    simp only [List.mem_cons, not_or] at h
    simp [parse, Ne.symm h.1, ih h.2, cons?]

theorem parse_ahead (a r : Bs) (h : 36 ∉ a) : parse .norm (a ++ 36 :: r) = cat? (some (a.map .ch)) (parse .sign r) := by
  induction a with
  | nil => simp [parse, cat?]; cases parse .sign r <;> rfl
  | cons c s ih =>
    simp only [List.mem_cons, not_or] at h
    simp only [List.cons_append, parse, if_neg (Ne.symm h.1), ih h.2, List.map_cons]
    cases parse .sign r <;> rfl

/-- What 'cut' tells of a text behind a sign. -/
def cutS : Bs → Bs × Bs × Bool
  | [] => ([], [], false)
  | c :: r => if c = 36 then ([36], r, true) else if small c then ((c :: r).takeWhile more, (c :: r).dropWhile more, true) else ([], [], false)

theorem small_more (c : UInt8) (h : small c = true) : more c = true := by simp [more, h]

theorem parse_sign_bad (r : Bs) (h : (cutS r).2.2 = false) : parse .sign r = none := by
  cases r with
  | nil => rfl
  | cons c s =>
    simp only [cutS] at h
    rw [parse]
    split at h
    · cases h
    · rename_i h1
      split at h
      · cases h
      · rename_i h2
        rw [if_neg h1, if_neg h2]

theorem parse_sign_sign (r b : Bs) (h : cutS r = ([36], b, true)) : parse .sign r = cons? (.ch 36) (parse .norm b) := by
  cases r with
  | nil => cases h
  | cons c s =>
    simp only [cutS] at h
    rw [parse]
    split at h
    · rename_i h1
      simp only [Prod.mk.injEq] at h
      rw [if_pos h1, h.2.1]
    · rename_i h1
      split at h
      · rename_i h2
        exfalso
        simp only [Prod.mk.injEq, List.takeWhile_cons, small_more c h2, if_true, List.cons.injEq] at h
        exact h1 h.1.1
      · simp at h

theorem parse_sign_name (r s b : Bs) (h : cutS r = (s, b, true)) (hs : s ≠ [36]) : parse .sign r = cons? (.nm s) (parse .norm b) := by
  cases r with
  | nil => cases h
  | cons c t =>
    simp only [cutS] at h
    rw [parse]
    split at h
    · simp only [Prod.mk.injEq] at h
      exact absurd h.1.symm hs
    · rename_i h1
      split at h
      · rename_i h2
        rw [if_neg h1, if_pos h2, parse_name]
        simp only [Prod.mk.injEq, List.takeWhile_cons, List.dropWhile_cons, small_more c h2, if_true] at h
        obtain ⟨rfl, rfl, _⟩ := h
        rfl
      · simp at h

theorem cutS_len (r s b : Bs) (h : cutS r = (s, b, true)) : b.length < r.length := by
  cases r with
  | nil => cases h
  | cons c t =>
    simp only [cutS] at h
    split at h
    · simp only [Prod.mk.injEq] at h
      obtain ⟨_, rfl, _⟩ := h
      simp
    · split at h
      · rename_i h2
        simp only [Prod.mk.injEq, List.takeWhile_cons, List.dropWhile_cons, small_more c h2, if_true] at h
        obtain ⟨_, rfl, _⟩ := h
        have := congrArg List.length (List.takeWhile_append_dropWhile (p := more) (l := t))
        rw [List.length_append] at this
        simp; omega
      · simp at h

theorem cutS_name_len (r s b : Bs) (h : cutS r = (s, b, true)) : s.length ≤ r.length := by
  cases r with
  | nil => cases h
  | cons c t =>
    simp only [cutS] at h
    split at h
    · simp only [Prod.mk.injEq] at h
      obtain ⟨rfl, _, _⟩ := h
      simp
    · split at h
      · simp only [Prod.mk.injEq] at h
        obtain ⟨rfl, _, _⟩ := h
        have := congrArg List.length (List.takeWhile_append_dropWhile (p := more) (l := c :: t))
        rw [List.length_append] at this
        omega
      · simp at h
end VM
