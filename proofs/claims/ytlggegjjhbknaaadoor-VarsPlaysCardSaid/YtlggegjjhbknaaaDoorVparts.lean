import Derived.Test.YtlggegjjhbknaaaDoorSame
import Derived.Laws.AppendOwnNone
namespace Go.Proofs.YtlggegjjhbknaaaDoor
open Go.RowKit Go.Shelf Go.Lib Go.Maps Go.WideMaps

theorem namesOf_blank (a b : Bs) : namesOf (a ++ 32 :: b) = match namesOf a, namesOf b with | some x, some y => some (x ++ y) | _, _ => none := by
  unfold namesOf
  rw [VM.parse_blank]
  cases VM.parse .norm a with
  | none => rfl
  | some x =>
    cases VM.parse .norm b with
    | none => rfl
    | some y => simp [VM.cons?, VM.cat?, VM.names]

theorem expand_blank (f : KV) (a b : Bs) : VM.expand f (a ++ 32 :: b) = match VM.expand f a, VM.expand f b with | some x, some y => some (x ++ 32 :: y) | _, _ => none := by
  unfold VM.expand
  rw [VM.parse_blank]
  cases VM.parse .norm a with
  | none => rfl
  | some x =>
    cases VM.parse .norm b with
    | none => cases h : VM.out f x <;> simp [VM.cons?, VM.cat?, h]
    | some y =>
      simp only [VM.cons?, VM.cat?, Option.bind_some, VM.out_append, VM.out]
      cases VM.out f x <;> cases VM.out f y <;> simp

theorem expand_names (f : KV) (a : Bs) (h : namesOf a = none) : VM.expand f a = none := by
  unfold namesOf at h
  unfold VM.expand
  cases hp : VM.parse .norm a with
  | none => rfl
  | some x => rw [hp] at h; cases h

theorem wpList_append_rs {w : World} {ops : Array Oper} {rest : List Oper} {o : Oper} {a : Act} {Q : Exit → Act → World → Prop} (hgd : o.guard = none) (s x : Operand)
    (ho : o.op = .call { callee := .builtin .append, args := #[s, x], argTypes := #[34, 34] }) (B : Nat) (v : Value) (la lb : List Bs) (hown : OwnS B w v la) (hs : a.eval s = v) (src : Value) (hr : RS w src lb) (hx : a.eval x = src)
    (hlen : la.length + lb.length ≤ 100000) (hB : B ≤ w.heap.size)
    (h : ∀ v' w', OwnS B w' v' (la ++ lb) → w.grownBy w' v.ownBlock → wpList Tryd.prog ops Q rest (a.put o.dst v') w') : wpList Tryd.prog ops Q (o :: rest) a w := by
  obtain ⟨i0, hi, hz0, hz1, hz2⟩ := info_parts info9
  rcases hr with ⟨rfl, rfl⟩ | ⟨g, c, rfl, hc⟩
  · refine wpList_append_own_none hgd s x 34 ho B 9 i0 1 Tryd.underlying34 hi v _ _ hs hown hx ?_
    exact h v w (by simpa using hown) (World.grownBy.refl _ _)
  · refine wpList_append_own w hgd s x 34 ho B 9 i0 (.string ⟨#[]⟩) 1 16 Tryd.underlying34 hi hz0 hz1 hz2 rfl (by decide) v _ _ hs hown ⟨g, 0, none⟩ lb.length c (strV lb) hx (by simp [strV]) ?_ ?_ (by unfold maxLen; omega) (by omega) hB ?_
    · intro j u hu
      simp only [strV, List.getElem?_map, Option.map_eq_some_iff] at hu
      obtain ⟨y, hy, rfl⟩ := hu
      rw [Addr.add_lit, Nat.zero_add]
      exact hc j y hy
    · intro u hu
      simp only [strV, List.mem_map] at hu
      obtain ⟨y, _, rfl⟩ := hu
      rfl
    · intro v' w' hown' hg _
      refine h v' w' ?_ hg
      unfold OwnS
      rw [List.length_append]
      simpa [strV] using hown'

theorem OwnS.form {B : Nat} {w : World} {v : Value} {l : List Bs} (h : OwnS B w v l) : ∃ A c, v = .slice A l.length c := by
  rcases h.2 with ⟨rfl, hn⟩ | ⟨g, cap, cur, rfl, _⟩
  · exact ⟨_, _, by rw [hn]⟩
  · exact ⟨_, _, rfl⟩

theorem OwnS.grown {B B' : Nat} {w w' : World} {v u : Value} {l : List Bs} (h : OwnS B w v l) (hg : w.grownBy w' u.ownBlock) (hne : ∀ g, u.ownBlock = some g → B' ≤ g) (hlt : ∀ g, v.ownBlock = some g → g < B') : OwnS B w' v l := by
  refine h.kept hg ?_
  cases hv : v.ownBlock with
  | none => exact .inl rfl
  | some g =>
    refine .inr fun e => ?_
    have h1 := hlt g hv
    have h2 := hne g e.symm
    omega

theorem parse_len (st : VM.St) (t : Bs) : ∀ l, VM.parse st t = some l → l.length ≤ t.length + (match st with | .name _ => 1 | _ => 0) := by
  induction t generalizing st with
  | nil =>
    intro l h
    cases st with
    | norm => simp [VM.parse] at h; subst h; simp
    | sign => simp [VM.parse] at h
    | name acc => simp [VM.parse] at h; subst h; simp
  | cons c r ih =>
    intro l h
    cases st with
    | norm =>
      simp only [VM.parse] at h
      split at h
      · have := ih _ l h; simp at this ⊢; omega
      · cases hp : VM.parse .norm r with
        | none => simp [hp, VM.cons?] at h
        | some q => simp [hp, VM.cons?] at h; subst h; have := ih _ q hp; simp at this ⊢; omega
    | sign =>
      simp only [VM.parse] at h
      split at h
      · cases hp : VM.parse .norm r with
        | none => simp [hp, VM.cons?] at h
        | some q => simp [hp, VM.cons?] at h; subst h; have := ih _ q hp; simp at this ⊢; omega
      · split at h
        · have := ih _ l h; simp at this ⊢; omega
        · cases h
    | name acc =>
      simp only [VM.parse] at h
      split at h
      · have := ih _ l h; simp at this ⊢; omega
      · split at h
        · cases hp : VM.parse .sign r with
          | none => simp [hp, VM.cons?] at h
          | some q => simp [hp, VM.cons?] at h; subst h; have := ih _ q hp; simp at this ⊢; omega
        · cases hp : VM.parse .norm r with
          | none => simp [hp, VM.cons?] at h
          | some q => simp [hp, VM.cons?] at h; subst h; have := ih _ q hp; simp at this ⊢; omega

theorem namesOf_len (t : Bs) : ∀ l, namesOf t = some l → l.length ≤ t.length := by
  intro l h
  unfold namesOf at h
  cases hp : VM.parse .norm t with
  | none => rw [hp] at h; cases h
  | some q =>
    rw [hp] at h
    simp only [Option.map_some, Option.some.injEq] at h
    subst h
    have h1 := parse_len .norm t q hp
    have h2 : (VM.names q).length ≤ q.length := List.length_filterMap_le _ _
    simp at h1; omega

theorem out_len (f : KV) (hf : ∀ k v, f k = some v → v.length ≤ 1000) (l : List VM.Tok) : ∀ r, VM.out f l = some r → r.length ≤ 1000 * l.length := by
  induction l with
  | nil => intro r h; simp [VM.out] at h; subst h; simp
  | cons t q ih =>
    intro r h
    cases t with
    | ch c =>
      simp only [VM.out] at h
      cases ho : VM.out f q with
      | none => simp [ho] at h
      | some x => simp [ho] at h; subst h; have := ih x ho; simp; omega
    | nm s =>
      simp only [VM.out] at h
      cases hs : f s with
      | none => simp [hs] at h
      | some v =>
        cases ho : VM.out f q with
        | none => simp [hs, ho] at h
        | some x => simp [hs, ho] at h; subst h; have := ih x ho; have := hf s v hs; simp; omega

theorem expand_len (f : KV) (hf : ∀ k v, f k = some v → v.length ≤ 1000) (t r : Bs) (h : VM.expand f t = some r) : r.length ≤ 1000 * t.length := by
  unfold VM.expand at h
  cases hp : VM.parse .norm t with
  | none => rw [hp] at h; cases h
  | some q =>
    rw [hp] at h
    have h1 := parse_len .norm t q hp
    have h2 := out_len f hf q r h
    simp at h1
    omega

theorem own_empty (w : World) : OwnS w.heap.size (w.alloc (.cells #[] 9)) (.slice (some ⟨w.heap.size, 0, none⟩) 0 0) [] :=
  ⟨rfl, .inr ⟨w.heap.size, 0, #[], rfl, Nat.le_refl _, heap_alloc_new _ _, Nat.le_refl _, Nat.zero_le _, rfl, rfl⟩⟩

/-- A slice that lies below stays read while what the call makes from B on turns. -/
theorem RS.stay {w w1 w2 : World} {v u : Value} {l l2 : List Bs} {B : Nat} (h : RS w v l) (hlt : ∀ g, v.ownBlock = some g → g < B) (hB : B ≤ w.heap.size) (hb : Below B w w1) (hu : OwnS B w1 u l2) (hg : w1.grownBy w2 u.ownBlock) : RS w2 v l ∧ Below B w w2 := by
  have hge : ∀ g, u.ownBlock = some g → B ≤ g := by
    intro g e
    rcases hu.2 with ⟨rfl, _⟩ | ⟨g', cap, cur, rfl, hg', _⟩
    · simp [Value.ownBlock] at e
    · simp [Value.ownBlock] at e; omega
  have hb2 : Below B w w2 := hb.grown hg (Nat.le_trans hB hb.size) (fun j hj => hge j hj)
  refine ⟨h.below fun g c n e => ?_, hb2⟩
  exact hb2.block g (hlt g (by rw [e]; rfl))

theorem part_b {w W1 : World} {v : Value} {l : List Bs} (h : RS (w.alloc (.cells #[] 9)) v l) {w8 : World} (hlt : ∀ g, v.ownBlock = some g → g < w8.heap.size) (hk : Below w.heap.size w (w.alloc (.cells #[] 9)))
    (ho : OwnS w.heap.size (w.alloc (.cells #[] 9)) (.slice (some ⟨w.heap.size, 0, none⟩) 0 0) []) (hg : (w.alloc (.cells #[] 9)).grownBy W1 (Value.slice (some ⟨w.heap.size, 0, none⟩) 0 0).ownBlock) (hz : w8.heap.size ≤ w.heap.size) : RS W1 v l :=
  (h.stay (B := w.heap.size) (fun g e => Nat.lt_of_lt_of_le (hlt g e) hz) hk.size (Below.refl _ _) ho hg).1

theorem grown_le {w W1 : World} {r : Option Nat} (hk : Below w.heap.size w (w.alloc (.cells #[] 9))) (hg : (w.alloc (.cells #[] 9)).grownBy W1 r) : w.heap.size ≤ W1.heap.size := Nat.le_trans hk.size hg.size

theorem part_c {w W1 : World} {v : Value} {l : List Bs} (h : RS (w.alloc (.cells #[] 9)) v l) (hlt : ∀ g, v.ownBlock = some g → g < w.heap.size) (hk : Below w.heap.size w (w.alloc (.cells #[] 9)))
    (ho : OwnS w.heap.size (w.alloc (.cells #[] 9)) (.slice (some ⟨w.heap.size, 0, none⟩) 0 0) []) (hg : (w.alloc (.cells #[] 9)).grownBy W1 (Value.slice (some ⟨w.heap.size, 0, none⟩) 0 0).ownBlock) : RS W1 v l ∧ Below w.heap.size w W1 :=
  have := h.stay (B := w.heap.size) hlt hk.size (Below.refl _ _) ho hg
  ⟨this.1, hk.trans this.2⟩
theorem part_d {w W1 W2 : World} {v u1 : Value} {l l1 : List Bs} (h : RS W1 v l ∧ Below w.heap.size w W1) (hlt : ∀ g, v.ownBlock = some g → g < w.heap.size) (ho : OwnS w.heap.size W1 u1 l1) (hg : W1.grownBy W2 u1.ownBlock) : RS W2 v l ∧ Below w.heap.size w W2 :=
  have := h.1.stay (B := w.heap.size) hlt h.2.size (Below.refl _ _) ho hg
  ⟨this.1, h.2.trans this.2⟩

theorem OwnS.ltB {B : Nat} {w : World} {v : Value} {l : List Bs} (h : OwnS B w v l) : ∀ g, v.ownBlock = some g → g < w.heap.size := by
  intro g e
  rcases h.2 with ⟨rfl, _⟩ | ⟨g', cap, cur, rfl, _, hh, _⟩
  · simp [Value.ownBlock] at e
  · simp [Value.ownBlock] at e; subst e; exact lt_of_block hh

set_option maxHeartbeats 4000000 in
theorem parts_law (s t v : ByteArray) (hs : s.size ≤ 140737488351232) (ht : t.size ≤ 140737488351232) (hv : v.size ≤ 140737488351232) (w : World) (hm : ML w) (h0 : 0 < w.heap.size) :
    Calls Tryd.prog 6 #[.string s, .string t, .string v] w fun e w' => e = .returned (.bool true) ∧ Below w.heap.size w w' := by
  go_enter Tryd.func6, Tryd.ntmps6
  go_wp2_with fail
  refine (shown_any hm h0).mono ?_
  rintro e w1 ⟨rfl, hb1⟩
  have HB1 := Lib.hid hb1
  have HM1 := Lib.hid (hm.below hb1 h0)
  clear hb1
  go_wp2_with fail
  refine (short_any s 100 (by decide) hs _).mono ?_
  rintro e wA ⟨rfl, rfl⟩
  have hl1 : (s.data.toList.take 100).length ≤ 100 := by rw [List.length_take]; omega
  generalize s.data.toList.take 100 = s1 at hl1 ⊢
  go_wp2_with fail
  refine (short_any t 100 (by decide) ht _).mono ?_
  rintro e wB ⟨rfl, rfl⟩
  have hl2 : (t.data.toList.take 100).length ≤ 100 := by rw [List.length_take]; omega
  generalize t.data.toList.take 100 = t1 at hl2 ⊢
  go_wp2_with fail
  refine (new_any _).mono ?_
  rintro e w2 ⟨rfl, hv2, hb2, hz2⟩
  have HV2 := Lib.hid hv2
  have HB2 := Lib.hid hb2
  clear hv2 hb2 hz2
  go_wp2_with fail
  refine (short_any v 100 (by decide) hv _).mono ?_
  rintro e wC ⟨rfl, rfl⟩
  have hl3 : (v.data.toList.take 100).length ≤ 100 := by rw [List.length_take]; omega
  generalize v.data.toList.take 100 = v1 at hl3 ⊢
  have hset := set_any wC _ _ 0 _ HV2.out (by omega) ⟨#[97]⟩ ⟨v1.toArray⟩ (by decide)
  have HS := Lib.hid hset
  clear hset
  go_wp2_with fail
  refine HS.out.mono ?_
  rintro e w3 ⟨rfl, hv3, hg3, hz3⟩
  have hF := setMap_le none_le 0 (⟨#[97]⟩ : ByteArray).data.toList (⟨v1.toArray⟩ : ByteArray).data.toList
  generalize setMap (fun _ => none) 0 (⟨#[97]⟩ : ByteArray).data.toList (⟨v1.toArray⟩ : ByteArray).data.toList = F at hv3 hF
  generalize setNum (fun _ => none) 0 (⟨#[97]⟩ : ByteArray).data.toList (⟨v1.toArray⟩ : ByteArray).data.toList = N at hv3
  have hbz : Below wB.heap.size wB w3 := HB2.out.grown hg3 HB2.out.size (fun j hj => by injection hj with hj; omega)
  have HG3 := Lib.hid hbz
  have HM3 := Lib.hid (HM1.out.below hbz (by have := HB1.out.size; omega))
  have HV3 := Lib.hid hv3
  have HF := Lib.hid hF
  clear hbz hg3 hz3 hv3 hF
  have hcz := expand_blank F s1 t1
  have hnz := namesOf_blank s1 t1
  have hes := expand_names F s1
  have het := expand_names F t1
  have nl1 := namesOf_len s1
  have nl2 := namesOf_len t1
  rcases hns : namesOf s1 with _ | a
  · have hxs := hes hns
    rcases hnt : namesOf t1 with _ | b
    · have hxt := het hnt
      rw [hxs, hxt] at hcz
      rw [hns, hnt] at hnz
      have hla : ([] : List Bs).length ≤ s1.length := Nat.zero_le _
      have hlb : ([] : List Bs).length ≤ t1.length := Nat.zero_le _
      simp only at hcz hnz
      have HXS := Lib.hid hxs
      have HXT := Lib.hid hxt
      have HNS := Lib.hid hns
      have HNT := Lib.hid hnt
      have HCZ := Lib.hid hcz
      have HNZ := Lib.hid hnz
      clear hxs hxt hns hnt hcz hnz hes het nl1 nl2
      have hx := expand_any HV3.out HM3.out s1 (by omega) HF.out
      unfold ExpandEnd at hx
      rw [HXS.out] at hx
      simp only [Option.getD_none, Option.isSome_none] at hx
      have HX4 := Lib.hid hx
      clear hx
      go_wp2_with fail
      refine HX4.out.mono ?_
      rintro e w4 ⟨rfl, hb⟩
      have HV4 := Lib.hid (HV3.out.below hb HV3.out.ltp HV3.out.ltb)
      have HM4 := Lib.hid (HM3.out.below hb (ML.pos HM3.out))
      have HB4 := Lib.hid hb
      clear hb
      have hx := expand_any HV4.out HM4.out t1 (by omega) HF.out
      unfold ExpandEnd at hx
      rw [HXT.out] at hx
      simp only [Option.getD_none, Option.isSome_none] at hx
      have HX5 := Lib.hid hx
      clear hx
      go_wp2_with fail
      refine HX5.out.mono ?_
      rintro e w5 ⟨rfl, hb⟩
      have HV5 := Lib.hid (HV4.out.below hb HV4.out.ltp HV4.out.ltb)
      have HM5 := Lib.hid (HM4.out.below hb (ML.pos HM4.out))
      have HB5 := Lib.hid hb
      clear hb
      have hx := expand_any HV5.out HM5.out (s1 ++ 32 :: t1) (by simp <;> omega) HF.out
      unfold ExpandEnd at hx
      rw [HCZ.out, show ({ data := (s1 ++ 32 :: t1).toArray } : ByteArray) = ⟨s1.toArray⟩ ++ ⟨#[32]⟩ ++ ⟨t1.toArray⟩ from by rw [show (⟨#[32]⟩ : ByteArray) = ⟨[32].toArray⟩ from rfl, cat_mk, cat_mk]; simp] at hx
      simp only [Option.getD_none, Option.isSome_none] at hx
      have HX6 := Lib.hid hx
      clear hx
      go_wp2_with fail
      refine HX6.out.mono ?_
      rintro e w6 ⟨rfl, hb⟩
      have HV6 := Lib.hid (HV5.out.below hb HV5.out.ltp HV5.out.ltb)
      have HM6 := Lib.hid (HM5.out.below hb (ML.pos HM5.out))
      have HB6 := Lib.hid hb
      clear hb
      have hn := names_any HM6.out (ML.pos HM6.out) s1 (by omega)
      unfold NamesEnd at hn
      rw [HNS.out] at hn
      simp only [Option.getD_none, Option.isSome_none] at hn
      have HN7 := Lib.hid hn
      clear hn
      go_wp2_with fail
      refine HN7.out.mono ?_
      rintro e w7 ⟨va, rfl, hown, hb⟩
      have HM7 := Lib.hid (HM6.out.below hb (ML.pos HM6.out))
      have HB7 := Lib.hid hb
      have HOva := Lib.hid hown
      clear hb hown
      have hn := names_any HM7.out (ML.pos HM7.out) t1 (by omega)
      unfold NamesEnd at hn
      rw [HNT.out] at hn
      simp only [Option.getD_none, Option.isSome_none] at hn
      have HN8 := Lib.hid hn
      clear hn
      go_wp2_with fail
      refine HN8.out.mono ?_
      rintro e w8 ⟨vb, rfl, hown, hb⟩
      have HM8 := Lib.hid (HM7.out.below hb (ML.pos HM7.out))
      have HB8 := Lib.hid hb
      have HOvb := Lib.hid hown
      clear hb hown
      have hn := names_any HM8.out (ML.pos HM8.out) (s1 ++ 32 :: t1) (by simp <;> omega)
      unfold NamesEnd at hn
      rw [HNZ.out, show ({ data := (s1 ++ 32 :: t1).toArray } : ByteArray) = ⟨s1.toArray⟩ ++ ⟨#[32]⟩ ++ ⟨t1.toArray⟩ from by rw [show (⟨#[32]⟩ : ByteArray) = ⟨[32].toArray⟩ from rfl, cat_mk, cat_mk]; simp] at hn
      simp only [Option.getD_none, Option.isSome_none] at hn
      have HN9 := Lib.hid hn
      clear hn
      go_wp2_with fail
      refine HN9.out.mono ?_
      rintro e w9 ⟨vc, rfl, hown, hb⟩
      have HM9 := Lib.hid (HM8.out.below hb (ML.pos HM8.out))
      have HB9 := Lib.hid hb
      have HOvc := Lib.hid hown
      clear hb hown
      obtain ⟨Aa, ca, ea⟩ := HOva.out.form
      obtain ⟨Ab, cb, eb⟩ := HOvb.out.form
      obtain ⟨Ac, cc, ec⟩ := HOvc.out.form
      subst ea
      subst eb
      subst ec
      have ha9 : RS w9 _ [] := ((HOva.out.below HB8.out).below HB9.out).reads
      have hb9 : RS w9 _ [] := (HOvb.out.below HB9.out).reads
      have hc9 : RS w9 _ ([]) := HOvc.out.reads
      have la9 := HOva.out.ltB
      have lb9 := HOvb.out.ltB
      have lc9 := HOvc.out.ltB
      have z89 := HB8.out.size
      have z99 := HB9.out.size
      have k0 : Below w9.heap.size w9 (w9.alloc (.cells #[] 9)) := (Below.refl _ _).alloc (Nat.le_refl _) _
      have own0 := own_empty w9
      have a0 : RS (w9.alloc (.cells #[] 9)) _ [] := ha9.below (fun g c n e => k0.block g (by have := la9 g (by rw [e]; rfl); omega))
      have b0 : RS (w9.alloc (.cells #[] 9)) _ [] := hb9.below (fun g c n e => k0.block g (by have := lb9 g (by rw [e]; rfl); omega))
      have c0 : RS (w9.alloc (.cells #[] 9)) _ ([]) := hc9.below (fun g c n e => k0.block g (by have := lc9 g (by rw [e]; rfl); omega))
      have K0 := Lib.hid k0
      have OWN0 := Lib.hid own0
      have A0 := Lib.hid a0
      have B0 := Lib.hid b0
      have C0 := Lib.hid c0
      have LA9 := Lib.hid la9
      have LB9 := Lib.hid lb9
      have LC9 := Lib.hid lc9
      clear ha9 hb9 hc9 la9 lb9 lc9 k0 own0 a0 b0 c0
      have tok1 : True := trivial
      go_wp2_with (first | (at_builtin; have _t := tok1; refine wpList_append_rs rfl (.tmp 99) (.tmp 100) rfl w9.heap.size _ [] [] OWN0.out rfl _ A0.out rfl (by simp <;> omega) (by simp) ?_; intro u1 W1 o1 g1; have O1 := Lib.hid o1; have G1 := Lib.hid g1; clear o1 g1 tok1) | (at_builtin; refine wpList_append_rs rfl (.tmp 101) (.tmp 102) rfl w9.heap.size _ ([] ++ []) [] O1.out rfl _ (part_b B0.out LB9.out K0.out OWN0.out G1.out z99) rfl (by simp <;> omega) (grown_le K0.out G1.out) ?_; intro u2 W2 o2 g2; have O2 := Lib.hid o2; have G2 := Lib.hid g2; clear o2 g2))
      have c2 := part_d (part_c C0.out LC9.out K0.out OWN0.out G1.out) LC9.out O1.out G2.out
      have hbW : Below w9.heap.size w9 W2 := c2.2
      have hsame := same_any c2.1 O2.out.reads (by simp <;> omega) (by simp <;> omega)
      obtain ⟨sb, hsb⟩ : ∃ sb, decide (([] : List Bs) = [] ++ [] ++ []) = sb := ⟨_, rfl⟩
      rw [hsb] at hsame
      clear hsb
      have HSM := Lib.hid hsame
      have HBW := Lib.hid hbW
      clear c2 hbW hsame
      refine HSM.out.mono ?_
      rintro e W3 ⟨rfl, kd, rfl⟩
      go_wp2_with fail
      go_ret
      exact ⟨rfl, chain (chain (chain (chain (chain (chain (chain (chain (chain HB1.out HG3.out) HB4.out) HB5.out) HB6.out) HB7.out) HB8.out) HB9.out) HBW.out) (below_drewN (Below.refl _ _) kd)⟩
    · rcases hxt : VM.expand F t1 with _ | y
      · rw [hxs, hxt] at hcz
        rw [hns, hnt] at hnz
        have hla : ([] : List Bs).length ≤ s1.length := Nat.zero_le _
        have hlb := nl2 b hnt
        simp only at hcz hnz
        have HXS := Lib.hid hxs
        have HXT := Lib.hid hxt
        have HNS := Lib.hid hns
        have HNT := Lib.hid hnt
        have HCZ := Lib.hid hcz
        have HNZ := Lib.hid hnz
        clear hxs hxt hns hnt hcz hnz hes het nl1 nl2
        have hx := expand_any HV3.out HM3.out s1 (by omega) HF.out
        unfold ExpandEnd at hx
        rw [HXS.out] at hx
        simp only [Option.getD_none, Option.isSome_none] at hx
        have HX4 := Lib.hid hx
        clear hx
        go_wp2_with fail
        refine HX4.out.mono ?_
        rintro e w4 ⟨rfl, hb⟩
        have HV4 := Lib.hid (HV3.out.below hb HV3.out.ltp HV3.out.ltb)
        have HM4 := Lib.hid (HM3.out.below hb (ML.pos HM3.out))
        have HB4 := Lib.hid hb
        clear hb
        have hx := expand_any HV4.out HM4.out t1 (by omega) HF.out
        unfold ExpandEnd at hx
        rw [HXT.out] at hx
        simp only [Option.getD_none, Option.isSome_none] at hx
        have HX5 := Lib.hid hx
        clear hx
        go_wp2_with fail
        refine HX5.out.mono ?_
        rintro e w5 ⟨rfl, hb⟩
        have HV5 := Lib.hid (HV4.out.below hb HV4.out.ltp HV4.out.ltb)
        have HM5 := Lib.hid (HM4.out.below hb (ML.pos HM4.out))
        have HB5 := Lib.hid hb
        clear hb
        have hx := expand_any HV5.out HM5.out (s1 ++ 32 :: t1) (by simp <;> omega) HF.out
        unfold ExpandEnd at hx
        rw [HCZ.out, show ({ data := (s1 ++ 32 :: t1).toArray } : ByteArray) = ⟨s1.toArray⟩ ++ ⟨#[32]⟩ ++ ⟨t1.toArray⟩ from by rw [show (⟨#[32]⟩ : ByteArray) = ⟨[32].toArray⟩ from rfl, cat_mk, cat_mk]; simp] at hx
        simp only [Option.getD_none, Option.isSome_none] at hx
        have HX6 := Lib.hid hx
        clear hx
        go_wp2_with fail
        refine HX6.out.mono ?_
        rintro e w6 ⟨rfl, hb⟩
        have HV6 := Lib.hid (HV5.out.below hb HV5.out.ltp HV5.out.ltb)
        have HM6 := Lib.hid (HM5.out.below hb (ML.pos HM5.out))
        have HB6 := Lib.hid hb
        clear hb
        have hn := names_any HM6.out (ML.pos HM6.out) s1 (by omega)
        unfold NamesEnd at hn
        rw [HNS.out] at hn
        simp only [Option.getD_none, Option.isSome_none] at hn
        have HN7 := Lib.hid hn
        clear hn
        go_wp2_with fail
        refine HN7.out.mono ?_
        rintro e w7 ⟨va, rfl, hown, hb⟩
        have HM7 := Lib.hid (HM6.out.below hb (ML.pos HM6.out))
        have HB7 := Lib.hid hb
        have HOva := Lib.hid hown
        clear hb hown
        have hn := names_any HM7.out (ML.pos HM7.out) t1 (by omega)
        unfold NamesEnd at hn
        rw [HNT.out] at hn
        simp only [Option.getD_some, Option.isSome_some] at hn
        have HN8 := Lib.hid hn
        clear hn
        go_wp2_with fail
        refine HN8.out.mono ?_
        rintro e w8 ⟨vb, rfl, hown, hb⟩
        have HM8 := Lib.hid (HM7.out.below hb (ML.pos HM7.out))
        have HB8 := Lib.hid hb
        have HOvb := Lib.hid hown
        clear hb hown
        have hn := names_any HM8.out (ML.pos HM8.out) (s1 ++ 32 :: t1) (by simp <;> omega)
        unfold NamesEnd at hn
        rw [HNZ.out, show ({ data := (s1 ++ 32 :: t1).toArray } : ByteArray) = ⟨s1.toArray⟩ ++ ⟨#[32]⟩ ++ ⟨t1.toArray⟩ from by rw [show (⟨#[32]⟩ : ByteArray) = ⟨[32].toArray⟩ from rfl, cat_mk, cat_mk]; simp] at hn
        simp only [Option.getD_none, Option.isSome_none] at hn
        have HN9 := Lib.hid hn
        clear hn
        go_wp2_with fail
        refine HN9.out.mono ?_
        rintro e w9 ⟨vc, rfl, hown, hb⟩
        have HM9 := Lib.hid (HM8.out.below hb (ML.pos HM8.out))
        have HB9 := Lib.hid hb
        have HOvc := Lib.hid hown
        clear hb hown
        obtain ⟨Aa, ca, ea⟩ := HOva.out.form
        obtain ⟨Ab, cb, eb⟩ := HOvb.out.form
        obtain ⟨Ac, cc, ec⟩ := HOvc.out.form
        subst ea
        subst eb
        subst ec
        have ha9 : RS w9 _ [] := ((HOva.out.below HB8.out).below HB9.out).reads
        have hb9 : RS w9 _ b := (HOvb.out.below HB9.out).reads
        have hc9 : RS w9 _ ([]) := HOvc.out.reads
        have la9 := HOva.out.ltB
        have lb9 := HOvb.out.ltB
        have lc9 := HOvc.out.ltB
        have z89 := HB8.out.size
        have z99 := HB9.out.size
        have k0 : Below w9.heap.size w9 (w9.alloc (.cells #[] 9)) := (Below.refl _ _).alloc (Nat.le_refl _) _
        have own0 := own_empty w9
        have a0 : RS (w9.alloc (.cells #[] 9)) _ [] := ha9.below (fun g c n e => k0.block g (by have := la9 g (by rw [e]; rfl); omega))
        have b0 : RS (w9.alloc (.cells #[] 9)) _ b := hb9.below (fun g c n e => k0.block g (by have := lb9 g (by rw [e]; rfl); omega))
        have c0 : RS (w9.alloc (.cells #[] 9)) _ ([]) := hc9.below (fun g c n e => k0.block g (by have := lc9 g (by rw [e]; rfl); omega))
        have K0 := Lib.hid k0
        have OWN0 := Lib.hid own0
        have A0 := Lib.hid a0
        have B0 := Lib.hid b0
        have C0 := Lib.hid c0
        have LA9 := Lib.hid la9
        have LB9 := Lib.hid lb9
        have LC9 := Lib.hid lc9
        clear ha9 hb9 hc9 la9 lb9 lc9 k0 own0 a0 b0 c0
        have tok1 : True := trivial
        go_wp2_with (first | (at_builtin; have _t := tok1; refine wpList_append_rs rfl (.tmp 99) (.tmp 100) rfl w9.heap.size _ [] [] OWN0.out rfl _ A0.out rfl (by simp <;> omega) (by simp) ?_; intro u1 W1 o1 g1; have O1 := Lib.hid o1; have G1 := Lib.hid g1; clear o1 g1 tok1) | (at_builtin; refine wpList_append_rs rfl (.tmp 101) (.tmp 102) rfl w9.heap.size _ ([] ++ []) b O1.out rfl _ (part_b B0.out LB9.out K0.out OWN0.out G1.out z99) rfl (by simp <;> omega) (grown_le K0.out G1.out) ?_; intro u2 W2 o2 g2; have O2 := Lib.hid o2; have G2 := Lib.hid g2; clear o2 g2))
        have c2 := part_d (part_c C0.out LC9.out K0.out OWN0.out G1.out) LC9.out O1.out G2.out
        have hbW : Below w9.heap.size w9 W2 := c2.2
        have hsame := same_any c2.1 O2.out.reads (by simp <;> omega) (by simp <;> omega)
        obtain ⟨sb, hsb⟩ : ∃ sb, decide (([] : List Bs) = [] ++ [] ++ b) = sb := ⟨_, rfl⟩
        rw [hsb] at hsame
        clear hsb
        have HSM := Lib.hid hsame
        have HBW := Lib.hid hbW
        clear c2 hbW hsame
        refine HSM.out.mono ?_
        rintro e W3 ⟨rfl, kd, rfl⟩
        go_wp2_with fail
        go_ret
        exact ⟨rfl, chain (chain (chain (chain (chain (chain (chain (chain (chain HB1.out HG3.out) HB4.out) HB5.out) HB6.out) HB7.out) HB8.out) HB9.out) HBW.out) (below_drewN (Below.refl _ _) kd)⟩
      · rw [hxs, hxt] at hcz
        rw [hns, hnt] at hnz
        have hla : ([] : List Bs).length ≤ s1.length := Nat.zero_le _
        have hlb := nl2 b hnt
        simp only at hcz hnz
        have HXS := Lib.hid hxs
        have HXT := Lib.hid hxt
        have HNS := Lib.hid hns
        have HNT := Lib.hid hnt
        have HCZ := Lib.hid hcz
        have HNZ := Lib.hid hnz
        clear hxs hxt hns hnt hcz hnz hes het nl1 nl2
        have hx := expand_any HV3.out HM3.out s1 (by omega) HF.out
        unfold ExpandEnd at hx
        rw [HXS.out] at hx
        simp only [Option.getD_none, Option.isSome_none] at hx
        have HX4 := Lib.hid hx
        clear hx
        go_wp2_with fail
        refine HX4.out.mono ?_
        rintro e w4 ⟨rfl, hb⟩
        have HV4 := Lib.hid (HV3.out.below hb HV3.out.ltp HV3.out.ltb)
        have HM4 := Lib.hid (HM3.out.below hb (ML.pos HM3.out))
        have HB4 := Lib.hid hb
        clear hb
        have hx := expand_any HV4.out HM4.out t1 (by omega) HF.out
        unfold ExpandEnd at hx
        rw [HXT.out] at hx
        simp only [Option.getD_some, Option.isSome_some] at hx
        have HX5 := Lib.hid hx
        clear hx
        go_wp2_with fail
        refine HX5.out.mono ?_
        rintro e w5 ⟨rfl, hb⟩
        have HV5 := Lib.hid (HV4.out.below hb HV4.out.ltp HV4.out.ltb)
        have HM5 := Lib.hid (HM4.out.below hb (ML.pos HM4.out))
        have HB5 := Lib.hid hb
        clear hb
        have hx := expand_any HV5.out HM5.out (s1 ++ 32 :: t1) (by simp <;> omega) HF.out
        unfold ExpandEnd at hx
        rw [HCZ.out, show ({ data := (s1 ++ 32 :: t1).toArray } : ByteArray) = ⟨s1.toArray⟩ ++ ⟨#[32]⟩ ++ ⟨t1.toArray⟩ from by rw [show (⟨#[32]⟩ : ByteArray) = ⟨[32].toArray⟩ from rfl, cat_mk, cat_mk]; simp] at hx
        simp only [Option.getD_none, Option.isSome_none] at hx
        have HX6 := Lib.hid hx
        clear hx
        go_wp2_with fail
        refine HX6.out.mono ?_
        rintro e w6 ⟨rfl, hb⟩
        have HV6 := Lib.hid (HV5.out.below hb HV5.out.ltp HV5.out.ltb)
        have HM6 := Lib.hid (HM5.out.below hb (ML.pos HM5.out))
        have HB6 := Lib.hid hb
        clear hb
        have hn := names_any HM6.out (ML.pos HM6.out) s1 (by omega)
        unfold NamesEnd at hn
        rw [HNS.out] at hn
        simp only [Option.getD_none, Option.isSome_none] at hn
        have HN7 := Lib.hid hn
        clear hn
        go_wp2_with fail
        refine HN7.out.mono ?_
        rintro e w7 ⟨va, rfl, hown, hb⟩
        have HM7 := Lib.hid (HM6.out.below hb (ML.pos HM6.out))
        have HB7 := Lib.hid hb
        have HOva := Lib.hid hown
        clear hb hown
        have hn := names_any HM7.out (ML.pos HM7.out) t1 (by omega)
        unfold NamesEnd at hn
        rw [HNT.out] at hn
        simp only [Option.getD_some, Option.isSome_some] at hn
        have HN8 := Lib.hid hn
        clear hn
        go_wp2_with fail
        refine HN8.out.mono ?_
        rintro e w8 ⟨vb, rfl, hown, hb⟩
        have HM8 := Lib.hid (HM7.out.below hb (ML.pos HM7.out))
        have HB8 := Lib.hid hb
        have HOvb := Lib.hid hown
        clear hb hown
        have hn := names_any HM8.out (ML.pos HM8.out) (s1 ++ 32 :: t1) (by simp <;> omega)
        unfold NamesEnd at hn
        rw [HNZ.out, show ({ data := (s1 ++ 32 :: t1).toArray } : ByteArray) = ⟨s1.toArray⟩ ++ ⟨#[32]⟩ ++ ⟨t1.toArray⟩ from by rw [show (⟨#[32]⟩ : ByteArray) = ⟨[32].toArray⟩ from rfl, cat_mk, cat_mk]; simp] at hn
        simp only [Option.getD_none, Option.isSome_none] at hn
        have HN9 := Lib.hid hn
        clear hn
        go_wp2_with fail
        refine HN9.out.mono ?_
        rintro e w9 ⟨vc, rfl, hown, hb⟩
        have HM9 := Lib.hid (HM8.out.below hb (ML.pos HM8.out))
        have HB9 := Lib.hid hb
        have HOvc := Lib.hid hown
        clear hb hown
        obtain ⟨Aa, ca, ea⟩ := HOva.out.form
        obtain ⟨Ab, cb, eb⟩ := HOvb.out.form
        obtain ⟨Ac, cc, ec⟩ := HOvc.out.form
        subst ea
        subst eb
        subst ec
        have ha9 : RS w9 _ [] := ((HOva.out.below HB8.out).below HB9.out).reads
        have hb9 : RS w9 _ b := (HOvb.out.below HB9.out).reads
        have hc9 : RS w9 _ ([]) := HOvc.out.reads
        have la9 := HOva.out.ltB
        have lb9 := HOvb.out.ltB
        have lc9 := HOvc.out.ltB
        have z89 := HB8.out.size
        have z99 := HB9.out.size
        have k0 : Below w9.heap.size w9 (w9.alloc (.cells #[] 9)) := (Below.refl _ _).alloc (Nat.le_refl _) _
        have own0 := own_empty w9
        have a0 : RS (w9.alloc (.cells #[] 9)) _ [] := ha9.below (fun g c n e => k0.block g (by have := la9 g (by rw [e]; rfl); omega))
        have b0 : RS (w9.alloc (.cells #[] 9)) _ b := hb9.below (fun g c n e => k0.block g (by have := lb9 g (by rw [e]; rfl); omega))
        have c0 : RS (w9.alloc (.cells #[] 9)) _ ([]) := hc9.below (fun g c n e => k0.block g (by have := lc9 g (by rw [e]; rfl); omega))
        have K0 := Lib.hid k0
        have OWN0 := Lib.hid own0
        have A0 := Lib.hid a0
        have B0 := Lib.hid b0
        have C0 := Lib.hid c0
        have LA9 := Lib.hid la9
        have LB9 := Lib.hid lb9
        have LC9 := Lib.hid lc9
        clear ha9 hb9 hc9 la9 lb9 lc9 k0 own0 a0 b0 c0
        have tok1 : True := trivial
        go_wp2_with (first | (at_builtin; have _t := tok1; refine wpList_append_rs rfl (.tmp 99) (.tmp 100) rfl w9.heap.size _ [] [] OWN0.out rfl _ A0.out rfl (by simp <;> omega) (by simp) ?_; intro u1 W1 o1 g1; have O1 := Lib.hid o1; have G1 := Lib.hid g1; clear o1 g1 tok1) | (at_builtin; refine wpList_append_rs rfl (.tmp 101) (.tmp 102) rfl w9.heap.size _ ([] ++ []) b O1.out rfl _ (part_b B0.out LB9.out K0.out OWN0.out G1.out z99) rfl (by simp <;> omega) (grown_le K0.out G1.out) ?_; intro u2 W2 o2 g2; have O2 := Lib.hid o2; have G2 := Lib.hid g2; clear o2 g2))
        have c2 := part_d (part_c C0.out LC9.out K0.out OWN0.out G1.out) LC9.out O1.out G2.out
        have hbW : Below w9.heap.size w9 W2 := c2.2
        have hsame := same_any c2.1 O2.out.reads (by simp <;> omega) (by simp <;> omega)
        obtain ⟨sb, hsb⟩ : ∃ sb, decide (([] : List Bs) = [] ++ [] ++ b) = sb := ⟨_, rfl⟩
        rw [hsb] at hsame
        clear hsb
        have HSM := Lib.hid hsame
        have HBW := Lib.hid hbW
        clear c2 hbW hsame
        refine HSM.out.mono ?_
        rintro e W3 ⟨rfl, kd, rfl⟩
        go_wp2_with fail
        go_ret
        exact ⟨rfl, chain (chain (chain (chain (chain (chain (chain (chain (chain HB1.out HG3.out) HB4.out) HB5.out) HB6.out) HB7.out) HB8.out) HB9.out) HBW.out) (below_drewN (Below.refl _ _) kd)⟩
  · rcases hxs : VM.expand F s1 with _ | x
    · rcases hnt : namesOf t1 with _ | b
      · have hxt := het hnt
        rw [hxs, hxt] at hcz
        rw [hns, hnt] at hnz
        have hla := nl1 a hns
        have hlb : ([] : List Bs).length ≤ t1.length := Nat.zero_le _
        simp only at hcz hnz
        have HXS := Lib.hid hxs
        have HXT := Lib.hid hxt
        have HNS := Lib.hid hns
        have HNT := Lib.hid hnt
        have HCZ := Lib.hid hcz
        have HNZ := Lib.hid hnz
        clear hxs hxt hns hnt hcz hnz hes het nl1 nl2
        have hx := expand_any HV3.out HM3.out s1 (by omega) HF.out
        unfold ExpandEnd at hx
        rw [HXS.out] at hx
        simp only [Option.getD_none, Option.isSome_none] at hx
        have HX4 := Lib.hid hx
        clear hx
        go_wp2_with fail
        refine HX4.out.mono ?_
        rintro e w4 ⟨rfl, hb⟩
        have HV4 := Lib.hid (HV3.out.below hb HV3.out.ltp HV3.out.ltb)
        have HM4 := Lib.hid (HM3.out.below hb (ML.pos HM3.out))
        have HB4 := Lib.hid hb
        clear hb
        have hx := expand_any HV4.out HM4.out t1 (by omega) HF.out
        unfold ExpandEnd at hx
        rw [HXT.out] at hx
        simp only [Option.getD_none, Option.isSome_none] at hx
        have HX5 := Lib.hid hx
        clear hx
        go_wp2_with fail
        refine HX5.out.mono ?_
        rintro e w5 ⟨rfl, hb⟩
        have HV5 := Lib.hid (HV4.out.below hb HV4.out.ltp HV4.out.ltb)
        have HM5 := Lib.hid (HM4.out.below hb (ML.pos HM4.out))
        have HB5 := Lib.hid hb
        clear hb
        have hx := expand_any HV5.out HM5.out (s1 ++ 32 :: t1) (by simp <;> omega) HF.out
        unfold ExpandEnd at hx
        rw [HCZ.out, show ({ data := (s1 ++ 32 :: t1).toArray } : ByteArray) = ⟨s1.toArray⟩ ++ ⟨#[32]⟩ ++ ⟨t1.toArray⟩ from by rw [show (⟨#[32]⟩ : ByteArray) = ⟨[32].toArray⟩ from rfl, cat_mk, cat_mk]; simp] at hx
        simp only [Option.getD_none, Option.isSome_none] at hx
        have HX6 := Lib.hid hx
        clear hx
        go_wp2_with fail
        refine HX6.out.mono ?_
        rintro e w6 ⟨rfl, hb⟩
        have HV6 := Lib.hid (HV5.out.below hb HV5.out.ltp HV5.out.ltb)
        have HM6 := Lib.hid (HM5.out.below hb (ML.pos HM5.out))
        have HB6 := Lib.hid hb
        clear hb
        have hn := names_any HM6.out (ML.pos HM6.out) s1 (by omega)
        unfold NamesEnd at hn
        rw [HNS.out] at hn
        simp only [Option.getD_some, Option.isSome_some] at hn
        have HN7 := Lib.hid hn
        clear hn
        go_wp2_with fail
        refine HN7.out.mono ?_
        rintro e w7 ⟨va, rfl, hown, hb⟩
        have HM7 := Lib.hid (HM6.out.below hb (ML.pos HM6.out))
        have HB7 := Lib.hid hb
        have HOva := Lib.hid hown
        clear hb hown
        have hn := names_any HM7.out (ML.pos HM7.out) t1 (by omega)
        unfold NamesEnd at hn
        rw [HNT.out] at hn
        simp only [Option.getD_none, Option.isSome_none] at hn
        have HN8 := Lib.hid hn
        clear hn
        go_wp2_with fail
        refine HN8.out.mono ?_
        rintro e w8 ⟨vb, rfl, hown, hb⟩
        have HM8 := Lib.hid (HM7.out.below hb (ML.pos HM7.out))
        have HB8 := Lib.hid hb
        have HOvb := Lib.hid hown
        clear hb hown
        have hn := names_any HM8.out (ML.pos HM8.out) (s1 ++ 32 :: t1) (by simp <;> omega)
        unfold NamesEnd at hn
        rw [HNZ.out, show ({ data := (s1 ++ 32 :: t1).toArray } : ByteArray) = ⟨s1.toArray⟩ ++ ⟨#[32]⟩ ++ ⟨t1.toArray⟩ from by rw [show (⟨#[32]⟩ : ByteArray) = ⟨[32].toArray⟩ from rfl, cat_mk, cat_mk]; simp] at hn
        simp only [Option.getD_none, Option.isSome_none] at hn
        have HN9 := Lib.hid hn
        clear hn
        go_wp2_with fail
        refine HN9.out.mono ?_
        rintro e w9 ⟨vc, rfl, hown, hb⟩
        have HM9 := Lib.hid (HM8.out.below hb (ML.pos HM8.out))
        have HB9 := Lib.hid hb
        have HOvc := Lib.hid hown
        clear hb hown
        obtain ⟨Aa, ca, ea⟩ := HOva.out.form
        obtain ⟨Ab, cb, eb⟩ := HOvb.out.form
        obtain ⟨Ac, cc, ec⟩ := HOvc.out.form
        subst ea
        subst eb
        subst ec
        have ha9 : RS w9 _ a := ((HOva.out.below HB8.out).below HB9.out).reads
        have hb9 : RS w9 _ [] := (HOvb.out.below HB9.out).reads
        have hc9 : RS w9 _ ([]) := HOvc.out.reads
        have la9 := HOva.out.ltB
        have lb9 := HOvb.out.ltB
        have lc9 := HOvc.out.ltB
        have z89 := HB8.out.size
        have z99 := HB9.out.size
        have k0 : Below w9.heap.size w9 (w9.alloc (.cells #[] 9)) := (Below.refl _ _).alloc (Nat.le_refl _) _
        have own0 := own_empty w9
        have a0 : RS (w9.alloc (.cells #[] 9)) _ a := ha9.below (fun g c n e => k0.block g (by have := la9 g (by rw [e]; rfl); omega))
        have b0 : RS (w9.alloc (.cells #[] 9)) _ [] := hb9.below (fun g c n e => k0.block g (by have := lb9 g (by rw [e]; rfl); omega))
        have c0 : RS (w9.alloc (.cells #[] 9)) _ ([]) := hc9.below (fun g c n e => k0.block g (by have := lc9 g (by rw [e]; rfl); omega))
        have K0 := Lib.hid k0
        have OWN0 := Lib.hid own0
        have A0 := Lib.hid a0
        have B0 := Lib.hid b0
        have C0 := Lib.hid c0
        have LA9 := Lib.hid la9
        have LB9 := Lib.hid lb9
        have LC9 := Lib.hid lc9
        clear ha9 hb9 hc9 la9 lb9 lc9 k0 own0 a0 b0 c0
        have tok1 : True := trivial
        go_wp2_with (first | (at_builtin; have _t := tok1; refine wpList_append_rs rfl (.tmp 99) (.tmp 100) rfl w9.heap.size _ [] a OWN0.out rfl _ A0.out rfl (by simp <;> omega) (by simp) ?_; intro u1 W1 o1 g1; have O1 := Lib.hid o1; have G1 := Lib.hid g1; clear o1 g1 tok1) | (at_builtin; refine wpList_append_rs rfl (.tmp 101) (.tmp 102) rfl w9.heap.size _ ([] ++ a) [] O1.out rfl _ (part_b B0.out LB9.out K0.out OWN0.out G1.out z99) rfl (by simp <;> omega) (grown_le K0.out G1.out) ?_; intro u2 W2 o2 g2; have O2 := Lib.hid o2; have G2 := Lib.hid g2; clear o2 g2))
        have c2 := part_d (part_c C0.out LC9.out K0.out OWN0.out G1.out) LC9.out O1.out G2.out
        have hbW : Below w9.heap.size w9 W2 := c2.2
        have hsame := same_any c2.1 O2.out.reads (by simp <;> omega) (by simp <;> omega)
        obtain ⟨sb, hsb⟩ : ∃ sb, decide (([] : List Bs) = [] ++ a ++ []) = sb := ⟨_, rfl⟩
        rw [hsb] at hsame
        clear hsb
        have HSM := Lib.hid hsame
        have HBW := Lib.hid hbW
        clear c2 hbW hsame
        refine HSM.out.mono ?_
        rintro e W3 ⟨rfl, kd, rfl⟩
        go_wp2_with fail
        go_ret
        exact ⟨rfl, chain (chain (chain (chain (chain (chain (chain (chain (chain HB1.out HG3.out) HB4.out) HB5.out) HB6.out) HB7.out) HB8.out) HB9.out) HBW.out) (below_drewN (Below.refl _ _) kd)⟩
      · rcases hxt : VM.expand F t1 with _ | y
        · rw [hxs, hxt] at hcz
          rw [hns, hnt] at hnz
          have hla := nl1 a hns
          have hlb := nl2 b hnt
          simp only at hcz hnz
          have HXS := Lib.hid hxs
          have HXT := Lib.hid hxt
          have HNS := Lib.hid hns
          have HNT := Lib.hid hnt
          have HCZ := Lib.hid hcz
          have HNZ := Lib.hid hnz
          clear hxs hxt hns hnt hcz hnz hes het nl1 nl2
          have hx := expand_any HV3.out HM3.out s1 (by omega) HF.out
          unfold ExpandEnd at hx
          rw [HXS.out] at hx
          simp only [Option.getD_none, Option.isSome_none] at hx
          have HX4 := Lib.hid hx
          clear hx
          go_wp2_with fail
          refine HX4.out.mono ?_
          rintro e w4 ⟨rfl, hb⟩
          have HV4 := Lib.hid (HV3.out.below hb HV3.out.ltp HV3.out.ltb)
          have HM4 := Lib.hid (HM3.out.below hb (ML.pos HM3.out))
          have HB4 := Lib.hid hb
          clear hb
          have hx := expand_any HV4.out HM4.out t1 (by omega) HF.out
          unfold ExpandEnd at hx
          rw [HXT.out] at hx
          simp only [Option.getD_none, Option.isSome_none] at hx
          have HX5 := Lib.hid hx
          clear hx
          go_wp2_with fail
          refine HX5.out.mono ?_
          rintro e w5 ⟨rfl, hb⟩
          have HV5 := Lib.hid (HV4.out.below hb HV4.out.ltp HV4.out.ltb)
          have HM5 := Lib.hid (HM4.out.below hb (ML.pos HM4.out))
          have HB5 := Lib.hid hb
          clear hb
          have hx := expand_any HV5.out HM5.out (s1 ++ 32 :: t1) (by simp <;> omega) HF.out
          unfold ExpandEnd at hx
          rw [HCZ.out, show ({ data := (s1 ++ 32 :: t1).toArray } : ByteArray) = ⟨s1.toArray⟩ ++ ⟨#[32]⟩ ++ ⟨t1.toArray⟩ from by rw [show (⟨#[32]⟩ : ByteArray) = ⟨[32].toArray⟩ from rfl, cat_mk, cat_mk]; simp] at hx
          simp only [Option.getD_none, Option.isSome_none] at hx
          have HX6 := Lib.hid hx
          clear hx
          go_wp2_with fail
          refine HX6.out.mono ?_
          rintro e w6 ⟨rfl, hb⟩
          have HV6 := Lib.hid (HV5.out.below hb HV5.out.ltp HV5.out.ltb)
          have HM6 := Lib.hid (HM5.out.below hb (ML.pos HM5.out))
          have HB6 := Lib.hid hb
          clear hb
          have hn := names_any HM6.out (ML.pos HM6.out) s1 (by omega)
          unfold NamesEnd at hn
          rw [HNS.out] at hn
          simp only [Option.getD_some, Option.isSome_some] at hn
          have HN7 := Lib.hid hn
          clear hn
          go_wp2_with fail
          refine HN7.out.mono ?_
          rintro e w7 ⟨va, rfl, hown, hb⟩
          have HM7 := Lib.hid (HM6.out.below hb (ML.pos HM6.out))
          have HB7 := Lib.hid hb
          have HOva := Lib.hid hown
          clear hb hown
          have hn := names_any HM7.out (ML.pos HM7.out) t1 (by omega)
          unfold NamesEnd at hn
          rw [HNT.out] at hn
          simp only [Option.getD_some, Option.isSome_some] at hn
          have HN8 := Lib.hid hn
          clear hn
          go_wp2_with fail
          refine HN8.out.mono ?_
          rintro e w8 ⟨vb, rfl, hown, hb⟩
          have HM8 := Lib.hid (HM7.out.below hb (ML.pos HM7.out))
          have HB8 := Lib.hid hb
          have HOvb := Lib.hid hown
          clear hb hown
          have hn := names_any HM8.out (ML.pos HM8.out) (s1 ++ 32 :: t1) (by simp <;> omega)
          unfold NamesEnd at hn
          rw [HNZ.out, show ({ data := (s1 ++ 32 :: t1).toArray } : ByteArray) = ⟨s1.toArray⟩ ++ ⟨#[32]⟩ ++ ⟨t1.toArray⟩ from by rw [show (⟨#[32]⟩ : ByteArray) = ⟨[32].toArray⟩ from rfl, cat_mk, cat_mk]; simp] at hn
          simp only [Option.getD_some, Option.isSome_some] at hn
          have HN9 := Lib.hid hn
          clear hn
          go_wp2_with fail
          refine HN9.out.mono ?_
          rintro e w9 ⟨vc, rfl, hown, hb⟩
          have HM9 := Lib.hid (HM8.out.below hb (ML.pos HM8.out))
          have HB9 := Lib.hid hb
          have HOvc := Lib.hid hown
          clear hb hown
          obtain ⟨Aa, ca, ea⟩ := HOva.out.form
          obtain ⟨Ab, cb, eb⟩ := HOvb.out.form
          obtain ⟨Ac, cc, ec⟩ := HOvc.out.form
          subst ea
          subst eb
          subst ec
          have ha9 : RS w9 _ a := ((HOva.out.below HB8.out).below HB9.out).reads
          have hb9 : RS w9 _ b := (HOvb.out.below HB9.out).reads
          have hc9 : RS w9 _ (a ++ b) := HOvc.out.reads
          have la9 := HOva.out.ltB
          have lb9 := HOvb.out.ltB
          have lc9 := HOvc.out.ltB
          have z89 := HB8.out.size
          have z99 := HB9.out.size
          have k0 : Below w9.heap.size w9 (w9.alloc (.cells #[] 9)) := (Below.refl _ _).alloc (Nat.le_refl _) _
          have own0 := own_empty w9
          have a0 : RS (w9.alloc (.cells #[] 9)) _ a := ha9.below (fun g c n e => k0.block g (by have := la9 g (by rw [e]; rfl); omega))
          have b0 : RS (w9.alloc (.cells #[] 9)) _ b := hb9.below (fun g c n e => k0.block g (by have := lb9 g (by rw [e]; rfl); omega))
          have c0 : RS (w9.alloc (.cells #[] 9)) _ (a ++ b) := hc9.below (fun g c n e => k0.block g (by have := lc9 g (by rw [e]; rfl); omega))
          have K0 := Lib.hid k0
          have OWN0 := Lib.hid own0
          have A0 := Lib.hid a0
          have B0 := Lib.hid b0
          have C0 := Lib.hid c0
          have LA9 := Lib.hid la9
          have LB9 := Lib.hid lb9
          have LC9 := Lib.hid lc9
          clear ha9 hb9 hc9 la9 lb9 lc9 k0 own0 a0 b0 c0
          have tok1 : True := trivial
          go_wp2_with (first | (at_builtin; have _t := tok1; refine wpList_append_rs rfl (.tmp 99) (.tmp 100) rfl w9.heap.size _ [] a OWN0.out rfl _ A0.out rfl (by simp <;> omega) (by simp) ?_; intro u1 W1 o1 g1; have O1 := Lib.hid o1; have G1 := Lib.hid g1; clear o1 g1 tok1) | (at_builtin; refine wpList_append_rs rfl (.tmp 101) (.tmp 102) rfl w9.heap.size _ ([] ++ a) b O1.out rfl _ (part_b B0.out LB9.out K0.out OWN0.out G1.out z99) rfl (by simp <;> omega) (grown_le K0.out G1.out) ?_; intro u2 W2 o2 g2; have O2 := Lib.hid o2; have G2 := Lib.hid g2; clear o2 g2))
          have c2 := part_d (part_c C0.out LC9.out K0.out OWN0.out G1.out) LC9.out O1.out G2.out
          have hbW : Below w9.heap.size w9 W2 := c2.2
          have hsame := same_any c2.1 O2.out.reads (by simp <;> omega) (by simp <;> omega)
          rw [decide_eq_true (by simp)] at hsame
          simp only [List.length_append] at hsame
          have HSM := Lib.hid hsame
          have HBW := Lib.hid hbW
          clear c2 hbW hsame
          refine HSM.out.mono ?_
          rintro e W3 ⟨rfl, kd, rfl⟩
          go_wp2_with fail
          go_ret
          exact ⟨rfl, chain (chain (chain (chain (chain (chain (chain (chain (chain HB1.out HG3.out) HB4.out) HB5.out) HB6.out) HB7.out) HB8.out) HB9.out) HBW.out) (below_drewN (Below.refl _ _) kd)⟩
        · rw [hxs, hxt] at hcz
          rw [hns, hnt] at hnz
          have hla := nl1 a hns
          have hlb := nl2 b hnt
          simp only at hcz hnz
          have HXS := Lib.hid hxs
          have HXT := Lib.hid hxt
          have HNS := Lib.hid hns
          have HNT := Lib.hid hnt
          have HCZ := Lib.hid hcz
          have HNZ := Lib.hid hnz
          clear hxs hxt hns hnt hcz hnz hes het nl1 nl2
          have hx := expand_any HV3.out HM3.out s1 (by omega) HF.out
          unfold ExpandEnd at hx
          rw [HXS.out] at hx
          simp only [Option.getD_none, Option.isSome_none] at hx
          have HX4 := Lib.hid hx
          clear hx
          go_wp2_with fail
          refine HX4.out.mono ?_
          rintro e w4 ⟨rfl, hb⟩
          have HV4 := Lib.hid (HV3.out.below hb HV3.out.ltp HV3.out.ltb)
          have HM4 := Lib.hid (HM3.out.below hb (ML.pos HM3.out))
          have HB4 := Lib.hid hb
          clear hb
          have hx := expand_any HV4.out HM4.out t1 (by omega) HF.out
          unfold ExpandEnd at hx
          rw [HXT.out] at hx
          simp only [Option.getD_some, Option.isSome_some] at hx
          have HX5 := Lib.hid hx
          clear hx
          go_wp2_with fail
          refine HX5.out.mono ?_
          rintro e w5 ⟨rfl, hb⟩
          have HV5 := Lib.hid (HV4.out.below hb HV4.out.ltp HV4.out.ltb)
          have HM5 := Lib.hid (HM4.out.below hb (ML.pos HM4.out))
          have HB5 := Lib.hid hb
          clear hb
          have hx := expand_any HV5.out HM5.out (s1 ++ 32 :: t1) (by simp <;> omega) HF.out
          unfold ExpandEnd at hx
          rw [HCZ.out, show ({ data := (s1 ++ 32 :: t1).toArray } : ByteArray) = ⟨s1.toArray⟩ ++ ⟨#[32]⟩ ++ ⟨t1.toArray⟩ from by rw [show (⟨#[32]⟩ : ByteArray) = ⟨[32].toArray⟩ from rfl, cat_mk, cat_mk]; simp] at hx
          simp only [Option.getD_none, Option.isSome_none] at hx
          have HX6 := Lib.hid hx
          clear hx
          go_wp2_with fail
          refine HX6.out.mono ?_
          rintro e w6 ⟨rfl, hb⟩
          have HV6 := Lib.hid (HV5.out.below hb HV5.out.ltp HV5.out.ltb)
          have HM6 := Lib.hid (HM5.out.below hb (ML.pos HM5.out))
          have HB6 := Lib.hid hb
          clear hb
          have hn := names_any HM6.out (ML.pos HM6.out) s1 (by omega)
          unfold NamesEnd at hn
          rw [HNS.out] at hn
          simp only [Option.getD_some, Option.isSome_some] at hn
          have HN7 := Lib.hid hn
          clear hn
          go_wp2_with fail
          refine HN7.out.mono ?_
          rintro e w7 ⟨va, rfl, hown, hb⟩
          have HM7 := Lib.hid (HM6.out.below hb (ML.pos HM6.out))
          have HB7 := Lib.hid hb
          have HOva := Lib.hid hown
          clear hb hown
          have hn := names_any HM7.out (ML.pos HM7.out) t1 (by omega)
          unfold NamesEnd at hn
          rw [HNT.out] at hn
          simp only [Option.getD_some, Option.isSome_some] at hn
          have HN8 := Lib.hid hn
          clear hn
          go_wp2_with fail
          refine HN8.out.mono ?_
          rintro e w8 ⟨vb, rfl, hown, hb⟩
          have HM8 := Lib.hid (HM7.out.below hb (ML.pos HM7.out))
          have HB8 := Lib.hid hb
          have HOvb := Lib.hid hown
          clear hb hown
          have hn := names_any HM8.out (ML.pos HM8.out) (s1 ++ 32 :: t1) (by simp <;> omega)
          unfold NamesEnd at hn
          rw [HNZ.out, show ({ data := (s1 ++ 32 :: t1).toArray } : ByteArray) = ⟨s1.toArray⟩ ++ ⟨#[32]⟩ ++ ⟨t1.toArray⟩ from by rw [show (⟨#[32]⟩ : ByteArray) = ⟨[32].toArray⟩ from rfl, cat_mk, cat_mk]; simp] at hn
          simp only [Option.getD_some, Option.isSome_some] at hn
          have HN9 := Lib.hid hn
          clear hn
          go_wp2_with fail
          refine HN9.out.mono ?_
          rintro e w9 ⟨vc, rfl, hown, hb⟩
          have HM9 := Lib.hid (HM8.out.below hb (ML.pos HM8.out))
          have HB9 := Lib.hid hb
          have HOvc := Lib.hid hown
          clear hb hown
          obtain ⟨Aa, ca, ea⟩ := HOva.out.form
          obtain ⟨Ab, cb, eb⟩ := HOvb.out.form
          obtain ⟨Ac, cc, ec⟩ := HOvc.out.form
          subst ea
          subst eb
          subst ec
          have ha9 : RS w9 _ a := ((HOva.out.below HB8.out).below HB9.out).reads
          have hb9 : RS w9 _ b := (HOvb.out.below HB9.out).reads
          have hc9 : RS w9 _ (a ++ b) := HOvc.out.reads
          have la9 := HOva.out.ltB
          have lb9 := HOvb.out.ltB
          have lc9 := HOvc.out.ltB
          have z89 := HB8.out.size
          have z99 := HB9.out.size
          have k0 : Below w9.heap.size w9 (w9.alloc (.cells #[] 9)) := (Below.refl _ _).alloc (Nat.le_refl _) _
          have own0 := own_empty w9
          have a0 : RS (w9.alloc (.cells #[] 9)) _ a := ha9.below (fun g c n e => k0.block g (by have := la9 g (by rw [e]; rfl); omega))
          have b0 : RS (w9.alloc (.cells #[] 9)) _ b := hb9.below (fun g c n e => k0.block g (by have := lb9 g (by rw [e]; rfl); omega))
          have c0 : RS (w9.alloc (.cells #[] 9)) _ (a ++ b) := hc9.below (fun g c n e => k0.block g (by have := lc9 g (by rw [e]; rfl); omega))
          have K0 := Lib.hid k0
          have OWN0 := Lib.hid own0
          have A0 := Lib.hid a0
          have B0 := Lib.hid b0
          have C0 := Lib.hid c0
          have LA9 := Lib.hid la9
          have LB9 := Lib.hid lb9
          have LC9 := Lib.hid lc9
          clear ha9 hb9 hc9 la9 lb9 lc9 k0 own0 a0 b0 c0
          have tok1 : True := trivial
          go_wp2_with (first | (at_builtin; have _t := tok1; refine wpList_append_rs rfl (.tmp 99) (.tmp 100) rfl w9.heap.size _ [] a OWN0.out rfl _ A0.out rfl (by simp <;> omega) (by simp) ?_; intro u1 W1 o1 g1; have O1 := Lib.hid o1; have G1 := Lib.hid g1; clear o1 g1 tok1) | (at_builtin; refine wpList_append_rs rfl (.tmp 101) (.tmp 102) rfl w9.heap.size _ ([] ++ a) b O1.out rfl _ (part_b B0.out LB9.out K0.out OWN0.out G1.out z99) rfl (by simp <;> omega) (grown_le K0.out G1.out) ?_; intro u2 W2 o2 g2; have O2 := Lib.hid o2; have G2 := Lib.hid g2; clear o2 g2))
          have c2 := part_d (part_c C0.out LC9.out K0.out OWN0.out G1.out) LC9.out O1.out G2.out
          have hbW : Below w9.heap.size w9 W2 := c2.2
          have hsame := same_any c2.1 O2.out.reads (by simp <;> omega) (by simp <;> omega)
          rw [decide_eq_true (by simp)] at hsame
          simp only [List.length_append] at hsame
          have HSM := Lib.hid hsame
          have HBW := Lib.hid hbW
          clear c2 hbW hsame
          refine HSM.out.mono ?_
          rintro e W3 ⟨rfl, kd, rfl⟩
          go_wp2_with fail
          go_ret
          exact ⟨rfl, chain (chain (chain (chain (chain (chain (chain (chain (chain HB1.out HG3.out) HB4.out) HB5.out) HB6.out) HB7.out) HB8.out) HB9.out) HBW.out) (below_drewN (Below.refl _ _) kd)⟩
    · rcases hnt : namesOf t1 with _ | b
      · have hxt := het hnt
        rw [hxs, hxt] at hcz
        rw [hns, hnt] at hnz
        have hla := nl1 a hns
        have hlb : ([] : List Bs).length ≤ t1.length := Nat.zero_le _
        simp only at hcz hnz
        have HXS := Lib.hid hxs
        have HXT := Lib.hid hxt
        have HNS := Lib.hid hns
        have HNT := Lib.hid hnt
        have HCZ := Lib.hid hcz
        have HNZ := Lib.hid hnz
        clear hxs hxt hns hnt hcz hnz hes het nl1 nl2
        have hx := expand_any HV3.out HM3.out s1 (by omega) HF.out
        unfold ExpandEnd at hx
        rw [HXS.out] at hx
        simp only [Option.getD_some, Option.isSome_some] at hx
        have HX4 := Lib.hid hx
        clear hx
        go_wp2_with fail
        refine HX4.out.mono ?_
        rintro e w4 ⟨rfl, hb⟩
        have HV4 := Lib.hid (HV3.out.below hb HV3.out.ltp HV3.out.ltb)
        have HM4 := Lib.hid (HM3.out.below hb (ML.pos HM3.out))
        have HB4 := Lib.hid hb
        clear hb
        have hx := expand_any HV4.out HM4.out t1 (by omega) HF.out
        unfold ExpandEnd at hx
        rw [HXT.out] at hx
        simp only [Option.getD_none, Option.isSome_none] at hx
        have HX5 := Lib.hid hx
        clear hx
        go_wp2_with fail
        refine HX5.out.mono ?_
        rintro e w5 ⟨rfl, hb⟩
        have HV5 := Lib.hid (HV4.out.below hb HV4.out.ltp HV4.out.ltb)
        have HM5 := Lib.hid (HM4.out.below hb (ML.pos HM4.out))
        have HB5 := Lib.hid hb
        clear hb
        have hx := expand_any HV5.out HM5.out (s1 ++ 32 :: t1) (by simp <;> omega) HF.out
        unfold ExpandEnd at hx
        rw [HCZ.out, show ({ data := (s1 ++ 32 :: t1).toArray } : ByteArray) = ⟨s1.toArray⟩ ++ ⟨#[32]⟩ ++ ⟨t1.toArray⟩ from by rw [show (⟨#[32]⟩ : ByteArray) = ⟨[32].toArray⟩ from rfl, cat_mk, cat_mk]; simp] at hx
        simp only [Option.getD_none, Option.isSome_none] at hx
        have HX6 := Lib.hid hx
        clear hx
        go_wp2_with fail
        refine HX6.out.mono ?_
        rintro e w6 ⟨rfl, hb⟩
        have HV6 := Lib.hid (HV5.out.below hb HV5.out.ltp HV5.out.ltb)
        have HM6 := Lib.hid (HM5.out.below hb (ML.pos HM5.out))
        have HB6 := Lib.hid hb
        clear hb
        have hn := names_any HM6.out (ML.pos HM6.out) s1 (by omega)
        unfold NamesEnd at hn
        rw [HNS.out] at hn
        simp only [Option.getD_some, Option.isSome_some] at hn
        have HN7 := Lib.hid hn
        clear hn
        go_wp2_with fail
        refine HN7.out.mono ?_
        rintro e w7 ⟨va, rfl, hown, hb⟩
        have HM7 := Lib.hid (HM6.out.below hb (ML.pos HM6.out))
        have HB7 := Lib.hid hb
        have HOva := Lib.hid hown
        clear hb hown
        have hn := names_any HM7.out (ML.pos HM7.out) t1 (by omega)
        unfold NamesEnd at hn
        rw [HNT.out] at hn
        simp only [Option.getD_none, Option.isSome_none] at hn
        have HN8 := Lib.hid hn
        clear hn
        go_wp2_with fail
        refine HN8.out.mono ?_
        rintro e w8 ⟨vb, rfl, hown, hb⟩
        have HM8 := Lib.hid (HM7.out.below hb (ML.pos HM7.out))
        have HB8 := Lib.hid hb
        have HOvb := Lib.hid hown
        clear hb hown
        have hn := names_any HM8.out (ML.pos HM8.out) (s1 ++ 32 :: t1) (by simp <;> omega)
        unfold NamesEnd at hn
        rw [HNZ.out, show ({ data := (s1 ++ 32 :: t1).toArray } : ByteArray) = ⟨s1.toArray⟩ ++ ⟨#[32]⟩ ++ ⟨t1.toArray⟩ from by rw [show (⟨#[32]⟩ : ByteArray) = ⟨[32].toArray⟩ from rfl, cat_mk, cat_mk]; simp] at hn
        simp only [Option.getD_none, Option.isSome_none] at hn
        have HN9 := Lib.hid hn
        clear hn
        go_wp2_with fail
        refine HN9.out.mono ?_
        rintro e w9 ⟨vc, rfl, hown, hb⟩
        have HM9 := Lib.hid (HM8.out.below hb (ML.pos HM8.out))
        have HB9 := Lib.hid hb
        have HOvc := Lib.hid hown
        clear hb hown
        obtain ⟨Aa, ca, ea⟩ := HOva.out.form
        obtain ⟨Ab, cb, eb⟩ := HOvb.out.form
        obtain ⟨Ac, cc, ec⟩ := HOvc.out.form
        subst ea
        subst eb
        subst ec
        have ha9 : RS w9 _ a := ((HOva.out.below HB8.out).below HB9.out).reads
        have hb9 : RS w9 _ [] := (HOvb.out.below HB9.out).reads
        have hc9 : RS w9 _ ([]) := HOvc.out.reads
        have la9 := HOva.out.ltB
        have lb9 := HOvb.out.ltB
        have lc9 := HOvc.out.ltB
        have z89 := HB8.out.size
        have z99 := HB9.out.size
        have k0 : Below w9.heap.size w9 (w9.alloc (.cells #[] 9)) := (Below.refl _ _).alloc (Nat.le_refl _) _
        have own0 := own_empty w9
        have a0 : RS (w9.alloc (.cells #[] 9)) _ a := ha9.below (fun g c n e => k0.block g (by have := la9 g (by rw [e]; rfl); omega))
        have b0 : RS (w9.alloc (.cells #[] 9)) _ [] := hb9.below (fun g c n e => k0.block g (by have := lb9 g (by rw [e]; rfl); omega))
        have c0 : RS (w9.alloc (.cells #[] 9)) _ ([]) := hc9.below (fun g c n e => k0.block g (by have := lc9 g (by rw [e]; rfl); omega))
        have K0 := Lib.hid k0
        have OWN0 := Lib.hid own0
        have A0 := Lib.hid a0
        have B0 := Lib.hid b0
        have C0 := Lib.hid c0
        have LA9 := Lib.hid la9
        have LB9 := Lib.hid lb9
        have LC9 := Lib.hid lc9
        clear ha9 hb9 hc9 la9 lb9 lc9 k0 own0 a0 b0 c0
        have tok1 : True := trivial
        go_wp2_with (first | (at_builtin; have _t := tok1; refine wpList_append_rs rfl (.tmp 99) (.tmp 100) rfl w9.heap.size _ [] a OWN0.out rfl _ A0.out rfl (by simp <;> omega) (by simp) ?_; intro u1 W1 o1 g1; have O1 := Lib.hid o1; have G1 := Lib.hid g1; clear o1 g1 tok1) | (at_builtin; refine wpList_append_rs rfl (.tmp 101) (.tmp 102) rfl w9.heap.size _ ([] ++ a) [] O1.out rfl _ (part_b B0.out LB9.out K0.out OWN0.out G1.out z99) rfl (by simp <;> omega) (grown_le K0.out G1.out) ?_; intro u2 W2 o2 g2; have O2 := Lib.hid o2; have G2 := Lib.hid g2; clear o2 g2))
        have c2 := part_d (part_c C0.out LC9.out K0.out OWN0.out G1.out) LC9.out O1.out G2.out
        have hbW : Below w9.heap.size w9 W2 := c2.2
        have hsame := same_any c2.1 O2.out.reads (by simp <;> omega) (by simp <;> omega)
        obtain ⟨sb, hsb⟩ : ∃ sb, decide (([] : List Bs) = [] ++ a ++ []) = sb := ⟨_, rfl⟩
        rw [hsb] at hsame
        clear hsb
        have HSM := Lib.hid hsame
        have HBW := Lib.hid hbW
        clear c2 hbW hsame
        refine HSM.out.mono ?_
        rintro e W3 ⟨rfl, kd, rfl⟩
        go_wp2_with fail
        go_ret
        exact ⟨rfl, chain (chain (chain (chain (chain (chain (chain (chain (chain HB1.out HG3.out) HB4.out) HB5.out) HB6.out) HB7.out) HB8.out) HB9.out) HBW.out) (below_drewN (Below.refl _ _) kd)⟩
      · rcases hxt : VM.expand F t1 with _ | y
        · rw [hxs, hxt] at hcz
          rw [hns, hnt] at hnz
          have hla := nl1 a hns
          have hlb := nl2 b hnt
          simp only at hcz hnz
          have HXS := Lib.hid hxs
          have HXT := Lib.hid hxt
          have HNS := Lib.hid hns
          have HNT := Lib.hid hnt
          have HCZ := Lib.hid hcz
          have HNZ := Lib.hid hnz
          clear hxs hxt hns hnt hcz hnz hes het nl1 nl2
          have hx := expand_any HV3.out HM3.out s1 (by omega) HF.out
          unfold ExpandEnd at hx
          rw [HXS.out] at hx
          simp only [Option.getD_some, Option.isSome_some] at hx
          have HX4 := Lib.hid hx
          clear hx
          go_wp2_with fail
          refine HX4.out.mono ?_
          rintro e w4 ⟨rfl, hb⟩
          have HV4 := Lib.hid (HV3.out.below hb HV3.out.ltp HV3.out.ltb)
          have HM4 := Lib.hid (HM3.out.below hb (ML.pos HM3.out))
          have HB4 := Lib.hid hb
          clear hb
          have hx := expand_any HV4.out HM4.out t1 (by omega) HF.out
          unfold ExpandEnd at hx
          rw [HXT.out] at hx
          simp only [Option.getD_none, Option.isSome_none] at hx
          have HX5 := Lib.hid hx
          clear hx
          go_wp2_with fail
          refine HX5.out.mono ?_
          rintro e w5 ⟨rfl, hb⟩
          have HV5 := Lib.hid (HV4.out.below hb HV4.out.ltp HV4.out.ltb)
          have HM5 := Lib.hid (HM4.out.below hb (ML.pos HM4.out))
          have HB5 := Lib.hid hb
          clear hb
          have hx := expand_any HV5.out HM5.out (s1 ++ 32 :: t1) (by simp <;> omega) HF.out
          unfold ExpandEnd at hx
          rw [HCZ.out, show ({ data := (s1 ++ 32 :: t1).toArray } : ByteArray) = ⟨s1.toArray⟩ ++ ⟨#[32]⟩ ++ ⟨t1.toArray⟩ from by rw [show (⟨#[32]⟩ : ByteArray) = ⟨[32].toArray⟩ from rfl, cat_mk, cat_mk]; simp] at hx
          simp only [Option.getD_none, Option.isSome_none] at hx
          have HX6 := Lib.hid hx
          clear hx
          go_wp2_with fail
          refine HX6.out.mono ?_
          rintro e w6 ⟨rfl, hb⟩
          have HV6 := Lib.hid (HV5.out.below hb HV5.out.ltp HV5.out.ltb)
          have HM6 := Lib.hid (HM5.out.below hb (ML.pos HM5.out))
          have HB6 := Lib.hid hb
          clear hb
          have hn := names_any HM6.out (ML.pos HM6.out) s1 (by omega)
          unfold NamesEnd at hn
          rw [HNS.out] at hn
          simp only [Option.getD_some, Option.isSome_some] at hn
          have HN7 := Lib.hid hn
          clear hn
          go_wp2_with fail
          refine HN7.out.mono ?_
          rintro e w7 ⟨va, rfl, hown, hb⟩
          have HM7 := Lib.hid (HM6.out.below hb (ML.pos HM6.out))
          have HB7 := Lib.hid hb
          have HOva := Lib.hid hown
          clear hb hown
          have hn := names_any HM7.out (ML.pos HM7.out) t1 (by omega)
          unfold NamesEnd at hn
          rw [HNT.out] at hn
          simp only [Option.getD_some, Option.isSome_some] at hn
          have HN8 := Lib.hid hn
          clear hn
          go_wp2_with fail
          refine HN8.out.mono ?_
          rintro e w8 ⟨vb, rfl, hown, hb⟩
          have HM8 := Lib.hid (HM7.out.below hb (ML.pos HM7.out))
          have HB8 := Lib.hid hb
          have HOvb := Lib.hid hown
          clear hb hown
          have hn := names_any HM8.out (ML.pos HM8.out) (s1 ++ 32 :: t1) (by simp <;> omega)
          unfold NamesEnd at hn
          rw [HNZ.out, show ({ data := (s1 ++ 32 :: t1).toArray } : ByteArray) = ⟨s1.toArray⟩ ++ ⟨#[32]⟩ ++ ⟨t1.toArray⟩ from by rw [show (⟨#[32]⟩ : ByteArray) = ⟨[32].toArray⟩ from rfl, cat_mk, cat_mk]; simp] at hn
          simp only [Option.getD_some, Option.isSome_some] at hn
          have HN9 := Lib.hid hn
          clear hn
          go_wp2_with fail
          refine HN9.out.mono ?_
          rintro e w9 ⟨vc, rfl, hown, hb⟩
          have HM9 := Lib.hid (HM8.out.below hb (ML.pos HM8.out))
          have HB9 := Lib.hid hb
          have HOvc := Lib.hid hown
          clear hb hown
          obtain ⟨Aa, ca, ea⟩ := HOva.out.form
          obtain ⟨Ab, cb, eb⟩ := HOvb.out.form
          obtain ⟨Ac, cc, ec⟩ := HOvc.out.form
          subst ea
          subst eb
          subst ec
          have ha9 : RS w9 _ a := ((HOva.out.below HB8.out).below HB9.out).reads
          have hb9 : RS w9 _ b := (HOvb.out.below HB9.out).reads
          have hc9 : RS w9 _ (a ++ b) := HOvc.out.reads
          have la9 := HOva.out.ltB
          have lb9 := HOvb.out.ltB
          have lc9 := HOvc.out.ltB
          have z89 := HB8.out.size
          have z99 := HB9.out.size
          have k0 : Below w9.heap.size w9 (w9.alloc (.cells #[] 9)) := (Below.refl _ _).alloc (Nat.le_refl _) _
          have own0 := own_empty w9
          have a0 : RS (w9.alloc (.cells #[] 9)) _ a := ha9.below (fun g c n e => k0.block g (by have := la9 g (by rw [e]; rfl); omega))
          have b0 : RS (w9.alloc (.cells #[] 9)) _ b := hb9.below (fun g c n e => k0.block g (by have := lb9 g (by rw [e]; rfl); omega))
          have c0 : RS (w9.alloc (.cells #[] 9)) _ (a ++ b) := hc9.below (fun g c n e => k0.block g (by have := lc9 g (by rw [e]; rfl); omega))
          have K0 := Lib.hid k0
          have OWN0 := Lib.hid own0
          have A0 := Lib.hid a0
          have B0 := Lib.hid b0
          have C0 := Lib.hid c0
          have LA9 := Lib.hid la9
          have LB9 := Lib.hid lb9
          have LC9 := Lib.hid lc9
          clear ha9 hb9 hc9 la9 lb9 lc9 k0 own0 a0 b0 c0
          have tok1 : True := trivial
          go_wp2_with (first | (at_builtin; have _t := tok1; refine wpList_append_rs rfl (.tmp 99) (.tmp 100) rfl w9.heap.size _ [] a OWN0.out rfl _ A0.out rfl (by simp <;> omega) (by simp) ?_; intro u1 W1 o1 g1; have O1 := Lib.hid o1; have G1 := Lib.hid g1; clear o1 g1 tok1) | (at_builtin; refine wpList_append_rs rfl (.tmp 101) (.tmp 102) rfl w9.heap.size _ ([] ++ a) b O1.out rfl _ (part_b B0.out LB9.out K0.out OWN0.out G1.out z99) rfl (by simp <;> omega) (grown_le K0.out G1.out) ?_; intro u2 W2 o2 g2; have O2 := Lib.hid o2; have G2 := Lib.hid g2; clear o2 g2))
          have c2 := part_d (part_c C0.out LC9.out K0.out OWN0.out G1.out) LC9.out O1.out G2.out
          have hbW : Below w9.heap.size w9 W2 := c2.2
          have hsame := same_any c2.1 O2.out.reads (by simp <;> omega) (by simp <;> omega)
          rw [decide_eq_true (by simp)] at hsame
          simp only [List.length_append] at hsame
          have HSM := Lib.hid hsame
          have HBW := Lib.hid hbW
          clear c2 hbW hsame
          refine HSM.out.mono ?_
          rintro e W3 ⟨rfl, kd, rfl⟩
          go_wp2_with fail
          go_ret
          exact ⟨rfl, chain (chain (chain (chain (chain (chain (chain (chain (chain HB1.out HG3.out) HB4.out) HB5.out) HB6.out) HB7.out) HB8.out) HB9.out) HBW.out) (below_drewN (Below.refl _ _) kd)⟩
        · rw [hxs, hxt] at hcz
          rw [hns, hnt] at hnz
          have hla := nl1 a hns
          have hlb := nl2 b hnt
          simp only at hcz hnz
          have HXS := Lib.hid hxs
          have HXT := Lib.hid hxt
          have HNS := Lib.hid hns
          have HNT := Lib.hid hnt
          have HCZ := Lib.hid hcz
          have HNZ := Lib.hid hnz
          clear hxs hxt hns hnt hcz hnz hes het nl1 nl2
          have hx := expand_any HV3.out HM3.out s1 (by omega) HF.out
          unfold ExpandEnd at hx
          rw [HXS.out] at hx
          simp only [Option.getD_some, Option.isSome_some] at hx
          have HX4 := Lib.hid hx
          clear hx
          go_wp2_with fail
          refine HX4.out.mono ?_
          rintro e w4 ⟨rfl, hb⟩
          have HV4 := Lib.hid (HV3.out.below hb HV3.out.ltp HV3.out.ltb)
          have HM4 := Lib.hid (HM3.out.below hb (ML.pos HM3.out))
          have HB4 := Lib.hid hb
          clear hb
          have hx := expand_any HV4.out HM4.out t1 (by omega) HF.out
          unfold ExpandEnd at hx
          rw [HXT.out] at hx
          simp only [Option.getD_some, Option.isSome_some] at hx
          have HX5 := Lib.hid hx
          clear hx
          go_wp2_with fail
          refine HX5.out.mono ?_
          rintro e w5 ⟨rfl, hb⟩
          have HV5 := Lib.hid (HV4.out.below hb HV4.out.ltp HV4.out.ltb)
          have HM5 := Lib.hid (HM4.out.below hb (ML.pos HM4.out))
          have HB5 := Lib.hid hb
          clear hb
          have hx := expand_any HV5.out HM5.out (s1 ++ 32 :: t1) (by simp <;> omega) HF.out
          unfold ExpandEnd at hx
          rw [HCZ.out, show ({ data := (s1 ++ 32 :: t1).toArray } : ByteArray) = ⟨s1.toArray⟩ ++ ⟨#[32]⟩ ++ ⟨t1.toArray⟩ from by rw [show (⟨#[32]⟩ : ByteArray) = ⟨[32].toArray⟩ from rfl, cat_mk, cat_mk]; simp] at hx
          simp only [Option.getD_some, Option.isSome_some] at hx
          rw [show ({ data := (x ++ 32 :: y).toArray } : ByteArray) = ⟨x.toArray⟩ ++ ⟨#[32]⟩ ++ ⟨y.toArray⟩ from by rw [show (⟨#[32]⟩ : ByteArray) = ⟨[32].toArray⟩ from rfl, cat_mk, cat_mk]; simp] at hx
          have HX6 := Lib.hid hx
          clear hx
          go_wp2_with fail
          refine HX6.out.mono ?_
          rintro e w6 ⟨rfl, hb⟩
          have HV6 := Lib.hid (HV5.out.below hb HV5.out.ltp HV5.out.ltb)
          have HM6 := Lib.hid (HM5.out.below hb (ML.pos HM5.out))
          have HB6 := Lib.hid hb
          clear hb
          have hn := names_any HM6.out (ML.pos HM6.out) s1 (by omega)
          unfold NamesEnd at hn
          rw [HNS.out] at hn
          simp only [Option.getD_some, Option.isSome_some] at hn
          have HN7 := Lib.hid hn
          clear hn
          go_wp2_with fail
          refine HN7.out.mono ?_
          rintro e w7 ⟨va, rfl, hown, hb⟩
          have HM7 := Lib.hid (HM6.out.below hb (ML.pos HM6.out))
          have HB7 := Lib.hid hb
          have HOva := Lib.hid hown
          clear hb hown
          have hn := names_any HM7.out (ML.pos HM7.out) t1 (by omega)
          unfold NamesEnd at hn
          rw [HNT.out] at hn
          simp only [Option.getD_some, Option.isSome_some] at hn
          have HN8 := Lib.hid hn
          clear hn
          go_wp2_with fail
          refine HN8.out.mono ?_
          rintro e w8 ⟨vb, rfl, hown, hb⟩
          have HM8 := Lib.hid (HM7.out.below hb (ML.pos HM7.out))
          have HB8 := Lib.hid hb
          have HOvb := Lib.hid hown
          clear hb hown
          have hn := names_any HM8.out (ML.pos HM8.out) (s1 ++ 32 :: t1) (by simp <;> omega)
          unfold NamesEnd at hn
          rw [HNZ.out, show ({ data := (s1 ++ 32 :: t1).toArray } : ByteArray) = ⟨s1.toArray⟩ ++ ⟨#[32]⟩ ++ ⟨t1.toArray⟩ from by rw [show (⟨#[32]⟩ : ByteArray) = ⟨[32].toArray⟩ from rfl, cat_mk, cat_mk]; simp] at hn
          simp only [Option.getD_some, Option.isSome_some] at hn
          have HN9 := Lib.hid hn
          clear hn
          go_wp2_with fail
          refine HN9.out.mono ?_
          rintro e w9 ⟨vc, rfl, hown, hb⟩
          have HM9 := Lib.hid (HM8.out.below hb (ML.pos HM8.out))
          have HB9 := Lib.hid hb
          have HOvc := Lib.hid hown
          clear hb hown
          obtain ⟨Aa, ca, ea⟩ := HOva.out.form
          obtain ⟨Ab, cb, eb⟩ := HOvb.out.form
          obtain ⟨Ac, cc, ec⟩ := HOvc.out.form
          subst ea
          subst eb
          subst ec
          have ha9 : RS w9 _ a := ((HOva.out.below HB8.out).below HB9.out).reads
          have hb9 : RS w9 _ b := (HOvb.out.below HB9.out).reads
          have hc9 : RS w9 _ (a ++ b) := HOvc.out.reads
          have la9 := HOva.out.ltB
          have lb9 := HOvb.out.ltB
          have lc9 := HOvc.out.ltB
          have z89 := HB8.out.size
          have z99 := HB9.out.size
          have k0 : Below w9.heap.size w9 (w9.alloc (.cells #[] 9)) := (Below.refl _ _).alloc (Nat.le_refl _) _
          have own0 := own_empty w9
          have a0 : RS (w9.alloc (.cells #[] 9)) _ a := ha9.below (fun g c n e => k0.block g (by have := la9 g (by rw [e]; rfl); omega))
          have b0 : RS (w9.alloc (.cells #[] 9)) _ b := hb9.below (fun g c n e => k0.block g (by have := lb9 g (by rw [e]; rfl); omega))
          have c0 : RS (w9.alloc (.cells #[] 9)) _ (a ++ b) := hc9.below (fun g c n e => k0.block g (by have := lc9 g (by rw [e]; rfl); omega))
          have K0 := Lib.hid k0
          have OWN0 := Lib.hid own0
          have A0 := Lib.hid a0
          have B0 := Lib.hid b0
          have C0 := Lib.hid c0
          have LA9 := Lib.hid la9
          have LB9 := Lib.hid lb9
          have LC9 := Lib.hid lc9
          clear ha9 hb9 hc9 la9 lb9 lc9 k0 own0 a0 b0 c0
          have tok1 : True := trivial
          go_wp2_with (first | (at_builtin; have _t := tok1; refine wpList_append_rs rfl (.tmp 99) (.tmp 100) rfl w9.heap.size _ [] a OWN0.out rfl _ A0.out rfl (by simp <;> omega) (by simp) ?_; intro u1 W1 o1 g1; have O1 := Lib.hid o1; have G1 := Lib.hid g1; clear o1 g1 tok1) | (at_builtin; refine wpList_append_rs rfl (.tmp 101) (.tmp 102) rfl w9.heap.size _ ([] ++ a) b O1.out rfl _ (part_b B0.out LB9.out K0.out OWN0.out G1.out z99) rfl (by simp <;> omega) (grown_le K0.out G1.out) ?_; intro u2 W2 o2 g2; have O2 := Lib.hid o2; have G2 := Lib.hid g2; clear o2 g2))
          have c2 := part_d (part_c C0.out LC9.out K0.out OWN0.out G1.out) LC9.out O1.out G2.out
          have hbW : Below w9.heap.size w9 W2 := c2.2
          have hsame := same_any c2.1 O2.out.reads (by simp <;> omega) (by simp <;> omega)
          rw [decide_eq_true (by simp)] at hsame
          simp only [List.length_append] at hsame
          have HSM := Lib.hid hsame
          have HBW := Lib.hid hbW
          clear c2 hbW hsame
          refine HSM.out.mono ?_
          rintro e W3 ⟨rfl, kd, rfl⟩
          have hlx := expand_len F HF.out s1 x HXS.out
          have hly := expand_len F HF.out t1 y HXT.out
          go_wp2_with fail
          go_ret
          exact ⟨rfl, chain (chain (chain (chain (chain (chain (chain (chain (chain HB1.out HG3.out) HB4.out) HB5.out) HB6.out) HB7.out) HB8.out) HB9.out) HBW.out) (below_drewN (Below.refl _ _) kd)⟩
end Go.Proofs.YtlggegjjhbknaaaDoor

