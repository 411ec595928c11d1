import Derived.Test.YtlggegjjhbknaaaDoorVref
namespace Go.Proofs.YtlggegjjhbknaaaDoor
open Go.RowKit Go.Shelf Go.Lib Go.Maps Go.WideMaps

theorem OwnT.below {B : Nat} {w w' : World} {v : Value} {l : List VM.Tok} (h : OwnT B w v l) (hb : Below w.heap.size w w') : OwnT B w' v l := by
  refine ⟨h.1, ?_⟩
  rcases h.2 with h0 | ⟨g, cap, cur, hv, hg, hh, r⟩
  · exact .inl h0
  · exact .inr ⟨g, cap, cur, hv, hg, (hb.block g (lt_of_block hh)).trans hh, r⟩

theorem ownT_empty (w : World) : OwnT w.heap.size (w.alloc (.cells #[] 65)) (.slice (some ⟨w.heap.size, 0, none⟩) 0 0) [] :=
  ⟨rfl, .inr ⟨w.heap.size, 0, #[], rfl, Nat.le_refl _, heap_alloc_new _ _, Nat.le_refl _, Nat.zero_le _, rfl, rfl⟩⟩

/-- One piece more. -/
theorem wpList_append_tok {w : World} {ops : Array Oper} {rest : List Oper} {o : Oper} {a : Act} {Q : Exit → Act → World → Prop} (hgd : o.guard = none) (s x : Operand)
    (ho : o.op = .call { callee := .builtin .append, args := #[s, x], argTypes := #[61, 61] }) (B : Nat) (v : Value) (l : List VM.Tok) (t : VM.Tok) (w0 : World) (cs : Array Value) (hcs : cs = (tokV [t]).toArray) (hw : w = w0.alloc (.cells cs 65)) (hown : OwnT B w0 v l) (hs : a.eval s = v) (hx : a.eval x = .slice (some ⟨w0.heap.size, 0, none⟩) 1 1)
    (hlen : l.length ≤ 100000) (hB : B ≤ w0.heap.size)
    (h : ∀ v' w', OwnT B w' v' (l ++ [t]) → Below B w0 w' → w0.heap.size ≤ w'.heap.size → wpList Tryd.prog ops Q rest (a.put o.dst v') w') : wpList Tryd.prog ops Q (o :: rest) a w := by
  obtain ⟨i0, hi, hz0, hz1, hz2⟩ := info_parts info65
  subst hw
  subst hcs
  have h2 : (tokV [t]).length = 2 := by cases t <;> rfl
  refine wpList_append_own _ hgd s x 61 ho B 65 i0 _ 2 24 Tryd.underlying61 hi hz0 hz1 hz2 rfl (by decide) v _ _ hs (World.ownsRow.alloc hown _) ⟨w0.heap.size, 0, none⟩ 1 1 (tokV [t]) hx (by omega) ?_ ?_ (by unfold maxLen; omega) (by omega) (by simp; omega) ?_
  · intro j u hu
    rw [Addr.add_lit, Nat.zero_add, cell_of_row _ w0.heap.size j (tokV [t]).toArray 65 (0, 0) (heap_alloc_new _ _)]
    simpa using hu
  · intro u hu
    cases t <;> simp [tokV] at hu <;> rcases hu with rfl | rfl <;> rfl
  · intro v' w' ho' hg _
    have hg1 := (World.grownBy_alloc w0 (.cells (tokV [t]).toArray 65) v.ownBlock).trans hg
    refine h v' w' ?_ ?_ hg1.size
    · unfold OwnT; rw [tokV_snoc]; simpa using ho'
    · refine (Below.refl B w0).grown hg1 hB (fun j hj => ?_)
      rcases hown.2 with ⟨rfl, _⟩ | ⟨g, cap, cur, rfl, hg, _⟩
      · simp [Value.ownBlock] at hj
      · simp [Value.ownBlock] at hj; omega

def PartsEnd (t : Bs) (w : World) (e : Ending) (w' : World) : Prop :=
  ∃ v, e = .returned (.tuple #[v, .bool (VM.parse .norm t).isSome]) ∧ OwnT w.heap.size w' v ((VM.parse .norm t).getD []) ∧ Below w.heap.size w w'

set_option maxHeartbeats 4000000 in
theorem parts_any (w : World) (t : ByteArray) (ht : t.size ≤ 10000) :
    Calls Tryd.prog 30 #[.string t] w (PartsEnd t.data.toList w) := by
  have hb0 : Below w.heap.size w (w.alloc (.cells #[] 65)) := (Below.refl _ _).alloc (Nat.le_refl _) _
  have ho0 := ownT_empty w
  have HB0 := Lib.hid hb0
  have HO0 := Lib.hid ho0
  clear hb0 ho0
  go_enter Tryd.func30, Tryd.ntmps30
  go_wp2_with fail
  go_loopg [4, 5] t.size (fun g ov av wr => ∃ (k : Nat) (l : List VM.Tok), k ≤ t.size ∧ g = t.size - k ∧ av = .int .i64 k ∧ OwnT w.heap.size wr ov l ∧ Below w.heap.size w wr ∧ w.heap.size ≤ wr.heap.size ∧ l.length ≤ k ∧ VM.parse .norm t.data.toList = VM.cat? (some l) (VM.parse .norm (t.data.toList.drop k)))
  case atStart =>
    refine ⟨0, [], by omega, by omega, rfl, HO0.out, HB0.out, HB0.out.size, by simp, ?_⟩
    rw [List.drop_zero]
    cases VM.parse .norm t.data.toList <;> rfl
  case round =>
    obtain ⟨k, l, hk, rfl, rfl, hown, hbel, hsz, hll, hp⟩ := hrel
    obtain ⟨wo, rfl⟩ : ∃ wo : World, wo = wr := ⟨_, rfl⟩
    have HO := Lib.hid hown
    have HB := Lib.hid hbel
    have HP := Lib.hid hp
    clear hown hbel hp
    by_cases hlt : k < t.size
    · have hd : t.data.toList.drop k = t[k] :: t.data.toList.drop (k + 1) := List.drop_eq_getElem_cons (by simpa using hlt)
      have HD := Lib.hid hd
      clear hd
      by_cases h36 : t[k] = 36
      · have heq : ((t[k].toNat : Int) != 36) = false := by rw [h36]; rfl
        have hps : VM.parse .norm (t.data.toList.drop k) = VM.parse .sign (t.data.toList.drop (k + 1)) := by
          rw [HD.out, h36, VM.parse, if_pos rfl]
        have HPS := Lib.hid hps
        clear hps h36
        go_wp2_with fail
        go_loopg [6] (t.size - (k + 1) + 1) (fun g ev wi => wi = wo ∧ ∃ j : Nat, k + 1 ≤ j ∧ j ≤ t.size ∧ g = t.size - j + 1 ∧ ev = .int .i64 j ∧ VM.parse .sign (t.data.toList.drop (k + 1)) = VM.parse (atSt t.data.toList k j) (t.data.toList.drop j))
        case atStart => exact ⟨rfl, k + 1, by omega, by omega, rfl, by go_num, by simp [atSt]⟩
        case round =>
          obtain ⟨rfl, j, hj1, hj2, rfl, rfl, hpj⟩ := hrel
          have HPJ := Lib.hid hpj
          clear hpj
          have hdk : ((j : Int) == (k : Int) + 1) = decide (j = k + 1) := by rw [Bool.eq_iff_iff]; simp; omega
          by_cases hjn : j < t.size
          · have hl := letter_any t[j] ((j : Int) == (k : Int) + 1) wr
            obtain ⟨b, hb⟩ : ∃ b, (VM.small t[j] || (!decide (j = k + 1) && VM.more t[j])) = b := ⟨_, rfl⟩
            rw [hdk, hb, ← hdk] at hl
            have HL := Lib.hid hl
            have HBL := Lib.hid hb
            clear hl hb hdk
            cases b with
            | true =>
              go_wp2_with fail
              refine HL.out.mono ?_
              rintro e wA ⟨rfl, rfl⟩
              go_wp2_with fail
              go_roundg (t.size - (j + 1) + 1)
              case measure => omega
              case rel =>
                refine ⟨rfl, j + 1, by omega, by omega, rfl, by go_num, ?_⟩
                rw [HPJ.out]
                exact parse_atSt hj1 (by simpa using hjn) HBL.out
            | false =>
              by_cases hgt : k + 1 < j
              · have hen := parse_atEnd hgt (t := t.data.toList) (by simpa using hj2) (fun _ => HBL.out)
                have HEN := Lib.hid hen
                clear hen
                have hx : t.extract (k + 1) j = ⟨((t.data.toList.drop (k + 1)).take (j - (k + 1))).toArray⟩ := ext_eq ..
                have HX := Lib.hid hx
                clear hx
                go_wp2_with (first | (go_at_call 36; refine HL.out.mono ?_; rintro e wA ⟨rfl, rfl⟩) | (at_builtin; refine wpList_append_tok rfl _ _ rfl w.heap.size _ l (.nm ((t.data.toList.drop (k + 1)).take (j - (k + 1)))) _ _ (by rw [HX.out]; rfl) rfl HO.out rfl rfl (by omega) hsz ?_; intro v1 w1 o1 b1 z1; have O1 := Lib.hid o1; have B1 := Lib.hid b1; clear o1 b1))
                go_roundg (t.size - j)
                case measure => omega
                case rel =>
                  refine ⟨j, _, by omega, rfl, by go_num, O1.out, HB.out.trans B1.out, by omega, by simp; omega, ?_⟩
                  rw [HP.out, HPS.out, HPJ.out, HEN.out, cat_snoc]
              · have hjk : j = k + 1 := by omega
                have HJK := Lib.hid hjk
                have hsp : t.data.toList.drop (k + 1) = t[j] :: t.data.toList.drop (j + 1) := by
                  rw [← hjk]; exact List.drop_eq_getElem_cons (by simpa using hjn)
                have hsm : VM.small t[j] = false := (Bool.or_eq_false_iff.1 HBL.out).1
                clear hjk
                by_cases h36 : t[j] = 36
                · have heq2 : ((t[j].toNat : Int) != 36) = false := by rw [h36]; rfl
                  have hpn : VM.parse .sign (t.data.toList.drop (k + 1)) = VM.cons? (.ch 36) (VM.parse .norm (t.data.toList.drop (j + 1))) := by
                    rw [hsp, h36, VM.parse, if_pos rfl]
                  have HPN := Lib.hid hpn
                  clear hpn h36 hsp hsm
                  go_wp2_with (first | (go_at_call 36; refine HL.out.mono ?_; rintro e wA ⟨rfl, rfl⟩) | (at_builtin; refine wpList_append_tok rfl _ _ rfl w.heap.size _ l (.ch 36) _ _ rfl rfl HO.out rfl rfl (by omega) hsz ?_; intro v1 w1 o1 b1 z1; have O1 := Lib.hid o1; have B1 := Lib.hid b1; clear o1 b1))
                  go_roundg (t.size - (j + 1))
                  case measure => omega
                  case rel =>
                    refine ⟨j + 1, _, by omega, rfl, by go_num, O1.out, HB.out.trans B1.out, by omega, by simp; omega, ?_⟩
                    rw [HP.out, HPS.out, HPN.out, cat_snoc]
                · have heq2 : ((t[j].toNat : Int) != 36) = true := by
                    have : t[j].toNat ≠ 36 := fun e => h36 (UInt8.toNat_inj.1 (by simpa using e))
                    simp; omega
                  have hpn : VM.parse .norm t.data.toList = none := by
                    rw [HP.out, HPS.out, hsp, VM.parse, if_neg h36, if_neg (by rw [hsm]; decide)]
                    rfl
                  have HPN := Lib.hid hpn
                  clear hpn h36 hsp hsm
                  go_wp2_with (first | (go_at_call 36; refine HL.out.mono ?_; rintro e wA ⟨rfl, rfl⟩))
                  go_ret2
                  exact ⟨_, by rw [HPN.out]; rfl, by rw [HPN.out]; exact World.ownsRow_nil _ _ _ _, HB.out⟩
          · by_cases hgt : k + 1 < j
            · have hen := parse_atEnd hgt (t := t.data.toList) (by simpa using hj2) (fun h => absurd (by simpa using h) hjn)
              have HEN := Lib.hid hen
              clear hen hdk
              have hx : t.extract (k + 1) j = ⟨((t.data.toList.drop (k + 1)).take (j - (k + 1))).toArray⟩ := ext_eq ..
              have HX := Lib.hid hx
              clear hx
              go_wp2_with (first | (go_at_call 36; refine HL.out.mono ?_; rintro e wA ⟨rfl, rfl⟩) | (at_builtin; refine wpList_append_tok rfl _ _ rfl w.heap.size _ l (.nm ((t.data.toList.drop (k + 1)).take (j - (k + 1)))) _ _ (by rw [HX.out]; rfl) rfl HO.out rfl rfl (by omega) hsz ?_; intro v1 w1 o1 b1 z1; have O1 := Lib.hid o1; have B1 := Lib.hid b1; clear o1 b1))
              go_roundg (t.size - j)
              case measure => omega
              case rel =>
                refine ⟨j, _, by omega, rfl, by go_num, O1.out, HB.out.trans B1.out, by omega, by simp; omega, ?_⟩
                rw [HP.out, HPS.out, HPJ.out, HEN.out, cat_snoc]
            · have hpn : VM.parse .norm t.data.toList = none := by
                rw [HP.out, HPS.out, List.drop_eq_nil_of_le (by simp; omega), VM.parse]
                rfl
              have HPN := Lib.hid hpn
              clear hpn hdk
              go_wp2_with fail
              go_ret2
              exact ⟨_, by rw [HPN.out]; rfl, by rw [HPN.out]; exact World.ownsRow_nil _ _ _ _, HB.out⟩
      · have hne : ((t[k].toNat : Int) == 36) = false := by
          have : t[k].toNat ≠ 36 := fun e => h36 (UInt8.toNat_inj.1 (by simpa using e))
          simp; omega
        have H36 := Lib.hid h36
        clear h36
        have hx : t.extract k (k + 1) = ⟨#[t[k]]⟩ := ext_one t k hlt
        have HX := Lib.hid hx
        clear hx
        go_wp2_with (at_builtin; refine wpList_append_tok rfl _ _ rfl w.heap.size _ l (.ch t[k]) _ _ (by rw [HX.out]; rfl) rfl HO.out rfl rfl (by omega) hsz ?_; intro v1 w1 o1 b1 z1; have O1 := Lib.hid o1; have B1 := Lib.hid b1; clear o1 b1)
        go_roundg (t.size - (k + 1))
        case measure => omega
        case rel =>
          refine ⟨k + 1, _, by omega, rfl, by go_num, O1.out, HB.out.trans B1.out, by omega, by simp; omega, ?_⟩
          rw [HP.out, HD.out, VM.parse, if_neg H36.out, cat_snoc]
    · go_wp2_with fail
      go_ret2
      have : k = t.size := by omega
      subst this
      have e1 : VM.parse .norm t.data.toList = some l := by
        rw [HP.out, List.drop_eq_nil_of_le (by simp)]
        simp [VM.parse, VM.cat?]
      exact ⟨_, by rw [e1]; rfl, by rw [e1]; exact HO.out, HB.out⟩
end Go.Proofs.YtlggegjjhbknaaaDoor
