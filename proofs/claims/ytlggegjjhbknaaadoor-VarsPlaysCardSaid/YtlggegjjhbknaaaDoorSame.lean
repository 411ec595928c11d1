import Derived.Test.YtlggegjjhbknaaaDoorVl0
import Derived.Deep.QuietTactic
import Derived.BigQuiet
namespace Go.Proofs.YtlggegjjhbknaaaDoor
open Go.RowKit Go.Shelf Go.Lib Go.Maps Go.WideMaps

/-- A slice that reads as the texts l: nil, or a row's head. -/
def RS (w : World) (v : Value) (l : List Bs) : Prop :=
  (v = .slice none 0 0 ∧ l = []) ∨ ∃ g c, v = .slice (some ⟨g, 0, none⟩) l.length c ∧ ∀ j x, l[j]? = some x → w.cell? ⟨g, j, none⟩ = some (.string ⟨x.toArray⟩)

theorem OwnS.reads {B : Nat} {w : World} {v : Value} {l : List Bs} (h : OwnS B w v l) : RS w v l := by
  have h0 := h
  rcases h.2 with ⟨rfl, hn⟩ | ⟨g, cap, cur, rfl, _⟩
  · exact .inl ⟨rfl, List.length_eq_zero_iff.1 hn⟩
  · refine .inr ⟨g, cap, rfl, fun j x hx => ?_⟩
    have hl : j < l.length := (List.getElem?_eq_some_iff.1 hx).1
    rw [h0.cellAt j (by omega)]
    simp [strV, hx]

theorem RS.below {w w' : World} {v : Value} {l : List Bs} (h : RS w v l) (hk : ∀ g c n, v = .slice (some ⟨g, 0, none⟩) n c → w'.heap[g]? = w.heap[g]?) : RS w' v l := by
  rcases h with h | ⟨g, c, rfl, hc⟩
  · exact .inl h
  · refine .inr ⟨g, c, rfl, fun j x hx => ?_⟩
    rw [← hc j x hx]
    simp [World.cell?, hk g c _ rfl]

set_option maxHeartbeats 1000000 in
theorem same_any {w : World} {va vb : Value} {la lb : List Bs} (ha : RS w va la) (hb : RS w vb lb) (h1 : la.length ≤ 1000000) (h2 : lb.length ≤ 1000000) :
    Calls Tryd.prog 17 #[va, vb] w fun e w' => e = .returned (.bool (decide (la = lb))) ∧ ∃ n, w' = w.drewN n := by
  have form : ∀ {v : Value} {l : List Bs}, RS w v l → ∃ A c, v = .slice A l.length c := by
    intro v l h
    rcases h with ⟨rfl, rfl⟩ | ⟨g, c, rfl, _⟩
    · exact ⟨_, _, rfl⟩
    · exact ⟨_, _, rfl⟩
  by_cases hl : la.length = lb.length
  · by_cases h0 : la.length = 0
    · have ea : la = [] := List.length_eq_zero_iff.1 h0
      have eb : lb = [] := List.length_eq_zero_iff.1 (by omega)
      subst ea; subst eb
      obtain ⟨A, c, rfl⟩ := form ha
      obtain ⟨A2, c2, rfl⟩ := form hb
      clear form ha hb
      go_enter Tryd.func17, Tryd.ntmps17
      go_wp2_with fail
      go_loop [5] (fun i => i = .int .i64 0) (fun _ => 0)
      case atStart => rfl
      case round =>
        subst hrel
        go_wp2_with fail
        go_ret
        exact ⟨rfl, 0, rfl⟩
    · rcases ha with ⟨_, rfl⟩ | ⟨g, c, rfl, hca⟩
      · simp at h0
      rcases hb with ⟨_, rfl⟩ | ⟨g2, c2, rfl, hcb⟩
      · simp at hl; simp [hl] at h0
      have HA := Lib.hid hca
      have HB := Lib.hid hcb
      rw [← hl]
      have HL := Lib.hid hl
      clear form hca hcb hl
      go_enter Tryd.func17, Tryd.ntmps17
      go_wp2_with fail
      go_loopw [5] (fun i wr => ∃ k N : Nat, k ≤ la.length ∧ i = .int .i64 k ∧ wr = w.drewN N ∧ la.take k = lb.take k) (fun i _ => la.length - (RowKit.intOf i).toNat)
      case atStart => exact ⟨0, 0, by omega, rfl, rfl, rfl⟩
      case round =>
        obtain ⟨k, N, hk, rfl, rfl, heq⟩ := hrel
        have HE := Lib.hid heq
        clear heq
        by_cases hlt : k < la.length
        · have hlt2 : k < lb.length := by have := HL.out; omega
          have ca := HA.out k la[k] (List.getElem?_eq_getElem hlt)
          have cb := HB.out k lb[k] (List.getElem?_eq_getElem hlt2)
          have hta : la.take (k + 1) = la.take k ++ [la[k]] := List.take_succ_eq_append_getElem hlt
          have htb : lb.take (k + 1) = lb.take k ++ [lb[k]] := List.take_succ_eq_append_getElem hlt2
          have HTA := Lib.hid hta
          have HTB := Lib.hid htb
          clear hta htb
          generalize la[k] = x at ca HTA
          generalize lb[k] = y at cb HTB
          by_cases hxy : x = y
          · subst hxy
            go_wp2_with fail
            go_quiet (fail)
            go_wp2_with fail
            go_roundw
            case rel => exact ⟨k + 1, _, by omega, by go_num, rfl, by rw [HTA.out, HTB.out, HE.out]⟩
            case measure => simp [RowKit.intOf]; omega
          · have hb : (x == y) = false := by simpa using hxy
            have hb2 : (x != y) = true := by simpa using hxy
            clear hxy
            go_wp2_with fail
            go_quiet (fail)
            go_wp2_with fail
            go_ret
            have hne : ¬ la = lb := by
              intro e
              have e1 : la.take (k + 1) = lb.take (k + 1) := by rw [e]
              rw [HTA.out, HTB.out] at e1
              have e2 := (List.append_inj' e1 rfl).2
              simp only [List.cons.injEq, and_true] at e2
              rw [e2] at hb
              simp at hb
            exact ⟨by rw [decide_eq_false hne]; rfl, N + nq, World.drewN_drewN ..⟩
        · go_wp2_with fail
          go_ret
          have e1 : la = lb := by
            have := HE.out
            rwa [List.take_of_length_le (by omega), List.take_of_length_le (by have := HL.out; omega)] at this
          exact ⟨by rw [decide_eq_true e1]; rfl, _, rfl⟩
  · obtain ⟨A, c, rfl⟩ := form ha
    obtain ⟨A2, c2, rfl⟩ := form hb
    clear form ha hb
    have hd : decide (la = lb) = false := decide_eq_false (fun e => hl (by rw [e]))
    rw [hd]
    have hn : ((la.length : Int) != (lb.length : Int)) = true := by simp; omega
    have hn2 : (la.length != lb.length) = true := by simpa using hl
    clear hl hd
    go_enter Tryd.func17, Tryd.ntmps17
    go_wp2_with fail
    go_ret
    exact ⟨rfl, 0, rfl⟩
end Go.Proofs.YtlggegjjhbknaaaDoor
