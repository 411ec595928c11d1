import Derived.Test.YtklcfmmnibcobaaDoorBas
import Derived.Test.YtklcfmmnibcobaaDoorTxPl
namespace Go.Proofs.YtklcfmmnibcobaaDoor
open Go.RowKit Go.Lib

theorem short_any (s : ByteArray) (w : World) :
    Calls Tryd.prog 16 #[.string s] w fun e w' => e = .returned (.string ⟨(s.data.toList.take 400).toArray⟩) ∧ w' = w := by
  by_cases h : 400 < s.size
  · have e : s.extract 0 400 = ⟨(s.data.toList.take 400).toArray⟩ := by rw [ext_eq]; simp
    go_enter Tryd.func16, Tryd.ntmps16
    go_wp2
    go_ret
    exact ⟨rfl, rfl⟩
  · have e : (⟨(s.data.toList.take 400).toArray⟩ : ByteArray) = s := by
      rw [List.take_of_length_le (by simp; omega)]
    rw [e]
    go_enter Tryd.func16, Tryd.ntmps16
    go_wp2
    go_ret
    exact ⟨rfl, rfl⟩

set_option maxHeartbeats 1000000 in
theorem rplain_any (s : ByteArray) (w : World) (hs : s.size ≤ 100000) :
    Calls Tryd.prog 25 #[.string s] w fun e w' => e = .returned (.bool (SP.plB s.data.toList)) ∧ w' = w := by
  go_enter Tryd.func25, Tryd.ntmps25
  go_wp2_with fail
  go_loopg [3] s.size (fun g iv wr => wr = w ∧ ∃ i : Nat, i ≤ s.size ∧ g = s.size - i ∧ iv = .int .i64 i ∧ SP.plB (s.data.toList.take i) = true)
  case atStart => exact ⟨rfl, 0, by omega, by omega, rfl, rfl⟩
  case round =>
    obtain ⟨rfl, i, hi, rfl, rfl, hall⟩ := hrel
    have HA := Lib.hid hall
    clear hall
    by_cases hlt : i < s.size
    · have hl : i < s.data.toList.length := by simpa using hlt
      have hsn := SP.plB_snoc s.data.toList i hl
      have hno := SP.plB_not s.data.toList i hl
      have hge : s.data.toList[i] = s[i] := rfl
      rw [hge] at hsn hno
      have HS := Lib.hid hsn
      have HN := Lib.hid hno
      clear hsn hno hge
      by_cases h1 : (s[i].toNat : Int) < 32
      · have hp : SP.pl s[i] = false := by unfold SP.pl; rw [decide_eq_false (by omega)]; rfl
        have HP := Lib.hid hp
        clear hp
        go_wp2_with fail
        go_ret
        exact ⟨by rw [HN.out HP.out]; rfl, rfl⟩
      · by_cases h2 : (126 : Int) < s[i].toNat
        · have hp : SP.pl s[i] = false := by unfold SP.pl; rw [decide_eq_false (show ¬ s[i].toNat ≤ 126 by omega), Bool.and_false]
          have HP := Lib.hid hp
          clear hp
          go_wp2_with fail
          go_ret
          exact ⟨by rw [HN.out HP.out]; rfl, rfl⟩
        · have hp : SP.pl s[i] = true := by unfold SP.pl; rw [decide_eq_true (by omega), decide_eq_true (by omega)]; rfl
          have HP := Lib.hid hp
          clear hp
          go_wp2_with fail
          go_roundg (s.size - (i + 1))
          case measure => omega
          case rel => exact ⟨rfl, i + 1, by omega, rfl, by go_num, by rw [HS.out, HA.out, HP.out]; rfl⟩
    · have e : i = s.size := by omega
      subst e
      have ht : (s.data.toList.take s.size) = s.data.toList := List.take_of_length_le (by simp)
      have h := HA.out
      rw [ht] at h
      have HF := Lib.hid h
      clear h ht HA
      go_wp2_with fail
      go_ret
      exact ⟨by rw [HF.out]; rfl, rfl⟩

set_option maxHeartbeats 1000000 in
theorem same_any {w : World} {va vb : Value} {la lb : List Bs} (ha : Rd w 1 va la.length (strV la)) (hb : Rd w 1 vb lb.length (strV lb)) (h1 : la.length ≤ 1000000) (h2 : lb.length ≤ 1000000) :
    Calls Tryd.prog 19 #[va, vb] w fun e w' => e = .returned (.bool (decide (la = lb))) ∧ ∃ n, w' = w.drewN n := by
  have form : ∀ {v : Value} {l : List Bs}, Rd w 1 v l.length (strV l) → ∃ A c, v = .slice A l.length c := by
    intro v l h
    rcases h with ⟨_, ⟨rfl, h0⟩ | ⟨g, o, c, rfl, _⟩⟩
    · rw [h0]; exact ⟨_, _, rfl⟩
    · exact ⟨_, _, rfl⟩
  by_cases hl : la.length = lb.length
  · by_cases h0 : la.length = 0
    · have ea : la = [] := List.length_eq_zero_iff.1 h0
      have eb : lb = [] := List.length_eq_zero_iff.1 (by omega)
      subst ea; subst eb
      obtain ⟨A, c, rfl⟩ := form ha
      obtain ⟨A2, c2, rfl⟩ := form hb
      clear form ha hb
      go_enter Tryd.func19, Tryd.ntmps19
      go_wp2_with fail
      go_loop [5] (fun i => i = .int .i64 0) (fun _ => 0)
      case atStart => rfl
      case round =>
        subst hrel
        go_wp2_with fail
        go_ret
        exact ⟨rfl, 0, rfl⟩
    · rcases ha with ⟨_, ⟨_, h⟩ | ⟨g, o, c, rfl, _, _, hca⟩⟩
      · exact absurd h h0
      rcases hb with ⟨_, ⟨_, h⟩ | ⟨g2, o2, c2, rfl, _, _, hcb⟩⟩
      · omega
      have HA := Lib.hid hca
      have HB := Lib.hid hcb
      rw [← hl]
      have HL := Lib.hid hl
      clear form hca hcb hl
      go_enter Tryd.func19, Tryd.ntmps19
      go_wp2_with fail
      go_loopw [5] (fun i wr => ∃ k N : Nat, k ≤ la.length ∧ i = .int .i64 k ∧ wr = w.drewN N ∧ la.take k = lb.take k) (fun i _ => la.length - (RowKit.intOf i).toNat)
      case atStart => exact ⟨0, 0, by omega, rfl, rfl, rfl⟩
      case round =>
        obtain ⟨k, N, hk, rfl, rfl, heq⟩ := hrel
        have HE := Lib.hid heq
        clear heq
        by_cases hlt : k < la.length
        · have hlt2 : k < lb.length := by have := HL.out; omega
          have ca := HA.out k _ (strV_get la k la[k] (List.getElem?_eq_getElem hlt))
          have cb := HB.out k _ (strV_get lb k lb[k] (List.getElem?_eq_getElem hlt2))
          have hta : la.take (k + 1) = la.take k ++ [la[k]] := List.take_succ_eq_append_getElem hlt
          have htb : lb.take (k + 1) = lb.take k ++ [lb[k]] := List.take_succ_eq_append_getElem hlt2
          have HTA := Lib.hid hta
          have HTB := Lib.hid htb
          clear hta htb
          generalize la[k] = x at ca HTA
          generalize lb[k] = y at cb HTB
          by_cases hxy : x = y
          · subst hxy
            go_wp2_with fail
            go_quiet (fail)
            go_wp2_with fail
            go_roundw
            case rel => exact ⟨k + 1, _, by omega, by go_num, rfl, by rw [HTA.out, HTB.out, HE.out]⟩
            case measure => simp [RowKit.intOf]; omega
          · have hb : (x == y) = false := by simpa using hxy
            have hb2 : (x != y) = true := by simpa using hxy
            clear hxy
            go_wp2_with fail
            go_quiet (fail)
            go_wp2_with fail
            go_ret
            have hne : ¬ la = lb := by
              intro e
              have e1 : la.take (k + 1) = lb.take (k + 1) := by rw [e]
              rw [HTA.out, HTB.out] at e1
              have e2 := (List.append_inj' e1 rfl).2
              simp only [List.cons.injEq, and_true] at e2
              rw [e2] at hb
              simp at hb
            exact ⟨by rw [decide_eq_false hne]; rfl, N + nq, World.drewN_drewN ..⟩
        · go_wp2_with fail
          go_ret
          have e1 : la = lb := by
            have := HE.out
            rwa [List.take_of_length_le (by omega), List.take_of_length_le (by have := HL.out; omega)] at this
          exact ⟨by rw [decide_eq_true e1]; rfl, _, rfl⟩
  · obtain ⟨A, c, rfl⟩ := form ha
    obtain ⟨A2, c2, rfl⟩ := form hb
    clear form ha hb
    have hd : decide (la = lb) = false := decide_eq_false (fun e => hl (by rw [e]))
    rw [hd]
    have hn : ((la.length : Int) != (lb.length : Int)) = true := by simp; omega
    have hn2 : (la.length != lb.length) = true := by simpa using hl
    clear hl hd
    go_enter Tryd.func19, Tryd.ntmps19
    go_wp2_with fail
    go_ret
    exact ⟨rfl, 0, rfl⟩
end Go.Proofs.YtklcfmmnibcobaaDoor
