import Derived.Test.YtklcfmmnibcobaaDoorTx1
import Derived.Test.YtklcfmmnibcobaaDoorRup
import Derived.Lib.IndexLaws
import Derived.Lib.IndexMore
namespace Go.Proofs.YtklcfmmnibcobaaDoor
open Go.RowKit Go.Lib

theorem wrap_dig (c : UInt8) (h1 : 48 ≤ c.toNat) (h2 : c.toNat ≤ 57) : IntKind.u8.wrap ((c.toNat : Int) - 48) = ((SP.dv c : Nat) : Int) := by
  have h : ∀ n : Fin 256, 48 ≤ n.val → n.val ≤ 57 → IntKind.u8.wrap ((n.val : Int) - 48) = ((n.val - 48 : Nat) : Int) := by decide +kernel
  exact h ⟨c.toNat, c.toNat_lt⟩ h1 h2

/-- A number's two results. -/
def numV (s : Bs) (most : Int) : Array Value := #[.int .i64 ((SP.number s most).getD 0 : Nat), .bool (SP.number s most).isSome]
theorem numV_none {s : Bs} {most : Int} (h : SP.number s most = none) : numV s most = #[.int .i64 0, .bool false] := by unfold numV; rw [h]; rfl
theorem numV_some {s : Bs} {most : Int} {n : Nat} (h : SP.number s most = some n) : numV s most = #[.int .i64 n, .bool true] := by unfold numV; rw [h]; rfl

set_option maxHeartbeats 2000000 in
theorem rnumber_any (s : ByteArray) (most : Int) (w : World) (hs : s.size ≤ 100000) :
    Calls Tryd.prog 18 #[.string s, .int .i64 most] w fun e w' => e = .returned (.tuple (numV s.data.toList most)) ∧ w' = w := by
  have hl : s.data.toList.length = s.size := by simp
  by_cases h1 : s.size < 1
  · have hn : SP.number s.data.toList most = none := by
      have : s.data.toList = [] := List.length_eq_zero_iff.1 (by omega)
      rw [this]; simp [SP.number]
    rw [numV_none hn]
    clear hn hl
    go_enter Tryd.func18, Tryd.ntmps18
    go_wp2_with fail
    go_ret2
    exact ⟨rfl, rfl⟩
  · by_cases h9 : 9 < s.size
    · have hn : SP.number s.data.toList most = none := SP.number_long (by omega)
      rw [numV_none hn]
      clear hn hl
      go_enter Tryd.func18, Tryd.ntmps18
      go_wp2_with fail
      go_ret2
      exact ⟨rfl, rfl⟩
    · have HL := Lib.hid hl
      clear hl
      go_enter Tryd.func18, Tryd.ntmps18
      go_wp2_with fail
      go_loopg [6, 7] s.size (fun g nv iv wr => wr = w ∧ ∃ i : Nat, i ≤ s.size ∧ g = s.size - i ∧ iv = .int .i64 i ∧ nv = .int .i64 (SP.valF 0 (s.data.toList.take i) : Nat) ∧ SP.dgB (s.data.toList.take i) = true)
      case atStart => exact ⟨rfl, 0, by omega, by omega, rfl, rfl, rfl⟩
      case round =>
        obtain ⟨rfl, i, hi, rfl, rfl, rfl, hall⟩ := hrel
        have HA := Lib.hid hall
        clear hall
        have hvl : SP.valF 0 (s.data.toList.take i) < 1000000000 := by
          have h := SP.valF_lt (s.data.toList.take i) 0 HA.out
          have h6 : 10 ^ (s.data.toList.take i).length ≤ 10 ^ 9 := Nat.pow_le_pow_right (by decide) (by rw [List.length_take, HL.out]; omega)
          omega
        by_cases hlt : i < s.size
        · have hl : i < s.data.toList.length := by simpa using hlt
          have hsn := SP.dgB_snoc s.data.toList i hl
          have hno := SP.dgB_not s.data.toList i hl
          have hvs := SP.valF_snoc s.data.toList i hl
          have hge : s.data.toList[i] = s[i] := rfl
          rw [hge] at hsn hno hvs
          have HS := Lib.hid hsn
          have HN := Lib.hid hno
          have HV := Lib.hid hvs
          clear hsn hno hge hvs
          generalize SP.valF 0 (s.data.toList.take i) = v at hvl HV ⊢
          by_cases h1' : (s[i].toNat : Int) < 48
          · have hn : SP.number s.data.toList most = none := SP.number_bad (HN.out (SP.isD_no (by omega)))
            have HQ := Lib.hid (numV_none hn)
            clear hn
            go_wp2_with fail
            go_ret2
            exact ⟨by rw [HQ.out]; rfl, rfl⟩
          · by_cases h2 : (57 : Int) < s[i].toNat
            · have hn : SP.number s.data.toList most = none := SP.number_bad (HN.out (SP.isD_no (by omega)))
              have HQ := Lib.hid (numV_none hn)
              clear hn
              go_wp2_with fail
              go_ret2
              exact ⟨by rw [HQ.out]; rfl, rfl⟩
            · have hw := wrap_dig s[i] (by omega) (by omega)
              have hd : SP.isD s[i] = true := (SP.isD_iff _).2 ⟨by omega, by omega⟩
              have hdv : SP.dv s[i] ≤ 9 := by unfold SP.dv; omega
              have HD := Lib.hid hd
              generalize SP.dv s[i] = d at hw HV hdv
              have hz : (0 : Int) ≤ d := by omega
              clear hd
              go_wp2_with fail
              go_roundg (s.size - (i + 1))
              case measure => omega
              case rel => exact ⟨rfl, i + 1, by omega, rfl, by go_num, by rw [HV.out]; go_num, by rw [HS.out, HA.out, HD.out]; rfl⟩
        · have e : i = s.size := by omega
          subst e
          have ht : (s.data.toList.take s.size) = s.data.toList := List.take_of_length_le (by simp)
          have h := HA.out
          rw [ht] at h hvl ⊢
          clear ht HA
          by_cases hm : most < (SP.valF 0 s.data.toList : Int)
          · have hn : SP.number s.data.toList most = none := SP.number_big (by omega)
            have HQ := Lib.hid (numV_none hn)
            have H := Lib.hid h
            generalize SP.valF 0 s.data.toList = v at hvl hm HQ ⊢
            clear hn h
            go_wp2_with fail
            go_ret2
            exact ⟨by rw [HQ.out]; rfl, rfl⟩
          · have hn : SP.number s.data.toList most = some (SP.valF 0 s.data.toList) := SP.number_ok h (by intro e; have := HL.out; rw [e] at this; simp at this; omega) (by rw [HL.out]; omega) (by omega)
            have HQ := Lib.hid (numV_some hn)
            have H := Lib.hid h
            generalize SP.valF 0 s.data.toList = v at hvl hm HQ ⊢
            clear hn h
            go_wp2_with fail
            go_ret2
            exact ⟨by rw [HQ.out]; rfl, rfl⟩

theorem occ_take (s p : Bs) (i : Nat) : occAt s p i = decide ((s.drop i).take p.length = p) := by
  unfold occAt
  rw [Bool.eq_iff_iff, List.isPrefixOf_iff_prefix, decide_eq_true_iff, List.prefix_iff_eq_take]
  exact eq_comm

def hasB (s p : Bs) : Bool := Lib.contains (s.map up) (p.map up)
theorem map_size (s : ByteArray) : (⟨(s.data.toList.map up).toArray⟩ : ByteArray).size = s.size := (List.length_map up).trans (Array.length_toList (xs := s.data))

set_option maxHeartbeats 2000000 in
theorem rhas_any (s p : ByteArray) (w : World) (hs : s.size ≤ 100000) (hp : p.size ≤ 100000) :
    Calls Tryd.prog 29 #[.string s, .string p] w fun e w' => e = .returned (.bool (hasB s.data.toList p.data.toList)) ∧ Below w.heap.size w w' := by
  unfold hasB
  have h1 := fun w => rupper_any s w hs
  have h2 := fun w => rupper_any p w hp
  have hz1 : (⟨(s.data.toList.map up).toArray⟩ : ByteArray).size ≤ 100000 := by rw [map_size]; exact hs
  have hz2 : (⟨(p.data.toList.map up).toArray⟩ : ByteArray).size ≤ 100000 := by rw [map_size]; exact hp
  have hd1 : (⟨(s.data.toList.map up).toArray⟩ : ByteArray).data.toList = s.data.toList.map up := by simp
  have hd2 : (⟨(p.data.toList.map up).toArray⟩ : ByteArray).data.toList = p.data.toList.map up := by simp
  rw [← hd1, ← hd2]
  generalize (⟨(s.data.toList.map up).toArray⟩ : ByteArray) = S at h1 hz1 ⊢
  generalize (⟨(p.data.toList.map up).toArray⟩ : ByteArray) = T at h2 hz2 ⊢
  clear hd1 hd2 hs hp
  have H1 := Lib.hid h1
  have H2 := Lib.hid h2
  clear h1 h2
  go_enter Tryd.func29, Tryd.ntmps29
  go_wp2_with fail
  refine (H1.out w).mono ?_
  rintro e w1 ⟨rfl, hb1⟩
  have HB1 := Lib.hid hb1
  clear hb1
  go_wp2_with fail
  refine (H2.out w1).mono ?_
  rintro e w2 ⟨rfl, hb2⟩
  have HB2 := Lib.hid (chain HB1.out hb2)
  clear hb2
  go_wp2_with fail
  go_loopg [5] (S.size + 1) (fun g iv wr => wr = w2 ∧ ∃ i : Nat, i ≤ S.size + 1 ∧ g = S.size + 1 - i ∧ iv = .int .i64 i ∧ NoOcc S.data.toList T.data.toList i)
  case atStart => exact ⟨rfl, 0, by omega, by omega, rfl, NoOcc.zero _ _⟩
  case round =>
    obtain ⟨rfl, i, hi, rfl, rfl, hno⟩ := hrel
    have HN := Lib.hid hno
    clear hno
    by_cases hlt : i + T.size ≤ S.size
    · have ho := occ_take S.data.toList T.data.toList i
      have hx : S.extract i (i + T.size) = ⟨((S.data.toList.drop i).take (i + T.size - i)).toArray⟩ := ext_eq ..
      have hts : T.data.toList.length = T.size := by simp
      rw [show i + T.size - i = T.data.toList.length by omega] at hx
      have HO := Lib.hid ho
      have HX := Lib.hid hx
      clear ho hx hts
      by_cases heq : (S.data.toList.drop i).take T.data.toList.length = T.data.toList
      · have hq : ((S.extract i (i + T.size)).toList == T.toList) = true := by
          rw [Lib.toList_data, Lib.toList_data, beq_iff_eq, HX.out]; simpa using heq
        have hc : Lib.contains S.data.toList T.data.toList = true := by
          unfold Lib.contains
          rw [index_hit HN.out (by simp; omega) (by rw [HO.out, heq]; simp)]
          simp
        have HC := Lib.hid hc
        clear hc heq
        go_wp2_with fail
        go_ret
        exact ⟨by rw [HC.out]; rfl, HB2.out⟩
      · have hq : ((S.extract i (i + T.size)).toList == T.toList) = false := by
          rw [Lib.toList_data, Lib.toList_data, beq_eq_false_iff_ne, HX.out]
          intro e
          apply heq
          simpa using e
        have HOO := Lib.hid (show occAt S.data.toList T.data.toList i = false by rw [HO.out]; simpa using heq)
        clear heq
        go_wp2_with fail
        go_roundg (S.size + 1 - (i + 1))
        case measure => omega
        case rel => exact ⟨rfl, i + 1, by omega, rfl, by go_num, HN.out.succ HOO.out⟩
    · have hc : Lib.contains S.data.toList T.data.toList = false := by
        unfold Lib.contains
        by_cases h0 : T.data.toList = []
        · exfalso
          have : T.size = 0 := by have := congrArg List.length h0; simpa using this
          by_cases hi2 : i ≤ S.size
          · omega
          · have := HN.out 0 (by omega)
            rw [h0] at this
            simp [occAt] at this
        · rw [index_past h0 HN.out (by simp; omega)]
          rfl
      have HC := Lib.hid hc
      clear hc
      go_wp2_with fail
      go_ret
      exact ⟨by rw [HC.out]; rfl, HB2.out⟩
end Go.Proofs.YtklcfmmnibcobaaDoor
