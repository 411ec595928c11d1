import Derived.Test.YtklcfmmnibcobaaDoorTx6
import Derived.Test.YtklcfmmnibcobaaDoorTx2
namespace Go.Proofs.YtklcfmmnibcobaaDoor
open Go.RowKit Go.Shelf Go.Lib

theorem strV_data (L : List ByteArray) : L.map Value.string = strV (L.map (·.data.toList)) := by
  unfold strV
  rw [List.map_map]
  apply List.map_congr_left
  intro x _
  simp only [Function.comp_apply]

/-- What a slice of strings off the library is: it reads as l, and lies in the new block. -/
def Pieces (l : List Bs) (w : World) (e : Ending) (w' : World) : Prop :=
  ∃ c, e = .returned (.slice (some ⟨w.heap.size, 0, none⟩) l.length c) ∧ (∀ (j : Nat) x, l[j]? = some x → w'.cell? ⟨w.heap.size, j, none⟩ = some (.string ⟨x.toArray⟩)) ∧ Below w.heap.size w w' ∧ w.heap.size < w'.heap.size

theorem cells_at (w : World) (cs : Array Value) (e j : Nat) : (w.alloc (.cells cs e)).cell? ⟨w.heap.size, j, none⟩ = cs[j]? := cell_of_row _ w.heap.size j cs e (0, 0) (heap_alloc_new _ _)

theorem split_any (s : ByteArray) (c : UInt8) (w : World) (hM : ML w) (hs : s.size ≤ 100000) :
    Calls Tryd.prog 76 #[.string s, .string ⟨#[c]⟩] w (Pieces (Lib.split s.data.toList [c]) w) := by
  obtain ⟨m, hm⟩ := hM
  refine (Tryd.strings_Split s ⟨#[c]⟩ m w (by omega) hm (Nat.le_refl 1)).mono ?_
  rintro e w' ⟨rfl, rfl⟩
  have hd := splitB_data ⟨#[c]⟩ 0 (Lib.countB s ⟨#[c]⟩) s
  have hl := splitB_all ⟨#[c]⟩ (Nat.le_refl 1) 0 _ s rfl
  have e1 : Lib.split s.data.toList [c] = (splitB ⟨#[c]⟩ 0 (Lib.countB s ⟨#[c]⟩) s).map (·.data.toList) := hd.symm
  have e2 : (Lib.split s.data.toList [c]).length = Lib.countB s ⟨#[c]⟩ + 1 := by rw [e1, List.length_map, hl]
  refine ⟨_, by rw [e2], fun j x hx => ?_, (Below.refl _ _).alloc (Nat.le_refl _) _, by simp⟩
  rw [cells_at, strV_data, ← e1, List.getElem?_toArray]
  exact strV_get _ j x hx

theorem splitn_any (s : ByteArray) (c : UInt8) (n : Nat) (w : World) (hM : ML w) (hs : s.size ≤ 100000) (hn : 1 ≤ n) (hn2 : n ≤ 100) :
    Calls Tryd.prog 98 #[.string s, .string ⟨#[c]⟩, .int .i64 n] w (Pieces (Lib.splitN s.data.toList [c] n) w) := by
  obtain ⟨m, hm⟩ := hM
  refine (Tryd.strings_SplitN s ⟨#[c]⟩ n m w (by omega) hm (Nat.le_refl 1) hn (by omega)).mono ?_
  rintro e w' ⟨rfl, rfl⟩
  have hd := splitB_data ⟨#[c]⟩ 0 (min n (s.size + 1) - 1) s
  have hsz : s.data.toList.length = s.size := by simp
  have e1 : Lib.splitN s.data.toList [c] n = (splitB ⟨#[c]⟩ 0 (min n (s.size + 1) - 1) s).map (·.data.toList) := by
    unfold Lib.splitN; rw [hsz]; exact hd.symm
  have e2 : (Lib.splitN s.data.toList [c] n).length = (splitB ⟨#[c]⟩ 0 (min n (s.size + 1) - 1) s).length := by rw [e1, List.length_map]
  refine ⟨_, by rw [e2], fun j x hx => ?_, (Below.refl _ _).alloc (Nat.le_refl _) _, by simp⟩
  have hj : j < (Lib.splitN s.data.toList [c] n).length := (List.getElem?_eq_some_iff.1 hx).1
  rw [cells_at]
  unfold Lib.cellsOf
  rw [List.getElem?_toArray, List.getElem?_append_left (by rw [List.length_map, ← e2]; exact hj), strV_data, ← e1]
  exact strV_get _ j x hx

def kept (l : List Bs) : List Bs := l.filter fun w => w ≠ []
theorem kept_take (l : List Bs) (i : Nat) (hi : i < l.length) : kept (l.take (i + 1)) = if l[i] = [] then kept (l.take i) else kept (l.take i) ++ [l[i]] := by
  unfold kept
  rw [List.take_succ_eq_append_getElem hi, List.filter_append]
  by_cases h : l[i] = [] <;> simp [h]
theorem kept_len (l : List Bs) : (kept l).length ≤ l.length := List.length_filter_le ..

theorem split_len (s : Bs) (c : UInt8) : (Lib.split s [c]).length ≤ s.length + 1 := by
  have hd := splitB_data ⟨#[c]⟩ 0 (Lib.countB ⟨s.toArray⟩ ⟨#[c]⟩) ⟨s.toArray⟩
  have hl := splitB_all ⟨#[c]⟩ (Nat.le_refl 1) 0 _ ⟨s.toArray⟩ rfl
  have e1 : Lib.split s [c] = (splitB ⟨#[c]⟩ 0 (Lib.countB ⟨s.toArray⟩ ⟨#[c]⟩) ⟨s.toArray⟩).map (·.data.toList) := hd.symm
  rw [e1, List.length_map, hl]
  have := countB_le ⟨#[c]⟩ (Nat.le_refl 1) _ ⟨s.toArray⟩ (Nat.le_refl _)
  rw [size_mk] at this
  omega

set_option maxRecDepth 100000 in
set_option maxHeartbeats 2000000 in
theorem words_any (s : ByteArray) (w : World) (hM : ML w) (hs : s.size ≤ 20000) :
    Calls Tryd.prog 20 #[.string s] w (WordsEnd s.data.toList w) := by
  have hM1 := fun w' => hM.below (w' := w') (B := w.heap.size)
  have hpos := hM.pos
  obtain ⟨m, hm⟩ := hM
  have hr := Tryd.strings_ReplaceAll s ⟨#[9]⟩ ⟨#[32]⟩ m w (by omega) hm (by decide) (by
    have := countB_le ⟨#[9]⟩ (by decide) s.size s (Nat.le_refl _)
    have e : (⟨#[32]⟩ : ByteArray).size = 1 := rfl
    rw [e]; omega)
  have hrl : (Lib.replaceAll s.data.toList [9] [32]).length = s.size := by rw [SP.replaceAll_tabs]; simp [SP.tabs]
  have hw := SP.words_split s.data.toList
  change Calls _ _ _ _ (fun e w' => e = .returned (.string ⟨(Lib.replaceAll s.data.toList [9] [32]).toArray⟩) ∧ _) at hr
  generalize Lib.replaceAll s.data.toList [9] [32] = r at hr hrl hw
  have HR := Lib.hid hr
  have HW := Lib.hid hw
  have HM1 := Lib.hid hM1
  have HRL := Lib.hid hrl
  clear hr hw hM1 hm hrl
  go_enter Tryd.func20, Tryd.ntmps20
  go_wp2_with fail
  refine HR.out.mono ?_
  rintro e w1 ⟨rfl, hb1⟩
  have HB1 := Lib.hid hb1
  have hM2 := HM1.out w1 hb1 hpos
  clear hb1
  have hsp := split_any ⟨r.toArray⟩ 32 w1 hM2 (by rw [size_mk, HRL.out]; omega)
  have hln := split_len r 32
  rw [HRL.out] at hln
  change Calls _ _ _ _ (Pieces (Lib.split r [32]) w1) at hsp
  generalize Lib.split r [32] = l at hsp hln HW
  have HSP := Lib.hid hsp
  clear hsp hM2
  go_wp2_with fail
  refine HSP.out.mono ?_
  rintro e w2 ⟨cp, rfl, hc2, hb2, hz2⟩
  have HC2 := Lib.hid hc2
  have HB2 := Lib.hid (chain HB1.out hb2)
  have hz0 : w.heap.size ≤ w1.heap.size := HB1.out.size
  clear hc2 hb2 hpos
  go_wp2_with fail
  go_loopg [3, 10] l.length (fun g ov iv wr => ∃ i : Nat, i ≤ l.length ∧ g = l.length - i ∧ iv = .int .i64 i ∧ OwnS w2.heap.size wr ov (kept (l.take i)) ∧ Below w2.heap.size w2 wr ∧ w2.heap.size ≤ wr.heap.size)
  case atStart => exact ⟨0, by omega, by omega, rfl, World.ownsRow_nil _ _ _ _, Below.refl _ _, Nat.le_refl _⟩
  case round =>
    obtain ⟨i, hi, rfl, rfl, ho, hb, hz⟩ := hrel
    have HO := Lib.hid ho
    have HB := Lib.hid hb
    clear ho hb
    by_cases hlt : i < l.length
    · have hc := HC2.out i l[i] (List.getElem?_eq_getElem hlt)
      rw [← HB.out.cell (p := ⟨w1.heap.size, i, none⟩) hz2] at hc
      have hkt := kept_take l i hlt
      have hkl : (kept (l.take i)).length ≤ i := by
        have := kept_len (l.take i)
        rw [List.length_take] at this; omega
      have HKT := Lib.hid hkt
      clear hkt
      generalize l[i] = x at hc HKT
      by_cases hx : x = []
      · have hk := HKT.out
        rw [if_pos hx] at hk
        have HK := Lib.hid hk
        subst hx
        clear hk HKT
        go_wp2_with fail
        go_roundg (l.length - (i + 1))
        case measure => omega
        case rel => exact ⟨i + 1, by omega, rfl, by go_num, by rw [HK.out]; exact HO.out, HB.out, hz⟩
      · have hk := HKT.out
        rw [if_neg hx] at hk
        have HK := Lib.hid hk
        have hxe : x.isEmpty = false := by simpa using hx
        clear hk HKT hx
        go_wp2_with (at_builtin; refine wpList_append_lit rfl _ _ 28 9 1 16 (.string ⟨#[]⟩) rfl Tryd.underlying28 info9 rfl (by decide) (by decide) w2.heap.size _ _ _ wr _ rfl rfl (one_lit _ rfl) HO.out rfl rfl (by omega) hz ?_; intro v1 w3 o1 b1 z1; have O1 := Lib.hid o1; have B1 := Lib.hid b1; clear o1 b1)
        go_roundg (l.length - (i + 1))
        case measure => omega
        case rel => exact ⟨i + 1, by omega, rfl, by go_num, by rw [HK.out]; exact OwnS.snoc O1.out, HB.out.trans B1.out, by omega⟩
    · have e : i = l.length := by omega
      subst e
      go_wp2_with fail
      go_ret
      have h := HO.out
      rw [List.take_length] at h
      have hk : kept l = SP.wordsF [] s.data.toList := HW.out
      rw [hk] at h
      exact ⟨_, rfl, own_mono h (Nat.le_trans hz0 (by omega)), HB2.out.trans (HB.out.mono (Nat.le_trans hz0 (by omega)))⟩
end Go.Proofs.YtklcfmmnibcobaaDoor
