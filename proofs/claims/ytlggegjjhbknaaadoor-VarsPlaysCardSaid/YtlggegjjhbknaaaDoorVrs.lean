import Derived.Test.YtlggegjjhbknaaaDoorVra
namespace Go.Proofs.YtlggegjjhbknaaaDoor
open Go.RowKit Go.Shelf Go.Lib Go.Maps Go.WideMaps

theorem OwnS.ge {B : Nat} {w : World} {v : Value} {l : List Bs} (h : OwnS B w v l) : ∀ g, v.ownBlock = some g → B ≤ g := by
  intro g e
  rcases h.2 with ⟨rfl, _⟩ | ⟨g', cap, cur, rfl, hg, _⟩
  · simp [Value.ownBlock] at e
  · simp [Value.ownBlock] at e; omega

theorem OwnS.form1 {B : Nat} {w : World} {v : Value} {l : List Bs} {x : Bs} (h : OwnS B w v (([] ++ l) ++ [x])) : ∃ A c, v = .slice A (l.length + 1) c := by
  obtain ⟨A, c, e⟩ := h.form
  exact ⟨A, c, by rw [e]; simp⟩

theorem RS.set {W : World} {q j : Nat} {v u nv vv : Value} {l : List Bs} (hv : RS W v l) (hq : W.heap[q]? = some (.cells #[nv, vv] 42 (0, 0))) (hn : ∀ s, nv ≠ .string s) : RS (W.setCell ⟨q, j, none⟩ u) v l := by
  refine hv.move fun g _ hx k => ?_
  obtain ⟨x, hx⟩ := hx
  have hne : g ≠ q := by
    rintro rfl
    rw [cell_of_row W g 0 #[nv, vv] 42 (0, 0) hq] at hx
    simp at hx
    exact hn x hx
  exact World.cell?_setCell_other _ _ _ _ (fun e => hne (congrArg Addr.block e).symm)

theorem ref_store {w W : World} {q j B : Nat} {nv vv u : Value} {l1 : List Bs} (hq : w.heap[q]? = some (.cells #[nv, vv] 42 (0, 0))) (hn : ∀ s, nv ≠ .string s) (hB : w.heap.size ≤ B) (hb : Below B w W) (hu : OwnS B W u l1) :
    (W.setCell ⟨q, j, none⟩ u).heap[q]? = some (.cells (#[nv, vv].setIfInBounds j u) 42 (0, 0)) ∧ RS (W.setCell ⟨q, j, none⟩ u) u l1 ∧ (∀ v l, RS w v l → RS (W.setCell ⟨q, j, none⟩ u) v l) ∧ w.grownBy (W.setCell ⟨q, j, none⟩ u) (some q) := by
  have hql := lt_of_block hq
  have hqW : W.heap[q]? = some (.cells #[nv, vv] 42 (0, 0)) := (hb.block q (by omega)).trans hq
  refine ⟨heap_setCell_same W q j _ 42 u hqW, hu.reads.set hqW hn, fun v l h => (h.under (hb.mono hB)).set hqW hn, ?_⟩
  have hs : Below 0 w (W.setCell ⟨q, j, none⟩ u) := (hb.mono (Nat.zero_le _)).setCell (Nat.zero_le _) u
  exact ⟨hs.os, hs.tape, hs.output, hs.size, fun k hk hne => (heap_setCell_other W ⟨q, j, none⟩ k u (fun e => hne (by rw [e]))).trans (hb.block k (by omega))⟩

theorem ref_cells {w : World} {q : Nat} {nv vv : Value} (hq : w.heap[q]? = some (.cells #[nv, vv] 42 (0, 0))) :
    w.cell? ⟨q, 0, none⟩ = some nv ∧ w.cell? ⟨q, 1, none⟩ = some vv ∧ w.frozen? ⟨q, 0, none⟩ = false ∧ w.frozen? ⟨q, 1, none⟩ = false := by
  refine ⟨?_, ?_, frozen_of_row w q 0 _ 42 hq, frozen_of_row w q 1 _ 42 hq⟩
  · rw [cell_of_row w q 0 #[nv, vv] 42 (0, 0) hq]; rfl
  · rw [cell_of_row w q 1 #[nv, vv] 42 (0, 0) hq]; rfl

theorem RS.grownQ {w w' : World} {q : Nat} {v nv vv : Value} {l : List Bs} (h : RS w v l) (hq : w.heap[q]? = some (.cells #[nv, vv] 42 (0, 0))) (hn : ∀ s, nv ≠ .string s) (hg : w.grownBy w' (some q)) : RS w' v l := by
  refine h.move fun g hgl hx k => World.cell?_of_block (hg.block g hgl fun e => ?_)
  obtain ⟨x, hx⟩ := hx
  have e := Option.some.inj e
  subst e
  rw [cell_of_row w g 0 #[nv, vv] 42 (0, 0) hq] at hx
  simp at hx
  exact hn x hx

theorem ks_set {kv : KVs} {k v : Bs} {i : Nat} (h : atN kv k = some i) : ks (kv.set i (k, v)) = ks kv := by
  unfold atN at h
  rw [List.findIdx?_eq_some_iff_getElem] at h
  obtain ⟨hi, h1, _⟩ := h
  unfold ks
  rw [List.map_set]
  apply List.ext_getElem (by simp)
  intro j h2 h3
  rw [List.getElem_set]
  split
  · rename_i e; subst e; simpa using (of_decide_eq_true h1).symm
  · rfl
theorem vs_set (kv : KVs) (k v : Bs) (i : Nat) : vs (kv.set i (k, v)) = (vs kv).set i v := by
  unfold vs; rw [List.map_set]
theorem strV_set (l : List Bs) (i : Nat) (v : Bs) : (strV l).set i (.string ⟨v.toArray⟩) = strV (l.set i v) := by
  unfold strV; rw [List.map_set]

theorem old_step {w W1 : World} {q i n : Nat} {nv vv u1 : Value} {l : List Bs} (v : Bs) (hq : w.heap[q]? = some (.cells #[nv, vv] 42 (0, 0))) (hn : ∀ s, nv ≠ .string s) (b1 : Below w.heap.size w W1) (o1 : OwnS w.heap.size W1 u1 ([] ++ l)) (hl : l.length = n) (hi : i < n) :
    ∃ g cap x, u1 = .slice (some ⟨g, 0, none⟩) n cap ∧ (W1.frozen? ⟨q, 1, none⟩ = false ∧ W1.cell? ⟨q, 1, none⟩ = some vv) ∧ (W1.setCell ⟨q, 1, none⟩ (.slice (some ⟨g, 0, none⟩) n cap)).cell? ⟨q, 1, none⟩ = some (.slice (some ⟨g, 0, none⟩) n cap) ∧
      (W1.setCell ⟨q, 1, none⟩ (.slice (some ⟨g, 0, none⟩) n cap)).cell? ⟨g, i, none⟩ = some (.string ⟨x⟩) ∧ (W1.setCell ⟨q, 1, none⟩ (.slice (some ⟨g, 0, none⟩) n cap)).frozen? ⟨g, i, none⟩ = false ∧
      ((W1.setCell ⟨q, 1, none⟩ (.slice (some ⟨g, 0, none⟩) n cap)).setCell ⟨g, i, none⟩ (.string ⟨v.toArray⟩)).heap[q]? = some (.cells #[nv, .slice (some ⟨g, 0, none⟩) n cap] 42 (0, 0)) ∧
      w.grownBy ((W1.setCell ⟨q, 1, none⟩ (.slice (some ⟨g, 0, none⟩) n cap)).setCell ⟨g, i, none⟩ (.string ⟨v.toArray⟩)) (some q) ∧
      RS ((W1.setCell ⟨q, 1, none⟩ (.slice (some ⟨g, 0, none⟩) n cap)).setCell ⟨g, i, none⟩ (.string ⟨v.toArray⟩)) (.slice (some ⟨g, 0, none⟩) n cap) (l.set i v) := by
  subst hl
  have hql := lt_of_block hq
  have hW := (b1.block q hql).trans hq
  obtain ⟨_, d1, _, f1⟩ := ref_cells hW
  rw [List.nil_append] at o1
  rcases o1.2 with ⟨_, h0⟩ | ⟨g, cap, cur, rfl, hgB, _⟩
  · exfalso; omega
  · have hgq : g ≠ q := by omega
    obtain ⟨s1, s2, s3, s4⟩ := ref_store (j := 1) hq hn (Nat.le_refl _) b1 o1
    obtain ⟨_, cq, _, _⟩ := ref_cells s1
    have o2 := ownsRow_setCell_other o1 (a := ⟨q, 1, none⟩) (by simp [Value.ownBlock]; omega) (.slice (some ⟨g, 0, none⟩) l.length cap)
    have fi := o2.frozenAt i
    have o3 := (o2.stored i (.string ⟨v.toArray⟩)).1
    refine ⟨g, cap, l[i].toArray, rfl, ⟨f1, d1⟩, cq, ?_, fi, (heap_setCell_other _ ⟨g, i, none⟩ q (.string ⟨v.toArray⟩) (Ne.symm hgq)).trans s1, ?_, ?_⟩
    · rw [o2.cellAt i (by omega)]; simp [strV]
    · have hs : Below 0 w ((W1.setCell ⟨q, 1, none⟩ (.slice (some ⟨g, 0, none⟩) l.length cap)).setCell ⟨g, i, none⟩ (.string ⟨v.toArray⟩)) := ((b1.mono (Nat.zero_le _)).setCell (Nat.zero_le _) _).setCell (Nat.zero_le _) _
      exact ⟨hs.os, hs.tape, hs.output, hs.size, fun k hk hne => (heap_setCell_other _ ⟨g, i, none⟩ k _ (by show k ≠ g; omega)).trans (s4.block k hk hne)⟩
    · refine OwnS.reads (B := w.heap.size) ?_
      unfold OwnS
      rw [List.length_set, ← strV_set]
      exact o3

def setKV (kv : KVs) (k v : Bs) : KVs := if 1000 < v.length then kv else match atN kv k with | some i => kv.set i (k, v) | none => if 16 ≤ kv.length then kv else kv ++ [(k, v)]
def setC (kv : KVs) (k v : Bs) : Int := if 1000 < v.length then 71 else match atN kv k with | some _ => 0 | none => if 16 ≤ kv.length then 72 else 0

def RSetEnd (q : Nat) (kv : KVs) (k v : Bs) (w : World) (e : Ending) (w' : World) : Prop :=
  e = .returned (.int .i64 (setC kv k v)) ∧ RefAt w' q (setKV kv k v) ∧ w.grownBy w' (some q)

set_option maxRecDepth 100000 in
set_option maxHeartbeats 4000000 in
theorem rset_any {w : World} {q : Nat} {kv : KVs} (h : RefAt w q kv) (hl : kv.length ≤ 100) (k v : Bs) :
    Calls Tryd.prog 19 #[.pointer (some ⟨q, 0, none⟩), .string ⟨k.toArray⟩, .string ⟨v.toArray⟩] w (RSetEnd q kv k v w) := by
  have HR := Lib.hid h
  unfold RSetEnd setC setKV
  by_cases hv : 1000 < v.length
  · clear h
    simp only [if_pos hv]
    go_enter Tryd.func19, Tryd.ntmps19
    go_wp2_with fail
    go_ret
    exact ⟨rfl, HR.out, World.grownBy.refl _ _⟩
  · simp only [if_neg hv]
    have ha := at_any h (by omega) k
    unfold atI at ha
    obtain ⟨nv, vv, h1, h2, h3⟩ := h.ex
    have hkl : (ks kv).length = kv.length := by simp [ks]
    have hvl : (vs kv).length = kv.length := by simp [vs]
    have hkn : ∀ s, nv ≠ .string s := by
      rintro s rfl
      rcases h2 with ⟨h, _⟩ | ⟨_, _, h, _⟩ <;> cases h
    have hvn : ∃ A c, nv = .slice A kv.length c := by
      rcases h2 with ⟨rfl, h0⟩ | ⟨g, c, rfl, _⟩
      · rw [h0] at hkl; exact ⟨none, 0, by rw [← hkl]; rfl⟩
      · exact ⟨_, c, by rw [hkl]⟩
    have hk0 : Below w.heap.size w (w.alloc (.cells #[] 9)) := (Below.refl _ _).alloc (Nat.le_refl _) _
    have ho0 := own_empty w
    cases e : atN kv k with
    | none =>
      rw [e] at ha
      simp only at ha
      by_cases h16 : 16 ≤ kv.length
      · simp only [if_pos h16]
        obtain ⟨c0, c1, f0, f1⟩ := ref_cells h1
        obtain ⟨A, c, rfl⟩ := hvn
        have HA := Lib.hid ha
        clear ha h h1 h2 h3 e hkl hvl hkn hk0 ho0
        have hd : ¬ ((1000 : Int) < v.length) := by omega
        go_enter Tryd.func19, Tryd.ntmps19
        go_wp2_with fail
        refine HA.out.mono ?_
        rintro e wA ⟨rfl, rfl⟩
        go_wp2_with fail
        go_ret
        exact ⟨rfl, HR.out, World.grownBy.refl _ _⟩
      · simp only [if_neg h16]
        obtain ⟨c0, c1, f0, f1⟩ := ref_cells h1
        have r0 : RS (w.alloc (.cells #[] 9)) nv (ks kv) := h2.under hk0
        obtain ⟨c0a, _, _, _⟩ := ref_cells ((hk0.block q (lt_of_block h1)).trans h1)
        obtain ⟨A, c, rfl⟩ := hvn
        have HA := Lib.hid ha
        have HE := Lib.hid e
        have H1 := Lib.hid h1
        have H2 := Lib.hid h2
        have H3 := Lib.hid h3
        have HKL := Lib.hid hkl
        have HVL := Lib.hid hvl
        have HKN := Lib.hid hkn
        have HK0 := Lib.hid hk0
        have HO0 := Lib.hid ho0
        have R0 := Lib.hid r0
        clear ha h h1 h2 h3 e hkl hvl hkn hk0 ho0 r0
        have hd : ¬ ((1000 : Int) < v.length) := by omega
        have tok1 : True := trivial
        go_enter Tryd.func19, Tryd.ntmps19
        go_wp2_with fail
        refine HA.out.mono ?_
        rintro e wA ⟨rfl, rfl⟩
        have hd16 : ¬ ((16 : Int) ≤ kv.length) := by omega
        go_wp2_with (first
          | (at_builtin; have _t := tok1; refine wpList_append_rs rfl _ _ rfl wA.heap.size _ [] (ks kv) HO0.out rfl _ R0.out rfl (by have := HKL.out; simp; omega) (by simp) ?_; intro u1 W1 o1 g1; have O1 := Lib.hid o1; have G1 := Lib.hid g1; clear o1 g1 tok1)
          | (at_builtin; refine wpList_append_one rfl _ _ rfl wA.heap.size _ ([] ++ ks kv) k W1 _ rfl rfl O1.out rfl rfl (by have := HKL.out; simp; omega) (grown_le HK0.out G1.out) ?_; intro u2 W2 o2 g2
             have b2 : Below wA.heap.size wA W2 := (HK0.out.trans (HO0.out.grown_below G1.out (by simp))).trans (O1.out.grown_below g2 (grown_le HK0.out G1.out))
             obtain ⟨A2, c2, e2⟩ := o2.form1
             subst e2
             have S := ref_store (j := 0) H1.out HKN.out (Nat.le_refl _) b2 o2
             obtain ⟨_, _, e0, _⟩ := ref_cells ((b2.block q (lt_of_block H1.out)).trans H1.out)
             obtain ⟨s1, s2, s3, s4⟩ := S
             have s1' := s1.trans (congrArg some (congrArg (fun x => Obj.cells x 42 (0, 0)) (show #[Value.slice A kv.length c, vv].setIfInBounds 0 _ = #[_, vv] from rfl)))
             have k3 : Below W2.heap.size (W2.setCell ⟨q, 0, none⟩ (.slice A2 ((ks kv).length + 1) c2)) ((W2.setCell ⟨q, 0, none⟩ (.slice A2 ((ks kv).length + 1) c2)).alloc (.cells #[] 9)) := (Below.refl _ _).alloc (by simp) _
             have hq2 : q < W2.heap.size := Nat.lt_of_lt_of_le (lt_of_block H1.out) b2.size
             obtain ⟨_, z1, _, _⟩ := ref_cells ((k3.block q hq2).trans s1')
             have hs3 : W2.heap.size ≤ ((W2.setCell ⟨q, 0, none⟩ (.slice A2 ((ks kv).length + 1) c2)).alloc (.cells #[] 9)).heap.size := by simp
             have hz : (W2.setCell ⟨q, 0, none⟩ (.slice A2 ((ks kv).length + 1) c2)).heap.size = W2.heap.size := by simp
             have own3 := own_empty (W2.setCell ⟨q, 0, none⟩ (.slice A2 ((ks kv).length + 1) c2))
             have r3 := (s3 vv _ H3.out).under (k3.mono (by rw [hz]; exact Nat.le_refl _))
             rw [hz] at own3
             have S1 := Lib.hid s1'
             have S2 := Lib.hid s2
             have S4 := Lib.hid s4
             have K3 := Lib.hid k3
             have OWN3 := Lib.hid own3
             have R3 := Lib.hid r3
             have HQ2 := Lib.hid hq2
             have HS3 := Lib.hid hs3
             have HZ := Lib.hid hz
             clear o2 g2 b2 s1 s1' s2 s3 s4 k3 own3 r3 hz hq2 hs3)
          | (at_builtin; refine wpList_append_rs rfl _ _ rfl W2.heap.size _ [] (vs kv) OWN3.out rfl vv R3.out rfl (by have := HVL.out; simp; omega) (by simp) ?_; intro u3 W3 o3 g3; have O3 := Lib.hid o3; have G3 := Lib.hid g3; clear o3 g3)
          | (at_builtin; refine wpList_append_one rfl _ _ rfl W2.heap.size _ ([] ++ vs kv) v W3 _ rfl rfl O3.out rfl rfl (by have := HVL.out; simp; omega) (Nat.le_trans HS3.out G3.out.size) ?_; intro u4 W4 o4 g4
             have b4 : Below W2.heap.size (W2.setCell ⟨q, 0, none⟩ (.slice A2 ((ks kv).length + 1) c2)) W4 := (K3.out.trans (OWN3.out.grown_below G3.out HS3.out)).trans (O3.out.grown_below g4 (Nat.le_trans HS3.out G3.out.size))
             obtain ⟨A4, c4, e4⟩ := o4.form1
             subst e4
             have S := ref_store (j := 1) S1.out (by intro s h; cases h) (Nat.le_of_eq HZ.out) b4 o4
             obtain ⟨_, _, _, e5⟩ := ref_cells ((b4.block q HQ2.out).trans S1.out)
             obtain ⟨s1, s2, s3, s4⟩ := S
             have s5 := s3 _ _ S2.out
             have T1 := Lib.hid s1
             have T2 := Lib.hid s2
             have T4 := Lib.hid s4
             have T5 := Lib.hid s5
             clear o4 g4 b4 s1 s2 s3 s4 s5))
        go_ret
        refine ⟨rfl, ⟨⟨_, _, T1.out, ?_, ?_⟩⟩, S4.out.trans T4.out⟩
        · simpa [ks] using T5.out
        · simpa [vs] using T2.out
    | some i =>
      have hi := atN_lt e
      rw [e] at ha
      simp only at ha ⊢
      have hk1 := ks_set (v := v) e
      have hv1 := vs_set kv k v i
      have r0 : RS (w.alloc (.cells #[] 9)) vv (vs kv) := h3.under hk0
      obtain ⟨_, c1a, _, _⟩ := ref_cells ((hk0.block q (lt_of_block h1)).trans h1)
      have HA := Lib.hid ha
      have HK1 := Lib.hid hk1
      have HV1 := Lib.hid hv1
      have H1 := Lib.hid h1
      have H2 := Lib.hid h2
      have HKL := Lib.hid hkl
      have HVL := Lib.hid hvl
      have HKN := Lib.hid hkn
      have HK0 := Lib.hid hk0
      have HO0 := Lib.hid ho0
      have R0 := Lib.hid r0
      clear ha h h1 h2 h3 e hkl hvl hkn hk0 ho0 r0 hk1 hv1 hvn
      have hd : ¬ ((1000 : Int) < v.length) := by omega
      have tok1 : True := trivial
      go_enter Tryd.func19, Tryd.ntmps19
      go_wp2_with fail
      refine HA.out.mono ?_
      rintro e wA ⟨rfl, rfl⟩
      go_wp2_with (at_builtin; refine wpList_append_rs rfl _ _ rfl wA.heap.size _ [] (vs kv) HO0.out rfl vv R0.out rfl (by have := HVL.out; simp; omega) (by simp) ?_; intro u1 W1 o1 g1
                   obtain ⟨g, cap, x, rfl, ⟨x1, x0⟩, x2, x3, x4, x5, x6, x7⟩ := old_step v H1.out HKN.out (HK0.out.trans (HO0.out.grown_below g1 (by simp))) o1 HVL.out hi
                   have HQ3 := Lib.hid x5
                   have GR3 := Lib.hid x6
                   have RS3 := Lib.hid x7
                   clear g1 o1 x5 x6 x7)
      go_ret
      refine ⟨rfl, ⟨⟨_, _, HQ3.out, ?_, ?_⟩⟩, GR3.out⟩
      · rw [HK1.out]; exact H2.out.grownQ H1.out HKN.out GR3.out
      · rw [HV1.out]; exact RS3.out
end Go.Proofs.YtlggegjjhbknaaaDoor
