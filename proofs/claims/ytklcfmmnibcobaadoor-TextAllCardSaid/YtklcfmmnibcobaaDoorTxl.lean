import Derived.Test.YtklcfmmnibcobaaDoorTxa
namespace Go.Proofs.YtklcfmmnibcobaaDoor
open Go.RowKit Go.Shelf Go.Lib

theorem take_size_le (l : Bs) (n : Nat) : (⟨(l.take n).toArray⟩ : ByteArray).size ≤ n := by
  have : (⟨(l.take n).toArray⟩ : ByteArray).size = (l.take n).length := by simp [ByteArray.size]
  rw [this, List.length_take]; omega

/-- A contract at every later world, met in a drawn region. -/
theorem met {f : FuncId} {args : Array Value} {v : Value} {w0 : World} (h : ∀ W, Below w0.heap.size w0 W → Calls Tryd.prog f args W fun e w' => e = .returned v ∧ Below W.heap.size W w') (d : Nat) (os : Array Obj) :
    Calls Tryd.prog f args (Go.Sort.grow (redrawn w0 d) os) fun e w'' => e = .returned v ∧ ∃ p : Regrown, w'' = Go.Sort.grow (redrawn w0 p.d) p.os :=
  Calls.regrown_of (h _ (below_regrown w0 d os))

set_option maxRecDepth 100000 in
set_option maxHeartbeats 4000000 in
theorem textAll_law (s p : ByteArray) (n0 n1 : Int) (h0 : -9223372036854775808 ≤ n1) (h1 : n1 ≤ 9223372036854775807) (w : World) (hE : Env w) :
    Calls Tryd.prog 3 #[.string s, .string p, .agg #[.int .i64 n0, .int .i64 n1]] w fun e w' => e = .returned (.bool true) ∧ Below w.heap.size w w' := by
  have hsS := take_size_le s.data.toList 400
  have hsP := take_size_le p.data.toList 400
  have hsh1 := short_any s
  have hsh2 := short_any p
  generalize (⟨(s.data.toList.take 400).toArray⟩ : ByteArray) = S at hsS hsh1
  generalize (⟨(p.data.toList.take 400).toArray⟩ : ByteArray) = T at hsP hsh2
  obtain ⟨na, nb, hnum⟩ := numV_mk S.data.toList n0
  have hk0 : Below w.heap.size w (w.alloc (.cells #[.int .i64 n0, .int .i64 n1] 22)) := (Below.refl _ _).alloc (Nat.le_refl _) _
  have hE0 := hE.under hk0
  have hc0 : (w.alloc (.cells #[.int .i64 n0, .int .i64 n1] 22)).cell? ⟨w.heap.size, 0, none⟩ = some (.int .i64 n0) := cells_at _ _ _ _
  have hc1 : (w.alloc (.cells #[.int .i64 n0, .int .i64 n1] 22)).cell? ⟨w.heap.size, 1, none⟩ = some (.int .i64 n1) := cells_at _ _ _ _
  have hz0 : w.heap.size < (w.alloc (.cells #[.int .i64 n0, .int .i64 n1] 22)).heap.size := by simp
  have HS1 := Lib.hid hsh1
  have HS2 := Lib.hid hsh2
  have HNUM := Lib.hid hnum
  have HK0 := Lib.hid hk0
  have HE0 := Lib.hid hE0
  have HC0 := Lib.hid hc0
  have HC1 := Lib.hid hc1
  have HB_0 := Lib.hid h0
  have HB_1 := Lib.hid h1
  clear hsh1 hsh2 hnum hk0 hE0 hc0 hc1 hE h0 h1
  go_enter Tryd.func3, Tryd.ntmps3
  go_wp2_with fail
  generalize (w.alloc (.cells #[.int .i64 n0, .int .i64 n1] 22)) = w0 at HK0 HE0 HC0 HC1 hz0 ⊢
  refine (tshown_any w0 HE0.out).mono ?_
  rintro e w1 ⟨rfl, hb1⟩
  have hE1 := HE0.out.under hb1
  have c1 := (hb1.cell (p := ⟨w.heap.size, 0, none⟩) hz0).trans HC0.out
  have HE1 := Lib.hid hE1
  have HB1 := Lib.hid hb1
  clear hb1 hE1
  go_wp2_with (first | (go_at_call 16; refine (HS1.out _).mono ?_; rintro e w' ⟨rfl, hw⟩; rw [hw]; clear hw) | (go_at_call 16; refine (HS2.out _).mono ?_; rintro e w' ⟨rfl, hw⟩; rw [hw]; clear hw))
  have hnu := number_any S n0 w1 HE1.out (by omega)
  rw [HNUM.out] at hnu
  refine hnu.mono ?_
  rintro e w2 ⟨rfl, hb2⟩
  have hb2' := chain HB1.out hb2
  have c2 := (hb2'.cell (p := ⟨w.heap.size, 0, none⟩) hz0).trans HC0.out
  have HE2 := Lib.hid (HE0.out.under hb2')
  have HB2 := Lib.hid hb2'
  clear hb2 hb2' hnu
  go_wp2_with fail
  have hnr := rnumber_any S n0 w2 (by omega)
  rw [HNUM.out] at hnr
  refine hnr.mono ?_
  rintro e w' ⟨rfl, hw⟩
  rw [hw]
  clear hnr hw
  go_wp2_with fail
  refine (words_any S _ HE2.out.ml (by omega)).mono ?_
  rintro e w3 ⟨v, rfl, ho3, hb3⟩
  have HO3 := Lib.hid ho3
  have HB3 := Lib.hid (chain HB2.out hb3)
  have HE3 := Lib.hid (HE2.out.under hb3)
  clear hb3 ho3
  go_wp2_with fail
  refine (rwords_any S _ (by omega)).mono ?_
  rintro e w4 ⟨v', rfl, ho4, hb4⟩
  have hrd3 := (rd_of_own HO3.out).under hb4
  have HO4 := Lib.hid ho4
  have HR3 := Lib.hid hrd3
  have HB4 := Lib.hid (chain HB3.out hb4)
  have HE4 := Lib.hid (HE3.out.under hb4)
  have hwl := SP.wordsF_len S.data.toList []
  have hsl : S.data.toList.length = S.size := by simp
  rw [hsl] at hwl
  clear hb4 hrd3 ho4 hsl
  go_wp2_with fail
  refine (same_any HR3.out (rd_of_own HO4.out) (by omega) (by omega)).mono ?_
  rintro e w5 ⟨rfl, k, rfl⟩
  rw [decide_eq_true rfl]
  have HB5 := Lib.hid (chain HB4.out (below_drewN (Below.refl _ _) k))
  have HE5 := Lib.hid (HE4.out.under (below_drewN (Below.refl _ _) k))
  generalize w4.drewN k = w5 at HB5 HE5 ⊢
  have kc1 := cell_regrown ((HB5.out.cell (p := ⟨w.heap.size, 1, none⟩) hz0).trans HC1.out)
  have q22 := fun d os => met (w0 := w5) (fun W hb => upper_any S W (by omega)) d os
  have q23 := fun d os => met (w0 := w5) (fun W hb => rupper_any S W (by omega)) d os
  have q24 := fun d os => met (w0 := w5) (fun W hb => plain_any S W (by omega)) d os
  have q25 := fun d os => met (w0 := w5) (fun W hb => (rplain_any S W (by omega)).mono fun e w' ⟨h1, h2⟩ => ⟨h1, h2 ▸ Below.refl _ _⟩) d os
  have q26 := fun d os => met (w0 := w5) (fun W hb => digits_any n1 W (HE5.out.under hb) HB_0.out HB_1.out) d os
  have q27 := fun d os => met (w0 := w5) (fun W hb => (rdigits_any n1 W HB_0.out HB_1.out).mono fun e w' ⟨h1, h2⟩ => ⟨h1, h2 ▸ Below.refl _ _⟩) d os
  have q28 := fun d os => met (w0 := w5) (fun W hb => has_any S T W (HE5.out.under hb).ml (by omega) (by omega)) d os
  have q29 := fun d os => met (w0 := w5) (fun W hb => rhas_any S T W (by omega) (by omega)) d os
  have Q22 := Lib.hid q22
  have Q23 := Lib.hid q23
  have Q24 := Lib.hid q24
  have Q25 := Lib.hid q25
  have Q26 := Lib.hid q26
  have Q27 := Lib.hid q27
  have Q28 := Lib.hid q28
  have Q29 := Lib.hid q29
  clear q22 q23 q24 q25 q26 q27 q28 q29
  generalize (⟨(S.data.toList.map up).toArray⟩ : ByteArray) = U at Q22 Q23
  generalize (⟨(Lib.itoa n1).toArray⟩ : ByteArray) = V at Q26 Q27
  generalize SP.plB S.data.toList = pb at Q24 Q25
  generalize hasB S.data.toList T.data.toList = hbb at Q28 Q29
  go_wp2_with fail
  refine wp_region_quiet_below (by kernel_rfl) (by kernel_rfl) ?_
  repeat (quiet_step (first | exact Q22.out _ _ | exact Q23.out _ _ | exact Q24.out _ _ | exact Q25.out _ _ | exact Q26.out _ _ | exact Q27.out _ _ | exact Q28.out _ _ | exact Q29.out _ _))
  refine wpQuiet_nil ?_
  intro _ hw'
  obtain ⟨⟨dq, osq⟩, hw''⟩ := hw'
  subst hw''
  go_wp2_with fail
  go_ret
  exact ⟨rfl, HK0.out.trans ((HB5.out.trans ((below_regrown w5 dq osq).mono HB5.out.size)).mono HK0.out.size)⟩
end Go.Proofs.YtklcfmmnibcobaaDoor
