import Derived.Test.YtklcfmmnibcobaaDoorTx7
import Derived.Test.YtklcfmmnibcobaaDoorTx4
import Derived.Test.YtklcfmmnibcobaaDoorHas
import Derived.Lib.QuietBelow
namespace Go.Proofs.YtklcfmmnibcobaaDoor
open Go.RowKit Go.Shelf Go.Lib

theorem numV_mk (s : Bs) (m : Int) : ∃ (a : Int) (b : Bool), numV s m = #[.int .i64 a, .bool b] := ⟨_, _, rfl⟩

/-- The first two cells of an owned slice of two texts. -/
theorem own_cells {B : Nat} {w : World} {v : Value} {l : List Bs} (h : OwnS B w v l) (h0 : l ≠ []) : ∃ g c, v = .slice (some ⟨g, 0, none⟩) l.length c ∧ ∀ (j : Nat) x, l[j]? = some x → w.cell? ⟨g, j, none⟩ = some (.string ⟨x.toArray⟩) := by
  have hr := rd_of_own h
  rcases h.2 with ⟨_, hn⟩ | ⟨g, cap, cur, rfl, _, hh, hn, hc, hcs, ht⟩
  · exact absurd (List.length_eq_zero_iff.1 hn) h0
  · refine ⟨g, cap, rfl, fun j x hx => ?_⟩
    rcases hr.2 with ⟨h, _⟩ | ⟨g', o', c', he, _, _, hc'⟩
    · cases h
    · simp only [Value.slice.injEq, Option.some.injEq, Addr.mk.injEq, and_true, true_and] at he
      obtain ⟨⟨rfl, rfl⟩, rfl⟩ := he
      have := hc' j _ (strV_get l j x hx)
      rwa [Nat.zero_add] at this

set_option maxHeartbeats 1000000 in
theorem tshown_any (w : World) (hE : Env w) : Calls Tryd.prog 15 #[] w fun e w' => e = .returned (.bool true) ∧ Below w.heap.size w w' := by
  have h1 := words_any ⟨#[32, 97, 32, 32, 98, 99]⟩ w hE.ml (by decide)
  have hw : SP.wordsF [] (⟨#[32, 97, 32, 32, 98, 99]⟩ : ByteArray).data.toList = [[97], [98, 99]] := by decide +kernel
  unfold WordsEnd at h1
  rw [hw] at h1
  have hn : numV (⟨#[48, 48, 55]⟩ : ByteArray).data.toList 9 = #[.int .i64 7, .bool true] := by
    rw [numV_some (n := 7) (by decide +kernel)]; rfl
  have h2 := fun w' hE' => number_any ⟨#[48, 48, 55]⟩ 9 w' hE' (by decide)
  rw [hn] at h2
  have HE := Lib.hid hE
  have H1 := Lib.hid h1
  have H2 := Lib.hid h2
  clear h1 h2 hE hn hw
  go_enter Tryd.func15, Tryd.ntmps15
  go_wp2_with fail
  refine H1.out.mono ?_
  rintro e w1 ⟨v, rfl, ho, hb1⟩
  obtain ⟨g, c, rfl, hc⟩ := own_cells ho (by simp)
  have hE1 := HE.out.under hb1
  have HE1 := Lib.hid hE1
  have HB1 := Lib.hid hb1
  have hg : g < w1.heap.size := World.block_lt_of_cell? w1 _ (hc 0 _ rfl)
  have HC := Lib.hid hc
  clear ho hE1 hb1 hc
  go_wp2_with fail
  refine (H2.out w1 HE1.out).mono ?_
  rintro e w2 ⟨rfl, hb2⟩
  have c0 := HC.out 0 _ rfl
  have c1 := HC.out 1 _ rfl
  rw [← hb2.cell (p := ⟨g, 0, none⟩) hg] at c0
  rw [← hb2.cell (p := ⟨g, 1, none⟩) hg] at c1
  have HB2 := Lib.hid (chain HB1.out hb2)
  clear hb2
  go_wp2_with fail
  go_ret
  exact ⟨rfl, HB2.out⟩
end Go.Proofs.YtklcfmmnibcobaaDoor
