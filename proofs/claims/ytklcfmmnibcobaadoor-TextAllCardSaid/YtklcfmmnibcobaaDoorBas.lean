import Derived.Test.YtklcfmmnibcobaaDoorProg
import Derived.WalkKit
import Derived.Below
import Derived.WalkSmall
import Derived.Lib.Hide
import Derived.Deep.LoopGhost
import Derived.Deep.QuietTactic
import Derived.BigQuiet
import Derived.WalkSpells
import Derived.WalkLawsBesides
import Derived.OneCell
import Derived.Laws.AppendOwnNone
import Derived.Lib.AppendIntMem
import Derived.Lib.ItoaNum
namespace Go.Proofs.YtklcfmmnibcobaaDoor
open Go.RowKit Go.Lib

abbrev Bs := List UInt8
theorem ext_eq (s : ByteArray) (a b : Nat) : s.extract a b = ⟨((s.data.toList.drop a).take (b - a)).toArray⟩ := by
  apply ByteArray.ext
  apply Array.ext'
  simp [ByteArray.data_extract, List.take_drop]
theorem bytes_self (s : ByteArray) : (⟨s.data.toList.toArray⟩ : ByteArray) = s := by
  apply ByteArray.ext; simp
theorem size_mk (l : Bs) : (⟨l.toArray⟩ : ByteArray).size = l.length := by simp [ByteArray.size]
theorem take_snoc (s : ByteArray) (k : Nat) (h : k < s.size) : s.data.toList.take (k + 1) = s.data.toList.take k ++ [s[k]] := by
  rw [List.take_succ_eq_append_getElem (by simpa using h)]; rfl
theorem cat_mk (a b : Bs) : (⟨a.toArray⟩ : ByteArray) ++ ⟨b.toArray⟩ = ⟨(a ++ b).toArray⟩ := by
  apply ByteArray.ext; simp
theorem ext_one (s : ByteArray) (k : Nat) (h : k < s.size) : s.extract k (k + 1) = ⟨#[s[k]]⟩ := by
  rw [ext_eq]
  have : (s.data.toList.drop k).take (k + 1 - k) = [s[k]] := by
    rw [List.drop_eq_getElem_cons (by simpa using h)]
    simp; rfl
  rw [this]

theorem chain {w w1 w2 : World} (h : Below w.heap.size w w1) (h2 : Below w1.heap.size w1 w2) : Below w.heap.size w w2 := h.trans (h2.mono h.size)
/-- The cell of bytealg.MaxLen. -/
def ML (w : World) : Prop := ∃ m, w.cell? ⟨0, 0, none⟩ = some (.int .i64 m)
theorem ML.pos {w : World} (h : ML w) : 0 < w.heap.size := by
  obtain ⟨m, hm⟩ := h
  exact World.block_lt_of_cell? w _ hm
theorem ML.below {B : Nat} {w w' : World} (h : ML w) (hb : Below B w w') (h0 : 0 < B) : ML w' := by
  obtain ⟨m, hm⟩ := h
  exact ⟨m, (hb.cell (p := ⟨0, 0, none⟩) h0).trans hm⟩

/-- What the library's contracts ask of the world. -/
structure Env (w : World) : Prop where
  ml : ML w
  e1 : ∃ ev, w.cell? ⟨1, 0, none⟩ = some ev ∧ (ev = .nilIface ∨ ∃ te pe, ev = .iface te pe)
  e2 : ∃ ev, w.cell? ⟨2, 0, none⟩ = some ev ∧ (ev = .nilIface ∨ ∃ te pe, ev = .iface te pe)
  tab : Lib.TabBelow Tryd.prog w.heap.size w "internal/strconv.uint64pow10" .u64 Lib.pow10Tab

theorem Env.under {w w' : World} (h : Env w) (hb : Below w.heap.size w w') : Env w' := by
  refine ⟨h.ml.below hb h.ml.pos, ?_, ?_, fun w2 hb2 => h.tab w2 (chain hb hb2)⟩
  · obtain ⟨ev, h1, h2⟩ := h.e1
    exact ⟨ev, (hb.cell (p := ⟨1, 0, none⟩) (World.block_lt_of_cell? w _ h1)).trans h1, h2⟩
  · obtain ⟨ev, h1, h2⟩ := h.e2
    exact ⟨ev, (hb.cell (p := ⟨2, 0, none⟩) (World.block_lt_of_cell? w _ h1)).trans h1, h2⟩

/-! Slices of texts. -/
def strV (l : List Bs) : List Value := l.map fun x => .string ⟨x.toArray⟩
def OwnS (B : Nat) (w : World) (v : Value) (l : List Bs) : Prop := w.ownsRow B 9 1 v l.length (strV l)
theorem own_below {B e k n : Nat} {xs : List Value} {w w' : World} {v : Value} (h : w.ownsRow B e k v n xs) (hb : Below w.heap.size w w') : w'.ownsRow B e k v n xs := by
  refine ⟨h.1, ?_⟩
  rcases h.2 with h0 | ⟨g, cap, cur, hv, hg, hh, r⟩
  · exact .inl h0
  · exact .inr ⟨g, cap, cur, hv, hg, (hb.block g (lt_of_block hh)).trans hh, r⟩
theorem own_ge {B e k n : Nat} {xs : List Value} {w : World} {v : Value} (h : w.ownsRow B e k v n xs) : ∀ g, v.ownBlock = some g → B ≤ g := by
  intro g e
  rcases h.2 with ⟨rfl, _⟩ | ⟨g', cap, cur, rfl, hg, _⟩
  · simp [Value.ownBlock] at e
  · simp [Value.ownBlock] at e; omega
theorem own_lt {B e k n : Nat} {xs : List Value} {w : World} {v : Value} (h : w.ownsRow B e k v n xs) : ∀ g, v.ownBlock = some g → g < w.heap.size := by
  intro g e
  rcases h.2 with ⟨rfl, _⟩ | ⟨g', cap, cur, rfl, _, hh, _⟩
  · simp [Value.ownBlock] at e
  · simp [Value.ownBlock] at e; subst e; exact lt_of_block hh
theorem own_form {B e k n : Nat} {xs : List Value} {w : World} {v : Value} (h : w.ownsRow B e k v n xs) : ∃ A c, v = .slice A n c := by
  rcases h.2 with ⟨rfl, hn⟩ | ⟨g, cap, cur, rfl, _⟩
  · exact ⟨_, _, by rw [hn]⟩
  · exact ⟨_, _, rfl⟩
theorem own_mono {B B' e k n : Nat} {xs : List Value} {w : World} {v : Value} (h : w.ownsRow B e k v n xs) (hB : B' ≤ B) : w.ownsRow B' e k v n xs := by
  refine ⟨h.1, ?_⟩
  rcases h.2 with h0 | ⟨g, cap, cur, hv, hg, r⟩
  · exact .inl h0
  · exact .inr ⟨g, cap, cur, hv, Nat.le_trans hB hg, r⟩
theorem own_grown {B e k n : Nat} {xs : List Value} {w w' : World} {v : Value} (h : w.ownsRow B e k v n xs) (hg : w.grownBy w' v.ownBlock) (hB : B ≤ w.heap.size) : Below B w w' :=
  (Below.refl B w).grown hg hB (fun j hj => own_ge h j hj)
theorem own_empty (w : World) (e k : Nat) : (w.alloc (.cells #[] e)).ownsRow w.heap.size e k (.slice (some ⟨w.heap.size, 0, none⟩) 0 0) 0 [] :=
  ⟨by simp, .inr ⟨w.heap.size, 0, #[], rfl, Nat.le_refl _, heap_alloc_new _ _, Nat.le_refl _, Nat.zero_le _, by simp, by simp⟩⟩
theorem own_nil (w : World) (B e k : Nat) : w.ownsRow B e k (.slice none 0 0) 0 [] := ⟨by simp, .inl ⟨rfl, rfl⟩⟩

/-- A slice that reads as these cells, k an element. -/
def Rd (w : World) (k : Nat) (v : Value) (n : Nat) (xs : List Value) : Prop :=
  xs.length = n * k ∧ ((v = .slice none 0 0 ∧ n = 0) ∨ ∃ g o c, v = .slice (some ⟨g, o, none⟩) n c ∧ g < w.heap.size ∧ n ≤ c ∧ ∀ (j : Nat) x, xs[j]? = some x → w.cell? ⟨g, o + j, none⟩ = some x)
theorem Rd.under {w w' : World} {k n : Nat} {v : Value} {xs : List Value} (h : Rd w k v n xs) (hb : Below w.heap.size w w') : Rd w' k v n xs := by
  refine ⟨h.1, ?_⟩
  rcases h.2 with h0 | ⟨g, o, c, hv, hg, hn, hc⟩
  · exact .inl h0
  · exact .inr ⟨g, o, c, hv, Nat.lt_of_lt_of_le hg hb.size, hn, fun j x hx => (hb.cell (p := ⟨g, o + j, none⟩) hg).trans (hc j x hx)⟩
theorem rd_of_own {B e k n : Nat} {xs : List Value} {w : World} {v : Value} (h : w.ownsRow B e k v n xs) : Rd w k v n xs := by
  refine ⟨h.1, ?_⟩
  rcases h.2 with h0 | ⟨g, cap, cur, hv, hg, hh, hn, hc, hcs, ht⟩
  · exact .inl h0
  · refine .inr ⟨g, 0, cap, hv, lt_of_block hh, hn, fun j x hx => ?_⟩
    rw [Nat.zero_add, cell_of_row w g j cur e (0, 0) hh, ← hx, ← ht]
    have hj : j < xs.length := (List.getElem?_eq_some_iff.1 hx).1
    rw [h.1] at hj
    rw [List.getElem?_take, if_pos hj, Array.getElem?_toList]

/-- What a literal's cells are. -/
theorem lit_cells (w : World) (cs : Array Value) (e : Nat) (j : Nat) (u : Value) (h : cs.toList[j]? = some u) : (w.alloc (.cells cs e)).cell? ((⟨w.heap.size, 0, none⟩ : Addr).add j) = some u := by
  rw [Addr.add_lit, Nat.zero_add, cell_of_row _ w.heap.size j cs e (0, 0) (heap_alloc_new _ _)]
  rw [← Array.getElem?_toList]; exact h

/-- One element more: a literal of k cells. -/
theorem wpList_append_lit {w : World} {ops : Array Oper} {rest : List Oper} {o : Oper} {a : Act} {Q : Exit → Act → World → Prop} (hgd : o.guard = none) (s x : Operand) (T e k bytes : Nat) (z : Value)
    (ho : o.op = .call { callee := .builtin .append, args := #[s, x], argTypes := #[T, T] }) (hT : Tryd.prog.underlying T = some (.slice e)) (hinfo : (Tryd.prog.info? e).map (fun i => (i.zero, i.size, i.bytes)) = some (some z, k, bytes))
    (hz : z.cells.size = k) (hk : 0 < k) (hby : bytes ≤ 100) (B : Nat) (v : Value) (n : Nat) (xs : List Value) (w0 : World) (cs : Array Value) (hw : w = w0.alloc (.cells cs e)) (hck : cs.size = k) (hco : ∀ u ∈ cs.toList, u.oneCell' = true) (hown : w0.ownsRow B e k v n xs)
    (hs : a.eval s = v) (hx : a.eval x = .slice (some ⟨w0.heap.size, 0, none⟩) 1 1) (hlen : n ≤ 1000000) (hB : B ≤ w0.heap.size)
    (h : ∀ v' w', w'.ownsRow B e k v' (n + 1) (xs ++ cs.toList) → Below B w0 w' → w0.heap.size ≤ w'.heap.size → wpList Tryd.prog ops Q rest (a.put o.dst v') w') : wpList Tryd.prog ops Q (o :: rest) a w := by
  obtain ⟨i0, hi, hz0, hz1, hz2⟩ := info_parts hinfo
  subst hw
  refine wpList_append_own _ hgd s x T ho B e i0 z k bytes hT hi hz0 hz1 hz2 hz hk v n xs hs (World.ownsRow.alloc hown _) ⟨w0.heap.size, 0, none⟩ 1 1 cs.toList hx (by simp [hck]) ?_ hco (by unfold maxLen; omega) ?_ (by simp; omega) ?_
  · intro j u hu; exact lit_cells w0 cs e j u hu
  · exact Nat.le_trans (Nat.mul_le_mul (show n + 1 ≤ 1000001 by omega) hby) (by decide)
  · intro v' w' ho' hg _
    have hg1 := (World.grownBy_alloc w0 (.cells cs e) v.ownBlock).trans hg
    exact h v' w' ho' (own_grown hown hg1 hB) hg1.size

theorem one_lit (v : Value) (h : v.oneCell' = true) : ∀ u ∈ (#[v] : Array Value).toList, u.oneCell' = true := by
  intro u hu
  have e : u = v := by simpa using hu
  rw [e]; exact h

/-- As many elements more as a slice has. -/
theorem wpList_append_rd {w : World} {ops : Array Oper} {rest : List Oper} {o : Oper} {a : Act} {Q : Exit → Act → World → Prop} (hgd : o.guard = none) (s x : Operand) (T e k bytes : Nat) (z : Value)
    (ho : o.op = .call { callee := .builtin .append, args := #[s, x], argTypes := #[T, T] }) (hT : Tryd.prog.underlying T = some (.slice e)) (hinfo : (Tryd.prog.info? e).map (fun i => (i.zero, i.size, i.bytes)) = some (some z, k, bytes))
    (hz : z.cells.size = k) (hk : 0 < k) (hby : bytes ≤ 100) (B : Nat) (v : Value) (n m : Nat) (xs ys : List Value) (u : Value) (hr : Rd w k u m ys) (hco : ∀ u ∈ ys, u.oneCell' = true) (hown : w.ownsRow B e k v n xs)
    (hs : a.eval s = v) (hx : a.eval x = u) (hlen : n ≤ 1000000) (hlen2 : m ≤ 1000000) (hB : B ≤ w.heap.size)
    (h : ∀ v' w', w'.ownsRow B e k v' (n + m) (xs ++ ys) → Below B w w' → w.heap.size ≤ w'.heap.size → wpList Tryd.prog ops Q rest (a.put o.dst v') w') : wpList Tryd.prog ops Q (o :: rest) a w := by
  obtain ⟨i0, hi, hz0, hz1, hz2⟩ := info_parts hinfo
  rcases hr with ⟨hl, ⟨rfl, rfl⟩ | ⟨g, o', c, rfl, hg, hn, hc⟩⟩
  · refine wpList_append_own_none hgd s x T ho B e i0 k hT hi v n xs hs hown hx ?_
    obtain rfl : ys = [] := List.length_eq_zero_iff.1 (by simpa using hl)
    exact h v w (by simpa using hown) (Below.refl _ _) (Nat.le_refl _)
  · refine wpList_append_own w hgd s x T ho B e i0 z k bytes hT hi hz0 hz1 hz2 hz hk v n xs hs hown ⟨g, o', none⟩ m c ys hx hl ?_ hco (by unfold maxLen; omega) ?_ hB ?_
    · intro j u hu; rw [Addr.add_lit]; exact hc j u hu
    · exact Nat.le_trans (Nat.mul_le_mul (show n + m ≤ 2000000 by omega) hby) (by decide)
    · intro v' w' ho' hg _
      exact h v' w' ho' (own_grown hown hg hB) hg.size

/-! Rows of bytes. -/
def byteV (l : Bs) : List Value := l.map fun c => .int .u8 c.toNat
theorem byteV_one (l : Bs) : ∀ u ∈ byteV l, u.oneCell' = true := by
  intro u hu
  simp only [byteV, List.mem_map] at hu
  obtain ⟨y, _, rfl⟩ := hu
  rfl
theorem strV_one (l : List Bs) : ∀ u ∈ strV l, u.oneCell' = true := by
  intro u hu
  simp only [strV, List.mem_map] at hu
  obtain ⟨y, _, rfl⟩ := hu
  rfl
theorem byteV_len (l : Bs) : (byteV l).length = l.length := by simp [byteV]
theorem strV_len (l : List Bs) : (strV l).length = l.length := by simp [strV]
theorem byteV_get (l : Bs) (j : Nat) (c : UInt8) (h : l[j]? = some c) : (byteV l)[j]? = some (.int .u8 c.toNat) := by simp [byteV, h]
theorem strV_get (l : List Bs) (j : Nat) (c : Bs) (h : l[j]? = some c) : (strV l)[j]? = some (.string ⟨c.toArray⟩) := by simp [strV, h]
theorem OwnS.snoc {B : Nat} {w : World} {v : Value} {l : List Bs} {x : ByteArray} (h : w.ownsRow B 9 1 v (l.length + 1) (strV l ++ (#[.string x] : Array Value).toList)) : OwnS B w v (l ++ [x.data.toList]) := by
  unfold OwnS
  have e : strV (l ++ [x.data.toList]) = strV l ++ (#[.string x] : Array Value).toList := by simp [strV]
  rw [e, List.length_append]
  exact h
def OwnB (B : Nat) (w : World) (v : Value) (l : Bs) : Prop := w.ownsRow B 5 1 v l.length (byteV l)
theorem OwnB.snoc {B : Nat} {w : World} {v : Value} {l : Bs} {c : UInt8} (h : w.ownsRow B 5 1 v (l.length + 1) (byteV l ++ (#[.int .u8 c.toNat] : Array Value).toList)) : OwnB B w v (l ++ [c]) := by
  unfold OwnB
  have e : byteV (l ++ [c]) = byteV l ++ (#[.int .u8 c.toNat] : Array Value).toList := by simp [byteV]
  rw [e, List.length_append]
  exact h
theorem info9 : (Tryd.prog.info? 9).map (fun i => (i.zero, i.size, i.bytes)) = some (some (.string ⟨#[]⟩), 1, 16) := by kernel_rfl
theorem info5 : (Tryd.prog.info? 5).map (fun i => (i.zero, i.size, i.bytes)) = some (some (.int .u8 0), 1, 1) := by kernel_rfl
theorem info3 : (Tryd.prog.info? 3).map (fun i => (i.zero, i.size, i.bytes)) = some (some (.int .i64 0), 1, 8) := by kernel_rfl
theorem info82 : (Tryd.prog.info? 82).map (fun i => (i.zero, i.size, i.bytes)) = some (some (.agg #[.int .i64 0, .int .i64 0, .string ⟨#[]⟩]), 3, 32) := by kernel_rfl
end Go.Proofs.YtklcfmmnibcobaaDoor
