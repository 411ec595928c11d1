import Derived.Test.YtklcfmmnibcobaaDoorBas
import Derived.Shelf.Vars
import Derived.LaidSub
namespace Go.Proofs.YtklcfmmnibcobaaDoor
open Go.RowKit Go.Lib

theorem iface_of_trod {H : Type} {enc : TypeId × Value → H} {P : Program} {w : World} {base fuel : Nat} {spare : Nat → Bool} {held : Bool} {t : TypeId} {ms : Array (String × TypeId)} {cs : List Value} {x : DataW H × List MemPlace}
    (ht : P.underlying t = some (.interface ms)) (h : DataW.trod enc P w base spare held fuel t cs = some x) : ∃ ev, cs = [ev] ∧ (ev = .nilIface ∨ ∃ te pe, ev = .iface te pe) := by
  cases fuel with
  | zero => simp [DataW.trod] at h
  | succ fuel =>
    simp only [DataW.trod, ht] at h
    split at h <;> first | cases h | skip
    all_goals first | exact ⟨_, rfl, .inl rfl⟩ | exact ⟨_, rfl, .inr ⟨_, _, rfl⟩⟩ | (simp_all)

theorem iface_laid {P : Program} {W : World} {n : String} {d : DataW Unit} {g : Nat} {t : TypeId} {ms : Array (String × TypeId)} (hg : P.globalNamed n = some g) (hty : (P.globals[g]?).map (·.type) = some t) (ht : P.underlying t = some (.interface ms))
    (h : laidMet P [(n, d)] W) : ∃ ev, W.cell? ⟨g, 0, none⟩ = some ev ∧ (ev = .nilIface ∨ ∃ te pe, ev = .iface te pe) := by
  obtain ⟨ps, ⟨g', t', cs, fuel, p, q, hg', ht', hvar, hd, _, _⟩, _⟩ := h
  obtain rfl := Option.some.inj (hg.symm.trans hg')
  obtain rfl := Option.some.inj (hty.symm.trans ht')
  obtain ⟨ev, hc, he⟩ := iface_of_trod ht hd
  have := World.var?_cell hg hvar 0
  have hc0 : cs[0]? = some ev := by rw [← Array.getElem?_toList, hc]; rfl
  exact ⟨ev, this.trans hc0, he⟩

def onlyOf (n : String) (L : List (String × DataW Unit)) : List (String × DataW Unit) := L.filter (fun x => x.1 == n)

theorem Env.start {W : World} (hsh : W.ShapedOpen Tryd.prog) {L : List (String × DataW Unit)} (hL : laidMetH Tryd.prog L W) {d1 d2 : DataW Unit}
    (hf : onlyOf "internal/strconv.uint64pow10" L = [("internal/strconv.uint64pow10", Lib.tabData .u64 Lib.pow10Tab)])
    (hf1 : onlyOf "strconv.ErrSyntax" L = [("strconv.ErrSyntax", d1)]) (hf2 : onlyOf "strconv.ErrRange" L = [("strconv.ErrRange", d2)]) (hd1 : d1.handleName?.isNone = true) (hd2 : d2.handleName?.isNone = true) : Env W := by
  refine ⟨Go.Proofs.cell_of_shapedOpen_int (zero := #[.int .i64 0]) (t := 3) hsh (of_decide_eq_true (by kernel_rfl)) (by kernel_rfl) rfl (by kernel_rfl) (by kernel_rfl) Tryd.underlying3, ?_, ?_, Lib.tabBelow_of_tabIs ?_⟩
  · have h2 := hL.filter (fun x => x.1 == "strconv.ErrSyntax")
    rw [show L.filter (fun x => x.1 == "strconv.ErrSyntax") = _ from hf1, MakeChecks.laidMetH_plain _ _ _ (by simp [hd1])] at h2
    exact iface_laid (g := 1) (t := 93) (by kernel_rfl) (by kernel_rfl) Tryd.underlying93 h2
  · have h2 := hL.filter (fun x => x.1 == "strconv.ErrRange")
    rw [show L.filter (fun x => x.1 == "strconv.ErrRange") = _ from hf2, MakeChecks.laidMetH_plain _ _ _ (by simp [hd2])] at h2
    exact iface_laid (g := 2) (t := 93) (by kernel_rfl) (by kernel_rfl) Tryd.underlying93 h2
  · have h2 := hL.filter (fun x => x.1 == "internal/strconv.uint64pow10")
    rw [show L.filter (fun x => x.1 == "internal/strconv.uint64pow10") = _ from hf, MakeChecks.laidMetH_plain _ _ _ (by kernel_rfl)] at h2
    exact Lib.tabIs_of_head (g := 5) (t := 187) (e := 98) (n := 20) (by kernel_rfl) (by kernel_rfl) Tryd.underlying187 Tryd.underlying98 (by kernel_rfl) (by kernel_rfl) h2
end Go.Proofs.YtklcfmmnibcobaaDoor
