import Derived.Test.YtlggegjjhbknaaaDoorVex
namespace Go.Proofs.YtlggegjjhbknaaaDoor
open Go.RowKit Go.Shelf Go.Lib Go.Maps Go.WideMaps

def ExpandEnd (f : KV) (t : Bs) (w : World) (e : Ending) (w' : World) : Prop :=
  e = .returned (.tuple #[.string ⟨((VM.expand f t).getD []).toArray⟩, .bool (VM.expand f t).isSome]) ∧ Below w.heap.size w w'

set_option maxHeartbeats 1000000 in
theorem expand_any {p b n : Nat} {f : KV} {w : World} (h : VarsAt w p b f n) (hm : ML w) (t : Bs) (ht : t.length ≤ 10000) (hf : ∀ k v, f k = some v → v.length ≤ 1000) :
    Calls Tryd.prog 11 #[.pointer (some ⟨p, 0, none⟩), .string ⟨t.toArray⟩] w (ExpandEnd f t w) := by
  have hmf : ∀ (fn : Fn) (first cap : Array Value) (w : World), (Instr.makeFunc fn first cap).run Tryd.prog w = .ok (.func fn first cap) w := fun _ _ _ _ => rfl
  have hb1 : Below w.heap.size w (w.alloc (.cells #[.pointer (some ⟨p, 0, none⟩)] 24)) := (Below.refl _ _).alloc (Nat.le_refl _) _
  have hb2 : Below w.heap.size w ((w.alloc (.cells #[.pointer (some ⟨p, 0, none⟩)] 24)).alloc (.cells #[.pointer none, .slice none 0 0] 52)) := hb1.alloc (by simp) _
  have hp := h.ltp
  have hbb := h.ltb
  have hinv : ExpInv (w.heap.size + 1) w.heap.size p b f n [] ((w.alloc (.cells #[.pointer (some ⟨p, 0, none⟩)] 24)).alloc (.cells #[.pointer none, .slice none 0 0] 52)) := by
    refine ⟨.inl ⟨Nat.le_refl _, .slice none 0 0, ?_, World.ownsRow_nil _ _ _ _, by simp [Value.ownBlock]⟩, ?_, h.below hb2 hp hbb, hm.below hb2 (by omega), by omega, by omega, by omega⟩
    · simpa using heap_alloc_new (w.alloc (.cells #[.pointer (some ⟨p, 0, none⟩)] 24)) (.cells #[.pointer none, .slice none 0 0] 52)
    · rw [Below.heap_alloc _ _ _ (by simp)]
      exact heap_alloc_new _ _
  have he := each_any hinv t ht hf
  have HE := Lib.hid he
  have HI := Lib.hid hinv
  have HB := Lib.hid hb2
  clear he hinv hb1 hb2 h hm hf
  go_enter Tryd.func11, Tryd.ntmps11
  go_wp2_with fail
  refine HE.out.mono ?_
  rintro e w1 ⟨rfl, hr, hb3⟩
  have HR := Lib.hid hr
  have HB3 := Lib.hid hb3
  clear hr hb3
  cases hx : VM.expand f t with
  | none =>
    simp only [Option.isSome_none]
    have HX := Lib.hid hx
    clear hx
    go_wp2_with fail
    go_ret2
    refine ⟨by rw [HX.out]; rfl, HB.out.trans (HB3.out.mono (Nat.le_succ _))⟩
  | some r =>
    simp only [Option.isSome_some]
    have hi := HR.out r hx
    have hs := Tryd.Builder_String_any (w.heap.size + 1) (w.heap.size + 1) r w1 hi.bld (Nat.le_of_lt hi.ltb)
    have HS := Lib.hid hs
    have HX := Lib.hid hx
    clear hx hi hs
    go_wp2_with fail
    refine HS.out.mono ?_
    rintro e w4 ⟨rfl, hb4⟩
    have HB4 := Lib.hid hb4
    clear hb4
    go_wp2_with fail
    go_ret2
    refine ⟨by rw [HX.out]; rfl, HB.out.trans ((HB3.out.trans HB4.out).mono (Nat.le_succ _))⟩
end Go.Proofs.YtlggegjjhbknaaaDoor
