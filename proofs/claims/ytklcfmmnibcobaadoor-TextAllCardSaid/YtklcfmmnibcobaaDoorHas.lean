import Derived.Test.YtklcfmmnibcobaaDoorTx3
import Derived.Test.YtklcfmmnibcobaaDoorShelf
import Derived.Lib.IndexLaws
import Derived.Lib.IndexMore
namespace Go.Proofs.YtklcfmmnibcobaaDoor
open Go.RowKit Go.Lib


set_option maxHeartbeats 2000000 in
theorem has_any (s p : ByteArray) (w : World) (hm : ML w) (hs : s.size ≤ 100000) (hp : p.size ≤ 100000) :
    Calls Tryd.prog 28 #[.string s, .string p] w fun e w' => e = .returned (.bool (hasB s.data.toList p.data.toList)) ∧ Below w.heap.size w w' := by
  have HM := Lib.hid hm
  clear hm
  go_enter Tryd.func28, Tryd.ntmps28
  go_wp2_with fail
  refine (upper_any s w hs).mono ?_
  rintro e w1 ⟨rfl, hb1⟩
  have HB1 := Lib.hid hb1
  clear hb1
  go_wp2_with fail
  refine (upper_any p w1 hp).mono ?_
  rintro e w2 ⟨rfl, hb2⟩
  have HB2 := Lib.hid (chain HB1.out hb2)
  clear hb2
  obtain ⟨m, hm⟩ := HM.out.below HB2.out (ML.pos HM.out)
  have hc := Tryd.strings_Contains ⟨(s.data.toList.map up).toArray⟩ ⟨(p.data.toList.map up).toArray⟩ m w2 (by rw [show (⟨(s.data.toList.map up).toArray⟩ : ByteArray).size = s.size from (List.length_map up).trans (Array.length_toList (xs := s.data))]; omega) hm
  have HC := Lib.hid hc
  clear hc hm
  go_wp2_with fail
  refine HC.out.mono ?_
  rintro e w3 ⟨rfl, rfl⟩
  go_wp2_with fail
  go_ret
  exact ⟨rfl, HB2.out⟩
end Go.Proofs.YtklcfmmnibcobaaDoor
