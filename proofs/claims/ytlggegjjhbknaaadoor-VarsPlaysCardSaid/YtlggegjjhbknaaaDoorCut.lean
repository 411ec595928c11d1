import Derived.Test.YtlggegjjhbknaaaDoorRows
import Derived.Test.YtlggegjjhbknaaaDoorShelf
import Derived.Test.YtlggegjjhbknaaaDoorMath
import Derived.Test.YtlggegjjhbknaaaDoorStrPl
import Derived.WalkKit
import Derived.WalkSpells
import Derived.WalkLawsBesides
import Derived.Deep.QuietTactic
import Derived.BigQuiet
import Derived.Lib.Hide
namespace Go.Proofs.YtlggegjjhbknaaaDoor
open Go.RowKit Go.Shelf Go.Lib

def moreSet : ByteArray := ⟨#[97, 98, 99, 100, 101, 102, 103, 104, 105, 106, 107, 108, 109, 110, 111, 112, 113, 114, 115, 116, 117, 118, 119, 120, 121, 122, 48, 49, 50, 51, 52, 53, 54, 55, 56, 57, 95]⟩

/-- the cell of the library's MaxLen holds some number -/
def ML (w : World) : Prop := ∃ m, w.cell? ⟨0, 0, none⟩ = some (.int .i64 m)

theorem ext_eq (s : ByteArray) (a b : Nat) : s.extract a b = ⟨((s.data.toList.drop a).take (b - a)).toArray⟩ := by
  apply ByteArray.ext
  apply Array.ext'
  simp [ByteArray.data_extract, List.take_drop]

set_option maxHeartbeats 400000 in
theorem cut_sign (s : ByteArray) (w : World) (hp : Lib.hasPrefix s.data.toList [36] = true) (h1 : 1 ≤ s.size) :
    Calls Tryd.prog 34 #[.string s] w fun e w' => e = .returned (.tuple #[.string ⟨#[36]⟩, .string (s.extract 1 s.size), .bool true]) ∧ ∃ n, w' = w.drewN n := by
  go_enter Tryd.func34, Tryd.ntmps34
  go_wp2_with (go_at_call 39; refine (Tryd.strings_HasPrefix _ _ _).mono ?_; rintro e w' ⟨rfl, rfl⟩)
  go_region
  go_wp2
  go_ret3
  exact ⟨rfl, 1, rfl⟩

set_option maxHeartbeats 400000 in
theorem cut_empty (w : World) :
    Calls Tryd.prog 34 #[.string ⟨#[]⟩] w fun e w' => e = .returned (.tuple #[.string ⟨#[]⟩, .string ⟨#[]⟩, .bool false]) ∧ w' = w := by
  have hp : Lib.hasPrefix ([] : List UInt8) [36] = false := rfl
  go_enter Tryd.func34, Tryd.ntmps34
  go_wp2_with (go_at_call 39; refine (Tryd.strings_HasPrefix _ _ _).mono ?_; rintro e w' ⟨rfl, rfl⟩)
  go_ret3
  exact ⟨rfl, rfl⟩

def smallL : List UInt8 := [97, 98, 99, 100, 101, 102, 103, 104, 105, 106, 107, 108, 109, 110, 111, 112, 113, 114, 115, 116, 117, 118, 119, 120, 121, 122]

set_option maxHeartbeats 400000 in
theorem cut_other (s : ByteArray) (w : World) (hw : ML w) (hp : Lib.hasPrefix s.data.toList [36] = false) (h1 : 1 ≤ s.size) (hc : Lib.contains smallL (List.take 1 s.data.toList) = false) :
    Calls Tryd.prog 34 #[.string s] w fun e w' => e = .returned (.tuple #[.string ⟨#[]⟩, .string ⟨#[]⟩, .bool false]) ∧ w' = w := by
  unfold smallL at hc
  obtain ⟨m, hm⟩ := hw
  have he : s.toList.isEmpty = false := by
    rw [Lib.toList_data]
    cases h : s.data.toList with
    | nil =>
      have : s.data.toList.length = s.size := by simp
      rw [h] at this; simp at this; omega
    | cons a l => rfl
  go_enter Tryd.func34, Tryd.ntmps34
  go_wp2_with (first | (go_at_call 39; refine (Tryd.strings_HasPrefix _ _ _).mono ?_; rintro e w' ⟨rfl, rfl⟩) | (go_at_call 40; refine (Tryd.strings_Contains _ _ m _ (by decide) hm).mono ?_; rintro e w' ⟨rfl, rfl⟩))
  go_ret3
  exact ⟨rfl, rfl⟩

theorem trim_le (l c : List UInt8) : (Lib.trimLeftS l c).length ≤ l.length := (List.dropWhile_sublist _).length_le

set_option maxHeartbeats 400000 in
theorem cut_name (s : ByteArray) (w : World) (hs0 : s.size < 4294967281) (hw : ML w) (hp : Lib.hasPrefix s.data.toList [36] = false) (h1 : 1 ≤ s.size) (hc : Lib.contains smallL (List.take 1 s.data.toList) = true) :
    Calls Tryd.prog 34 #[.string s] w fun e w' => e = .returned (.tuple #[.string (s.extract 0 (s.size - (Lib.trimLeftS s.data.toList moreSet.data.toList).length)), .string ⟨(Lib.trimLeftS s.data.toList moreSet.data.toList).toArray⟩, .bool true]) ∧ Below w.heap.size w w' := by
  unfold smallL at hc
  obtain ⟨m, hm⟩ := hw
  have he : s.toList.isEmpty = false := by
    rw [Lib.toList_data]
    cases h : s.data.toList with
    | nil =>
      have : s.data.toList.length = s.size := by simp
      rw [h] at this; simp at this; omega
    | cons a l => rfl
  have ht := fun w => Any.strings_TrimLeft_laid Tryd.lays161 (by kernel_rfl) s moreSet w (by decide) (ascii_of_all (by decide))
  have hle := trim_le s.data.toList moreSet.data.toList
  have hsz : (⟨(Lib.trimLeftS s.data.toList moreSet.data.toList).toArray⟩ : ByteArray).size = (Lib.trimLeftS s.data.toList moreSet.data.toList).length := by simp [ByteArray.size]
  rw [← hsz] at hle ⊢
  generalize (⟨(Lib.trimLeftS s.data.toList moreSet.data.toList).toArray⟩ : ByteArray) = r at ht hle ⊢
  have hle2 : r.size ≤ s.size := by simpa using hle
  clear hle hsz
  change ∀ w, Calls Tryd.prog 41 #[.string s, .string moreSet] w _ at ht

  have HT := Lib.hid ht
  clear ht
  go_enter Tryd.func34, Tryd.ntmps34
  go_wp2_with (first | (go_at_call 39; refine (Tryd.strings_HasPrefix _ _ _).mono ?_; rintro e w' ⟨rfl, rfl⟩) | (go_at_call 40; refine (Tryd.strings_Contains _ _ m _ (by decide) hm).mono ?_; rintro e w' ⟨rfl, rfl⟩) | (go_at_call 41; refine (HT.out _).mono ?_; rintro e w' ⟨rfl, hb⟩))
  go_ret3
  exact ⟨rfl, hb⟩

theorem u8_all {p : UInt8 → Prop} (h : ∀ n : Fin 256, p (UInt8.ofNat n.val)) (c : UInt8) : p c := by
  have := h ⟨c.toNat, c.toNat_lt⟩
  simpa using this

theorem small_is (c : UInt8) : Lib.contains smallL [c] = VM.small c := by
  rw [SP.contains_one]
  revert c
  exact u8_all (by decide +kernel)

theorem more_is : (fun c => moreSet.data.toList.contains c) = VM.more := by
  funext c
  revert c
  exact u8_all (by decide +kernel)

/-- vars.cut, whatever the text. -/
theorem cut_any (t : List UInt8) (w : World) (hs0 : t.length < 4294967281) (hw : ML w) :
    Calls Tryd.prog 34 #[.string ⟨t.toArray⟩] w fun e w' => e = .returned (.tuple #[.string ⟨(VM.cutS t).1.toArray⟩, .string ⟨(VM.cutS t).2.1.toArray⟩, .bool (VM.cutS t).2.2]) ∧ Below w.heap.size w w' := by
  cases t with
  | nil => exact (cut_empty w).mono fun e w' ⟨he, hw⟩ => ⟨he, hw ▸ Below.refl _ _⟩
  | cons c r =>
    by_cases h36 : c = 36
    · subst h36
      refine (cut_sign ⟨(36 :: r).toArray⟩ w (by simp [Lib.hasPrefix]) (by simp [ByteArray.size])).mono fun e w' ⟨he, n, hw⟩ => ⟨?_, hw ▸ below_drewN (Below.refl _ _) n⟩
      rw [he, ext_eq]
      simp [VM.cutS, ByteArray.size]
    · have hp : Lib.hasPrefix (⟨(c :: r).toArray⟩ : ByteArray).data.toList [36] = false := by
        simp [Lib.hasPrefix, List.isPrefixOf, Ne.symm h36]
      have h1 : 1 ≤ (⟨(c :: r).toArray⟩ : ByteArray).size := by simp [ByteArray.size]
      have ht : List.take 1 (⟨(c :: r).toArray⟩ : ByteArray).data.toList = [c] := by simp
      by_cases hs : VM.small c = true
      · refine (cut_name ⟨(c :: r).toArray⟩ w (by simpa [ByteArray.size] using hs0) hw hp h1 (by rw [ht, small_is, hs])).mono fun e w' ⟨he, hb⟩ => ⟨?_, hb⟩
        have e1 : Lib.trimLeftS (⟨(c :: r).toArray⟩ : ByteArray).data.toList moreSet.data.toList = (c :: r).dropWhile VM.more := by
          unfold Lib.trimLeftS
          rw [more_is]
        have e2 := congrArg List.length (List.takeWhile_append_dropWhile (p := VM.more) (l := c :: r))
        rw [List.length_append] at e2
        have e3 : (c :: r).take (((c :: r).takeWhile VM.more).length) = (c :: r).takeWhile VM.more := by
          have := List.take_left' (l₁ := (c :: r).takeWhile VM.more) (l₂ := (c :: r).dropWhile VM.more) (i := ((c :: r).takeWhile VM.more).length) rfl
          rwa [List.takeWhile_append_dropWhile] at this
        rw [he, e1, ext_eq]
        simp only [VM.cutS, if_neg h36, if_pos hs]
        have e4 : (⟨(c :: r).toArray⟩ : ByteArray).size - ((c :: r).dropWhile VM.more).length - 0 = ((c :: r).takeWhile VM.more).length := by
          have : (⟨(c :: r).toArray⟩ : ByteArray).size = (c :: r).length := by simp [ByteArray.size]
          rw [this]; omega
        rw [e4, List.drop_zero, e3]
      · have hs' : VM.small c = false := by simpa using hs
        refine (cut_other ⟨(c :: r).toArray⟩ w hw hp h1 (by rw [ht, small_is, hs'])).mono fun e w' ⟨he, hb⟩ => ⟨?_, hb ▸ Below.refl _ _⟩
        rw [he]
        simp [VM.cutS, h36, hs']
end Go.Proofs.YtlggegjjhbknaaaDoor
