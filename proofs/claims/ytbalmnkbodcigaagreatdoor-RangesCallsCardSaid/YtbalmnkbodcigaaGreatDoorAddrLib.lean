/- What the functions of Go's library that addresses are read by come to: cutting a string at one octet, an octet's place, small letters of ASCII: out of the shelf's contracts. Strings shorter than 4294967281 octets. -/
import Derived.Test.YtbalmnkbodcigaaGreatDoorHandWords
import Derived.Test.YtbalmnkbodcigaaGreatDoorShelf
import Derived.Test.YtbalmnkbodcigaaGreatDoorWMore
import Derived.Shelf.Strings.SplitCore
import Derived.Shelf.Strings.Search3
import Derived.Shelf.Strings.Count
import Derived.Lib.SplitLaws
import Derived.Lib.IndexBytes
import Derived.WalkKit
namespace Go.Proofs.YtbalmnkbodcigaaGreatDoor.AddrLib
open Go.Shelf Go.RowKit Go.Lib Go.Proofs.YtbalmnkbodcigaaGreatDoorW.PrintWords Go.Proofs.YtbalmnkbodcigaaGreatDoorW.PrintLast Go.Proofs.YtbalmnkbodcigaaGreatDoorW.PrintMore

def oneS (c : UInt8) : ByteArray := ⟨#[c]⟩
theorem index_one_ (s : ByteArray) (c : UInt8) (w : World) : Calls Tryz.prog 68 #[.string s, .string (oneS c)] w fun e w' => e = .returned (.int .i64 (Lib.indexB s (oneS c))) ∧ w' = w := by
  have h : Lib.indexB s (oneS c) = Lib.indexByte s.data.toList c := Lib.index_one _ c
  rw [h]
  exact Any.strings_Index_one Tryz.lays143 s c w
theorem lindex_one_ (s : ByteArray) (c : UInt8) (w : World) : Calls Tryz.prog 65 #[.string s, .string (oneS c)] w fun e w' => e = .returned (.int .i64 (Lib.indexB s (oneS c))) ∧ w' = w := by
  have h : Lib.indexB s (oneS c) = Lib.indexByte s.data.toList c := Lib.index_one _ c
  rw [h]
  exact Any.stringslite_Index_one { Tryz.lays143 with } s c w
theorem count_byte_ : ∀ (l : List UInt8) (c : UInt8), Lib.countByte l c = ((l.count c : Nat) : Int) := by
  intro l c
  first | rfl | (unfold Lib.countByte; rfl)
theorem count_one_ (s : ByteArray) (c : UInt8) (w : World) : Calls Tryz.prog 100 #[.string s, .string (oneS c)] w fun e w' => e = .returned (.int .i64 (Lib.countB s (oneS c))) ∧ w' = w := by
  have h : ((Lib.countB s (oneS c) : Nat) : Int) = Lib.countByte s.data.toList c := by
    rw [count_byte_]
    exact congrArg _ (Lib.count_one c s.data.toList)
  rw [h]
  exact Any.strings_Count_one Tryz.lays138 s c w
set_option maxHeartbeats 1000000 in
theorem split_one (s : ByteArray) (c : UInt8) (w : World) (hs : s.size < 4294967281) :
    Calls Tryz.prog 66 #[.string s, .string (oneS c)] w fun e w' =>
      e = .returned (.slice (some ⟨w.heap.size, 0, none⟩) (Lib.countB s (oneS c) + 1) (Lib.countB s (oneS c) + 1)) ∧ w' = w.alloc (.cells ((Lib.splitB (oneS c) 0 (Lib.countB s (oneS c)) s).map Value.string).toArray 9) := by
  have h1 : 1 ≤ (oneS c).size := Nat.le_refl _
  have hle := Lib.countB_le (oneS c) h1 s.size s (Nat.le_refl _)
  have hlen := Lib.splitB_all (oneS c) h1 0 _ s rfl
  have cc : Calls Tryz.prog 84 #[.string s, .string (oneS c), .int .i64 (0 : Nat), .int .i64 (-1)] w fun e w' =>
      e = .returned (.slice (some ⟨w.heap.size, 0, none⟩) (Lib.splitB (oneS c) 0 (Lib.countB s (oneS c) + 1 - 1) s).length (Lib.countB s (oneS c) + 1)) ∧ w' = w.alloc (.cells (Lib.cellsOf (Lib.splitB (oneS c) 0 (Lib.countB s (oneS c) + 1 - 1) s) (Lib.countB s (oneS c) + 1)) 9) :=
    Any.strings_genSplit_core { Tryz.lays146 with } (by kernel_rfl) s (oneS c) 0 (-1) (Lib.countB s (oneS c) + 1) w hs h1 (Nat.zero_le _) (fun x _ _ => index_one_ x c _) (count_one_ s c w) (by decide) (by decide) (by rw [if_pos (by decide)]; omega)
  rw [Nat.add_sub_cancel, hlen] at cc
  have e2 : Lib.cellsOf (Lib.splitB (oneS c) 0 (Lib.countB s (oneS c)) s) (Lib.countB s (oneS c) + 1) = ((Lib.splitB (oneS c) 0 (Lib.countB s (oneS c)) s).map Value.string).toArray := by rw [← hlen]; exact Lib.cellsOf_full _
  rw [e2] at cc
  have HC := Aside0.mk cc
  clear cc e2 hlen hle h1
  go_enter Tryz.func66, Tryz.ntmps66
  go_wp2_with (go_at_call 84; refine HC.out.mono ?_; rintro e w' ⟨rfl, hw⟩; rw [hw])
  go_ret
  exact ⟨rfl, rfl⟩
theorem split_row (s : ByteArray) (c : UInt8) (w : World) (hs : s.size < 4294967281) :
    Calls Tryz.prog 66 #[.string s, .string (oneS c)] w fun e w' => ∃ v0_ : Value, e = .returned (v0_) ∧ Kd.R Kd.string 9 w' w.heap.size (fun _ => True) v0_ (Lib.splitB (oneS c) 0 (Lib.countB s (oneS c)) s) ∧ Below w.heap.size w w' := by
  have hle := Lib.countB_le (oneS c) (Nat.le_refl _) s.size s (Nat.le_refl _)
  have hlen := Lib.splitB_all (oneS c) (Nat.le_refl _) 0 _ s rfl
  refine (split_one s c w hs).mono ?_
  rintro e w' ⟨rfl, rfl⟩
  refine ⟨_, rfl, ?_, (Below.refl _ _).alloc (Nat.le_refl _) _⟩
  refine Kd.R_of_own (h1 := fun _ => rfl) ?_ (fun _ _ => trivial)
  rw [hlen]
  refine ⟨?_, .inr ⟨w.heap.size, Lib.countB s (oneS c) + 1, _, rfl, Nat.le_refl _, heap_alloc_new w _, Nat.le_refl _, by unfold maxLen; omega, ?_, ?_⟩⟩
  · show ((Lib.splitB (oneS c) 0 (Lib.countB s (oneS c)) s).map Value.string).length = _
    rw [List.length_map, hlen, Nat.mul_one]
  · rw [List.size_toArray, List.length_map, hlen, Nat.mul_one]
  · rw [Nat.mul_one, List.take_of_length_le (by rw [List.length_map, hlen]; exact Nat.le_refl _)]
    rfl
/-- Cutting at the first such octet. -/
theorem lcut_one (s : ByteArray) (c : UInt8) (w : World) (hs : s.size < 4294967281) :
    Calls Tryz.prog 44 #[.string s, .string (oneS c)] w fun e w' => e = .returned (.tuple #[.string ⟨(Lib.cut s.data.toList [c]).1.toArray⟩, .string ⟨(Lib.cut s.data.toList [c]).2.1.toArray⟩, .bool (Lib.cut s.data.toList [c]).2.2]) ∧ Drawn0 w w' := by
  have e1s : (oneS c).size = 1 := rfl
  rcases Lib.indexB_cases s (oneS c) with hix | ⟨i, hix, hroom⟩
  · obtain ⟨e1, e2, e3⟩ := Lib.cutB_miss s (oneS c) hix
    rw [show [c] = (oneS c).data.toList from rfl, e1, e2, e3]
    have HX := Aside0.mk hix
    clear hix e1 e2 e3
    go_enter Tryz.func44, Tryz.ntmps44
    go_wp2_with (go_at_call 65; refine (lindex_one_ s c _).mono ?_; rintro e w' ⟨rfl, rfl⟩; rw [HX.out])
    go_ret3
    exact ⟨rfl, Drawn0.refl _⟩
  · obtain ⟨e1, e2, e3⟩ := Lib.cutB_hit s (oneS c) i hix
    rw [show [c] = (oneS c).data.toList from rfl, e1, e2, e3]
    have c1 : (0 : Int) ≤ ↑i := by omega
    have c2 : (↑i : Int) ≤ ↑s.size := by omega
    have c3 : (0 : Int) ≤ ↑i + 1 := by omega
    have c4 : (↑i + 1 : Int) ≤ ↑s.size := by omega
    have c5 : i + 1 ≤ s.size := by omega
    have HX := Aside0.mk hix
    clear hix e1 e2 e3
    go_enter Tryz.func44, Tryz.ntmps44
    go_wp2_with (go_at_call 65; refine (lindex_one_ s c _).mono ?_; rintro e w' ⟨rfl, rfl⟩; rw [HX.out])
    go_region
    go_wp2
    go_ret3
    exact ⟨rfl, ⟨⟨1, rfl⟩⟩⟩
theorem cut_one (s : ByteArray) (c : UInt8) (w : World) (hs : s.size < 4294967281) :
    Calls Tryz.prog 26 #[.string s, .string (oneS c)] w fun e w' => e = .returned (.tuple #[.string ⟨(Lib.cut s.data.toList [c]).1.toArray⟩, .string ⟨(Lib.cut s.data.toList [c]).2.1.toArray⟩, .bool (Lib.cut s.data.toList [c]).2.2]) ∧ Drawn0 w w' := by
  go_enter Tryz.func26, Tryz.ntmps26
  go_wp2_with (go_at_call 44; refine (lcut_one s c _ hs).mono ?_; rintro e w' ⟨rfl, ⟨n, rfl⟩⟩)
  go_ret3
  exact ⟨rfl, ⟨⟨n, rfl⟩⟩⟩
theorem one_of_size {a : ByteArray} (h : a.size = 1) : ∃ c, a = oneS c := by
  obtain ⟨d⟩ := a
  obtain ⟨l⟩ := d
  match l, h with
  | [c], _ => exact ⟨c, rfl⟩
end Go.Proofs.YtbalmnkbodcigaaGreatDoor.AddrLib
