/- What addresses' texts ask of the library's variables: MaxLen is some number, the powers of ten lie in their table, one place of the table that TrailingZeros looks into. It stays so behind any call that leaves what was there. And the library's functions that lean on it: Cut, Contains (one or two octets), Itoa. -/
import Derived.Test.YtbalmnkbodcigaaGreatDoorAddrDigits
import Derived.Shelf.Unicode.PredsPay
set_option linter.unusedSimpArgs false
set_option linter.unusedVariables false
namespace Go.Proofs.YtbalmnkbodcigaaGreatDoor.AddrLib
open Go.Shelf Go.RowKit Go.Lib Go.Proofs.YtbalmnkbodcigaaGreatDoorW.PrintWords Go.Proofs.YtbalmnkbodcigaaGreatDoorW.PrintLast Go.Proofs.YtbalmnkbodcigaaGreatDoorW.PrintMore

theorem cut_any (s sep : ByteArray) (w : World) (hg : G w) (hs : s.size < 4294967281) :
    Calls Tryz.prog 26 #[.string s, .string sep] w fun e w' => e = .returned (.tuple #[.string ⟨(Lib.cut s.data.toList sep.data.toList).1.toArray⟩, .string ⟨(Lib.cut s.data.toList sep.data.toList).2.1.toArray⟩, .bool (Lib.cut s.data.toList sep.data.toList).2.2]) ∧ Drawn0 w w' := by
  obtain ⟨m, hm⟩ := hg.m
  refine (Any.strings_Cut Tryz.lays145 s sep m w hs hm).mono ?_
  rintro e w' ⟨rfl, n, rfl⟩
  exact ⟨rfl, ⟨⟨n, rfl⟩⟩⟩
theorem contains_any (s sep : ByteArray) (w : World) (hg : G w) (hs : s.size < 4294967281) :
    Calls Tryz.prog 46 #[.string s, .string sep] w fun e w' => e = .returned (.bool (Lib.contains s.data.toList sep.data.toList)) ∧ Drawn0 w w' := by
  obtain ⟨m, hm⟩ := hg.m
  refine (Any.strings_Contains Tryz.lays144 s sep m w hs hm).mono ?_
  rintro e w' ⟨rfl, rfl⟩
  exact ⟨rfl, Drawn0.refl _⟩
theorem itoa_any (n : Int) (h0 : -9223372036854775808 ≤ n) (h1 : n ≤ 9223372036854775807) (w : World) (hg : G w) :
    Calls Tryz.prog 30 #[.int .i64 n] w fun e w' => e = .returned (.string (mkB (Lib.itoa n))) ∧ Below w.heap.size w w' := by
  refine (Tryz.strconv_Itoa n h0 h1 w hg.pow).mono ?_
  rintro e w' ⟨rfl, k, os, rfl⟩
  refine ⟨rfl, rfl, rfl, rfl, by simp [Sort.grow], fun i hi => ?_⟩
  show ((w.drewN k).heap ++ os)[i]? = _
  rw [Array.getElem?_append_left (by show i < w.heap.size; omega)]
  rfl
end Go.Proofs.YtbalmnkbodcigaaGreatDoor.AddrLib
