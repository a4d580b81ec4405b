/- How a row of strings reads, in plain words. -/
import Derived.Test.YtfpdmmpjoejmiaaHandUp
import Derived.Deep.Slices
import Derived.Deep.Strs
namespace Go.Proofs.Ytfpdmmpjoejmiaa.Texts
open Go Go.RowKit Go.Maps Go.Proofs.YtfpdmmpjoejmiaaW.PrintWords

section
variable {H : Type} {enc : TypeId × Value → H} {w : World} {base : Nat} {spare : Nat → Bool} {held : Bool}
theorem open_texts {a : Option Addr} {len cap : Nat} {x : DataW H × List MemPlace} (h : ∃ fuel, DataW.trod enc Try.prog w base spare held fuel 23 [.slice a len cap] = some x) : ∃ l : List ByteArray, l.length = len ∧ len ≤ cap ∧ Kd.C Kd.string w a len l := by
  obtain ⟨fuel, hf⟩ := h
  rcases Deep.open_strs Try.underlying23 Try.underlying9 (by kernel_rfl) hf with ⟨hcs, _⟩ | ⟨ad, len', cap', m, S, hcs, hb, hl, hm, hmm, _, hx⟩
  · simp only [List.cons.injEq, Value.slice.injEq, and_true] at hcs
    obtain ⟨rfl, rfl, rfl⟩ := hcs
    exact ⟨[], rfl, Nat.le_refl _, rfl, by decide, fun h => by omega⟩
  · simp only [List.cons.injEq, Value.slice.injEq, and_true] at hcs
    obtain ⟨rfl, rfl, rfl⟩ := hcs
    have hlm : len ≤ m := by rw [hmm]; split <;> omega
    refine ⟨(List.range len).map S, by simp, hl, by simp, by unfold maxLen at hm; omega, fun _ => ⟨ad, rfl, fun j p hj => ?_⟩⟩
    have hj2 : j < len := by
      have := (List.getElem?_eq_some_iff.1 hj).1
      simpa using this
    have hp : p = S j := by
      rw [List.getElem?_map, List.getElem?_range hj2] at hj
      exact (Option.some.inj hj).symm
    subst hp
    refine ⟨[.string (S j)], rfl, rfl, fun i u hu => ?_⟩
    match i, hu with
    | 0, hu =>
      rw [← (Option.some.inj hu : _ = u)]
      show w.cell? (ad.add (j * 1 + 0)) = _
      rw [Nat.mul_one, Nat.add_zero]
      exact (hx j (by omega)).1
end
end Go.Proofs.Ytfpdmmpjoejmiaa.Texts
