/- How an array of eight 16-bit numbers that came in reads. -/
import Derived.Test.YtilobbjnmnnmnaaDoorProg
import Derived.Test.YtilobbjnmnnmnaaDoorHandWords
import Derived.Lib.SmallJoins
import Derived.Deep.Strs
import Derived.ProofKit
import Derived.OpenShut
set_option linter.unusedSimpArgs false
set_option linter.unusedVariables false
namespace Go.Proofs.YtilobbjnmnnmnaaDoor.ArrOpen
open Go Go.RowKit Go.ChangeShapes Go.WideShapes Go.ChangeAt Go.Joins Go.Deep

theorem wf_u16 {n : Int} (h : (Lit.int .u16 n).wf = true) : 0 ≤ n ∧ n < 65536 := by
  simp [Lit.wf, IntKind.min, IntKind.max, IntKind.signed, IntKind.bits] at h
  omega
theorem list8 {α : Type} {cs : List α} (h : cs.length = 8) : ∃ a b c d e f g i, cs = [a, b, c, d, e, f, g, i] := by
  match cs, h with
  | [a, b, c, d, e, f, g, i], _ => exact ⟨a, b, c, d, e, f, g, i, rfl⟩
section
variable {H : Type} {enc : TypeId × Value → H} {w : World} {base : Nat} {spare : Nat → Bool} {held : Bool}
set_option maxRecDepth 100000 in
theorem open_u16x8 {r : Reach} {b0 : Nat} {v : Value} {d : DataW H} {p : List MemPlace} (hv : Value.okWide Tryd.prog w r b0 44 v) (h : DataW.Trod enc Tryd.prog w base spare held 44 v d p) :
    ∃ a0 a1 a2 a3 a4 a5 a6 a7 : Int, v = .agg #[.int .u16 a0, .int .u16 a1, .int .u16 a2, .int .u16 a3, .int .u16 a4, .int .u16 a5, .int .u16 a6, .int .u16 a7] ∧ ∀ x ∈ [a0, a1, a2, a3, a4, a5, a6, a7], 0 ≤ x ∧ x < 65536 := by
  obtain ⟨cs, rfl, hsz⟩ : ∃ cs : Array Value, v = .agg cs ∧ cs.size = 8 := by
    simp only [Value.okWide, Tryd.underlying44] at hv
    obtain ⟨cs, h1, h2, _⟩ := hv
    exact ⟨cs, h1, h2.trans (by kernel_rfl)⟩
  obtain ⟨l⟩ := cs
  have hl : l.length = 8 := hsz
  obtain ⟨fuel, hf⟩ := h
  obtain ⟨xs, m, _, _, _, hxl, hx⟩ := DataW.trod_array Tryd.underlying44 hf
  have c1 : Tryd.prog.cellsOf 43 = 1 := by kernel_rfl
  have hg : ∀ (i : Nat) (c : Value), i < 8 → l[i]? = some c → ∃ a : Int, c = .int .u16 a ∧ 0 ≤ a ∧ a < 65536 := by
    intro i c hi hc
    have hi2 := hx i hi
    rw [c1, Nat.mul_one] at hi2
    have he : List.take 1 (List.drop i (Value.agg ⟨l⟩).cells.toList) = [c] := by
      show List.take 1 (List.drop i l) = [c]
      have hlt := (List.getElem?_eq_some_iff.1 hc).1
      rw [List.drop_eq_getElem_cons hlt, (List.getElem?_eq_some_iff.1 hc).2]
      rfl
    rw [he, List.getElem?_eq_getElem (by omega)] at hi2
    obtain ⟨x, e, _, k⟩ := DataW.trod_int Tryd.underlying43 hi2
    simp only [List.cons.injEq, and_true] at e
    exact ⟨x, e, wf_u16 k⟩
  obtain ⟨q0, q1, q2, q3, q4, q5, q6, q7, rfl⟩ := list8 hl
  obtain ⟨a0, rfl, z0⟩ := hg 0 _ (by decide) rfl
  obtain ⟨a1, rfl, z1⟩ := hg 1 _ (by decide) rfl
  obtain ⟨a2, rfl, z2⟩ := hg 2 _ (by decide) rfl
  obtain ⟨a3, rfl, z3⟩ := hg 3 _ (by decide) rfl
  obtain ⟨a4, rfl, z4⟩ := hg 4 _ (by decide) rfl
  obtain ⟨a5, rfl, z5⟩ := hg 5 _ (by decide) rfl
  obtain ⟨a6, rfl, z6⟩ := hg 6 _ (by decide) rfl
  obtain ⟨a7, rfl, z7⟩ := hg 7 _ (by decide) rfl
  refine ⟨a0, a1, a2, a3, a4, a5, a6, a7, rfl, fun x hx => ?_⟩
  simp only [List.mem_cons, List.not_mem_nil, or_false] at hx
  rcases hx with rfl | rfl | rfl | rfl | rfl | rfl | rfl | rfl <;> assumption
end
end Go.Proofs.YtilobbjnmnnmnaaDoor.ArrOpen
