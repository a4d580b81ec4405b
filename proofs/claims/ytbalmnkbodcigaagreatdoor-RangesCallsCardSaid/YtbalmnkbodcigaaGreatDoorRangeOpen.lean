/- How an address and a range that came in read: their numbers, each of its kind. -/
import Derived.Test.YtbalmnkbodcigaaGreatDoorProg
import Derived.Test.YtbalmnkbodcigaaGreatDoorHandWords
import Derived.Lib.SmallJoins
import Derived.Deep.Strs
import Derived.ProofKit
import Derived.OpenShut
set_option linter.unusedSimpArgs false
set_option linter.unusedVariables false
namespace Go.Proofs.YtbalmnkbodcigaaGreatDoor.RangeOpen
open Go Go.RowKit Go.ChangeShapes Go.WideShapes Go.ChangeAt Go.Joins Go.Deep

def u64 (x : Int) : Prop := 0 ≤ x ∧ x < 2 ^ 64
def i64 (x : Int) : Prop := -9223372036854775808 ≤ x ∧ x ≤ 9223372036854775807
theorem wf_u64 {n : Int} (h : (Lit.int .u64 n).wf = true) : u64 n := by
  unfold u64
  simp [Lit.wf, IntKind.min, IntKind.max, IntKind.signed, IntKind.bits] at h
  omega
theorem wf_i64 {n : Int} (h : (Lit.int .i64 n).wf = true) : i64 n := by
  unfold i64
  simp [Lit.wf, IntKind.min, IntKind.max, IntKind.signed, IntKind.bits] at h
  omega
def u32 (x : Int) : Prop := 0 ≤ x ∧ x < 2 ^ 32
theorem wf_u32 {n : Int} (h : (Lit.int .u32 n).wf = true) : u32 n := by
  unfold u32
  simp [Lit.wf, IntKind.min, IntKind.max, IntKind.signed, IntKind.bits] at h
  omega
theorem list3 {α : Type} {cs : List α} (h : cs.length = 3) : ∃ a b c, cs = [a, b, c] := by
  match cs, h with
  | [a, b, c], _ => exact ⟨a, b, c, rfl⟩
section
variable {H : Type} {enc : TypeId × Value → H} {w : World} {base : Nat} {spare : Nat → Bool} {held : Bool}
set_option maxRecDepth 100000 in
theorem addr_cells {fuel : Nat} {cs : List Value} {y : DataW H × List MemPlace} (h : DataW.trod enc Tryz.prog w base spare held fuel 24 cs = some y) : ∃ six hi lo, cs = [.bool six, .int .u64 hi, .int .u64 lo] ∧ u64 hi ∧ u64 lo := by
  obtain ⟨y0, y1, y2, n, _, hl, h0, h1, h2⟩ := trod_struct3 Tryz.underlying24 h
  have c3 : Tryz.prog.cellsOf 24 = 3 := by kernel_rfl
  have cb : Tryz.prog.cellsOf 4 = 1 := by kernel_rfl
  have cu : Tryz.prog.cellsOf 22 = 1 := by kernel_rfl
  rw [c3] at hl
  obtain ⟨a, b, c, rfl⟩ := list3 hl
  simp only [cb, cu, List.drop_zero, List.drop_succ_cons, List.take_succ_cons, List.take_zero] at h0 h1 h2
  obtain ⟨b0, e0, _⟩ := DataW.trod_bool Tryz.underlying4 h0
  obtain ⟨x1, e1, _, k1⟩ := DataW.trod_int Tryz.underlying22 h1
  obtain ⟨x2, e2, _, k2⟩ := DataW.trod_int Tryz.underlying22 h2
  simp only [List.cons.injEq, and_true] at e0 e1 e2
  subst e0 e1 e2
  exact ⟨b0, x1, x2, rfl, wf_u64 k1, wf_u64 k2⟩
set_option maxRecDepth 100000 in
theorem open_range {r : Reach} {b0 : Nat} {v : Value} {d : DataW H} {p : List MemPlace} (hv : Value.okWide Tryz.prog w r b0 26 v) (h : DataW.Trod enc Tryz.prog w base spare held 26 v d p) :
    ∃ six hi lo b, v = .agg #[.bool six, .int .u64 hi, .int .u64 lo, .int .i64 b] ∧ u64 hi ∧ u64 lo ∧ i64 b := by
  obtain ⟨cs, rfl, hsz⟩ := okWide_struct Tryz.underlying26 hv
  have c4 : Tryz.prog.cellsOf 26 = 4 := by kernel_rfl
  have c3 : Tryz.prog.cellsOf 24 = 3 := by kernel_rfl
  have ci : Tryz.prog.cellsOf 3 = 1 := by kernel_rfl
  obtain ⟨c0, c1, c2, c3', rfl⟩ := array4 (hsz.trans c4)
  obtain ⟨fuel, hf⟩ := h
  obtain ⟨y0, y1, n, _, _, h0, h1⟩ := trod_struct2 Tryz.underlying26 hf
  simp only [Value.cells, c3, ci, List.drop_zero, List.drop_succ_cons, List.take_succ_cons, List.take_zero] at h0 h1
  obtain ⟨six, hi, lo, e, u1, u2⟩ := addr_cells h0
  simp only [List.cons.injEq, and_true] at e
  obtain ⟨x, e1, _, k⟩ := DataW.trod_int Tryz.underlying3 h1
  simp only [List.cons.injEq, and_true] at e1
  obtain ⟨rfl, rfl, rfl⟩ := e
  subst e1
  exact ⟨six, hi, lo, x, rfl, u1, u2, wf_i64 k⟩
set_option maxRecDepth 100000 in
theorem open_addr {r : Reach} {b0 : Nat} {v : Value} {d : DataW H} {p : List MemPlace} (hv : Value.okWide Tryz.prog w r b0 24 v) (h : DataW.Trod enc Tryz.prog w base spare held 24 v d p) :
    ∃ six hi lo, v = .agg #[.bool six, .int .u64 hi, .int .u64 lo] ∧ u64 hi ∧ u64 lo := by
  obtain ⟨cs, rfl, hsz⟩ := okWide_struct Tryz.underlying24 hv
  obtain ⟨fuel, hf⟩ := h
  obtain ⟨six, hi, lo, e, u1, u2⟩ := addr_cells hf
  have e2 : cs.toList = [.bool six, .int .u64 hi, .int .u64 lo] := e
  refine ⟨six, hi, lo, ?_, u1, u2⟩
  rw [← Array.toArray_toList (xs := cs), e2]
end
end Go.Proofs.YtbalmnkbodcigaaGreatDoor.RangeOpen
