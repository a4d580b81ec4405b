/- How a row of ranges reads, in plain words: a list of ranges; a place of it, read off the memory. -/
import Derived.Test.YtbalmnkbodcigaaGreatDoorProg
import Derived.Test.YtbalmnkbodcigaaGreatDoorHandWords
import Derived.Test.YtbalmnkbodcigaaGreatDoorRangeOpen
import Derived.Deep.Slices
import Derived.Deep.Strs
import Derived.ChangeArms
set_option linter.unusedSimpArgs false
set_option linter.unusedVariables false
namespace Go.Proofs.YtbalmnkbodcigaaGreatDoor.RangeRow
open Go Go.RowKit Go.Maps Go.Proofs.YtbalmnkbodcigaaGreatDoorW.PrintWords

structure Rng where
  six : Bool
  hi : Int
  lo : Int
  bits : Int
def Rng.val (x : Rng) : Value := .agg #[.bool x.six, .int .u64 x.hi, .int .u64 x.lo, .int .i64 x.bits]
def Rng.in_ (x : Rng) : Prop := RangeOpen.u64 x.hi ∧ RangeOpen.u64 x.lo ∧ RangeOpen.i64 x.bits
def kR : Kd Rng := Kd.iso (Kd.pair Kd.bool (Kd.pair (Kd.int .u64) (Kd.pair (Kd.int .u64) (Kd.int .i64)))) (fun x : Rng => (x.six, x.hi, x.lo, x.bits))
def zR : Rng := ⟨false, 0, 0, 0⟩
theorem kR_open {w : World} {x : Rng} {cs : List Value} (h : kR.K w x cs) : cs = [.bool x.six, .int .u64 x.hi, .int .u64 x.lo, .int .i64 x.bits] := by
  obtain ⟨_, _, rfl, rfl, _, _, rfl, rfl, _, _, rfl, rfl, rfl⟩ := h
  rfl
theorem kR_mk (w : World) (x : Rng) : kR.K w x [.bool x.six, .int .u64 x.hi, .int .u64 x.lo, .int .i64 x.bits] := ⟨[_], [_, _, _], rfl, rfl, [_], [_, _], rfl, rfl, [_], [_], rfl, rfl, rfl⟩
def rd_R (xs : List Rng) (i : Int) : Rng := xs.getD i.toNat zR
theorem at_R {w : World} {A : Option Addr} {n : Nat} {xs : List Rng} (h : Kd.C kR w A n xs) (i : Int) (h0 : 0 ≤ i) (h1 : i < n) : ∃ ad, A = some ad ∧ w.cell? (ad.add (i.toNat * 4)) = some (.bool (rd_R xs i).six) ∧ w.cell? ⟨(ad.add (i.toNat * 4)).block, (ad.add (i.toNat * 4)).off + 1, none⟩ = some (.int .u64 (rd_R xs i).hi) ∧
    w.cell? ⟨(ad.add (i.toNat * 4)).block, (ad.add (i.toNat * 4)).off + 2, none⟩ = some (.int .u64 (rd_R xs i).lo) ∧ w.cell? ⟨(ad.add (i.toNat * 4)).block, (ad.add (i.toNat * 4)).off + 3, none⟩ = some (.int .i64 (rd_R xs i).bits) := by
  obtain ⟨ad, c, e, _, hK, hc0⟩ := Kd.C_get h zR i h0 h1
  have hc : ∀ j u, c[j]? = some u → w.cell? (ad.add (i.toNat * 4 + j)) = some u := hc0
  obtain rfl := kR_open hK
  exact ⟨ad, e, hc 0 _ rfl, by rw [← add_field _ _ 1 (by omega)]; exact hc 1 _ rfl, by rw [← add_field _ _ 2 (by omega)]; exact hc 2 _ rfl, by rw [← add_field _ _ 3 (by omega)]; exact hc 3 _ rfl⟩
theorem list4 {α : Type} {cs : List α} (h : cs.length = 4) : ∃ a b c d, cs = [a, b, c, d] := by
  match cs, h with
  | [a, b, c, d], _ => exact ⟨a, b, c, d, rfl⟩
section
variable {H : Type} {enc : TypeId × Value → H} {w : World} {base : Nat} {spare : Nat → Bool} {held : Bool}
set_option maxRecDepth 100000 in
theorem open_ranges {a : Option Addr} {len cap : Nat} {x : DataW H × List MemPlace} (h : ∃ fuel, DataW.trod enc Tryz.prog w base spare held fuel 27 [.slice a len cap] = some x) : ∃ l : List Rng, l.length = len ∧ len ≤ cap ∧ Kd.C kR w a len l ∧ ∀ q ∈ l, q.in_ := by
  obtain ⟨fuel, hf⟩ := h
  rcases Deep.open_slice Tryz.underlying27 hf with ⟨hcs, _⟩ | ⟨ad, len', cap', m, n, D, Pl, hcs, hb, hl, hm, hmm, _, hx⟩
  · simp only [List.cons.injEq, Value.slice.injEq, and_true] at hcs
    obtain ⟨rfl, rfl, rfl⟩ := hcs
    exact ⟨[], rfl, Nat.le_refl _, ⟨rfl, by decide, fun h => by omega⟩, fun q hq => by cases hq⟩
  · simp only [List.cons.injEq, Value.slice.injEq, and_true] at hcs
    obtain ⟨rfl, rfl, rfl⟩ := hcs
    have hlm : len ≤ m := by rw [hmm]; split <;> omega
    have ce : Tryz.prog.cellsOf 26 = 4 := by kernel_rfl
    have c3 : Tryz.prog.cellsOf 24 = 3 := by kernel_rfl
    have ci : Tryz.prog.cellsOf 3 = 1 := by kernel_rfl
    have each : ∀ i, i < len → ∃ q : Rng, w.cell? (ad.add (i * 4)) = some (.bool q.six) ∧ w.cell? (ad.add (i * 4 + 1)) = some (.int .u64 q.hi) ∧ w.cell? (ad.add (i * 4 + 2)) = some (.int .u64 q.lo) ∧ w.cell? (ad.add (i * 4 + 3)) = some (.int .i64 q.bits) ∧ q.in_ := by
      intro i hi
      obtain ⟨cs', c1, c2⟩ := hx i (by omega)
      rw [ce] at c1
      obtain ⟨_, hlen, hcell⟩ := World.cells?_some c1
      obtain ⟨y0, y1, n', _, _, t0, t1⟩ := ChangeShapes.trod_struct2 Tryz.underlying26 c2
      obtain ⟨u0, u1, u2, u3, rfl⟩ := list4 hlen
      simp only [c3, ci, List.drop_zero, List.drop_succ_cons, List.take_succ_cons, List.take_zero] at t0 t1
      have e0 := hcell 0 (by omega)
      have e1 := hcell 1 (by omega)
      have e2 := hcell 2 (by omega)
      have e3 := hcell 3 (by omega)
      rw [Deep.add_add] at e0 e1 e2 e3
      obtain ⟨six, hi_, lo, e, v1, v2⟩ := RangeOpen.addr_cells t0
      simp only [List.cons.injEq, and_true] at e
      obtain ⟨rfl, rfl, rfl⟩ := e
      obtain ⟨k3, g3, _, gw⟩ := DataW.trod_int Tryz.underlying3 t1
      simp only [List.cons.injEq, and_true] at g3
      subst g3
      exact ⟨⟨six, hi_, lo, k3⟩, e0, e1, e2, e3, v1, v2, RangeOpen.wf_i64 gw⟩
    haveI : Inhabited Rng := ⟨zR⟩
    obtain ⟨q, hq⟩ := Deep.choose_lt each
    refine ⟨(List.range len).map q, by simp, hl, ⟨by simp, by unfold maxLen at hm; omega, fun _ => ⟨ad, rfl, fun j p hj => ?_⟩⟩, fun z hz => by obtain ⟨j, hj, rfl⟩ := List.mem_map.1 hz; exact (hq j (List.mem_range.1 hj)).2.2.2.2⟩
    have hj2 : j < len := by
      have := (List.getElem?_eq_some_iff.1 hj).1
      simpa using this
    have hp : p = q j := by
      rw [List.getElem?_map, List.getElem?_range hj2] at hj
      exact (Option.some.inj hj).symm
    subst hp
    obtain ⟨g0, g1, g2, g3, _⟩ := hq j hj2
    refine ⟨[.bool (q j).six, .int .u64 (q j).hi, .int .u64 (q j).lo, .int .i64 (q j).bits], rfl, kR_mk _ _, fun i u hu => ?_⟩
    match i, hu with
    | 0, hu => rw [← (Option.some.inj hu : _ = u)]; exact g0
    | 1, hu => rw [← (Option.some.inj hu : _ = u)]; exact g1
    | 2, hu => rw [← (Option.some.inj hu : _ = u)]; exact g2
    | 3, hu => rw [← (Option.some.inj hu : _ = u)]; exact g3
end
end Go.Proofs.YtbalmnkbodcigaaGreatDoor.RangeRow
