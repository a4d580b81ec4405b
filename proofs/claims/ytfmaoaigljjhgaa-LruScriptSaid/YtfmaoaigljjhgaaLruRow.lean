/- How a row of acts reads, in plain words: a list of kinds, keys, numbers; and a row of strings. -/
import Derived.Test.YtfmaoaigljjhgaaLru0
import Derived.Deep.Slices
import Derived.Deep.Strs
import Derived.ChangeArms
namespace Go.Proofs.Ytfmaoaigljjhgaa.Lru
open Go Go.RowKit Go.Maps Go.Proofs.YtfmaoaigljjhgaaW.PrintWords

structure Act where
  kind : Int
  key : ByteArray
  v : Int
def kA : Kd Act := Kd.iso (Kd.pair (Kd.int .i64) (Kd.pair Kd.string (Kd.int .i64))) (fun x : Act => (x.kind, x.key, x.v))
def zA : Act := ⟨0, ⟨#[]⟩, 0⟩
theorem kA_open {w : World} {x : Act} {cs : List Value} (h : kA.K w x cs) : cs = [.int .i64 x.kind, .string x.key, .int .i64 x.v] := by
  obtain ⟨_, _, rfl, rfl, _, _, rfl, rfl, rfl⟩ := h
  rfl
def rd_A (xs : List Act) (i : Int) : Act := xs.getD i.toNat zA
theorem at_A {w : World} {A : Option Addr} {n : Nat} {xs : List Act} (h : Kd.C kA w A n xs) (i : Int) (h0 : 0 ≤ i) (h1 : i < n) : ∃ ad , A = some ad ∧ w.cell? (ad.add (i.toNat * 3)) = some (.int .i64 (rd_A xs i).kind) ∧ w.cell? ⟨(ad.add (i.toNat * 3)).block, (ad.add (i.toNat * 3)).off + 1, none⟩ = some (.string (rd_A xs i).key) ∧
    w.cell? ⟨(ad.add (i.toNat * 3)).block, (ad.add (i.toNat * 3)).off + 2, none⟩ = some (.int .i64 (rd_A xs i).v) := by
  obtain ⟨ad, c, e, _, hK, hc0⟩ := Kd.C_get h zA i h0 h1
  have hc : ∀ j u, c[j]? = some u → w.cell? (ad.add (i.toNat * 3 + j)) = some u := hc0
  obtain rfl := kA_open hK
  exact ⟨ad, e, hc 0 _ rfl, by rw [← add_field _ _ 1 (by omega)]; exact hc 1 _ rfl, by rw [← add_field _ _ 2 (by omega)]; exact hc 2 _ rfl⟩
section
variable {H : Type} {enc : TypeId × Value → H} {w : World} {base : Nat} {spare : Nat → Bool} {held : Bool}
theorem open_actsW {a : Option Addr} {len cap : Nat} {x : DataW H × List MemPlace} (h : ∃ fuel, DataW.trod enc Try.prog w base spare held fuel 22 [.slice a len cap] = some x) : ∃ l : List Act, l.length = len ∧ len ≤ cap ∧ Kd.C kA w a len l ∧ ∀ q ∈ l, (Lit.int .i64 q.v).wf = true := by
  obtain ⟨fuel, hf⟩ := h
  rcases Deep.open_slice Try.underlying22 hf with ⟨hcs, _⟩ | ⟨ad, len', cap', m, n, D, Pl, hcs, hb, hl, hm, hmm, _, hx⟩
  · simp only [List.cons.injEq, Value.slice.injEq, and_true] at hcs
    obtain ⟨rfl, rfl, rfl⟩ := hcs
    exact ⟨[], rfl, Nat.le_refl _, ⟨rfl, by decide, fun h => by omega⟩, fun q hq => by cases hq⟩
  · simp only [List.cons.injEq, Value.slice.injEq, and_true] at hcs
    obtain ⟨rfl, rfl, rfl⟩ := hcs
    have hlm : len ≤ m := by rw [hmm]; split <;> omega
    have ce : Try.prog.cellsOf 27 = 3 := by kernel_rfl
    have each : ∀ i, i < len → ∃ q : Act, w.cell? (ad.add (i * 3)) = some (.int .i64 q.kind) ∧ w.cell? (ad.add (i * 3 + 1)) = some (.string q.key) ∧ w.cell? (ad.add (i * 3 + 2)) = some (.int .i64 q.v) ∧ (Lit.int .i64 q.v).wf = true := by
      intro i hi
      obtain ⟨cs', c1, c2⟩ := hx i (by omega)
      rw [ce] at c1
      obtain ⟨_, hlen, hcell⟩ := World.cells?_some c1
      obtain ⟨y0, y1, y2, n', _, _, t0, t1, t2⟩ := Deep.trod_struct3 Try.underlying27 c2
      match cs', hlen with
      | [u0, u1, u2], _ =>
        have e0 := hcell 0 (by omega)
        have e1 := hcell 1 (by omega)
        have e2 := hcell 2 (by omega)
        rw [Deep.add_add] at e0 e1 e2
        obtain ⟨k0, g0, _, _⟩ := DataW.trod_int Try.underlying3 t0
        obtain ⟨s1, g1, _, _⟩ := DataW.trod_string Try.underlying9 t1
        obtain ⟨k2, g2, _, gw⟩ := DataW.trod_int Try.underlying3 t2
        have r0 : u0 = .int .i64 k0 := by injection g0
        have r1 : u1 = .string s1 := by injection g1
        have r2 : u2 = .int .i64 k2 := by injection g2
        exact ⟨⟨k0, s1, k2⟩, by rw [← r0]; exact e0, by rw [← r1]; exact e1, by rw [← r2]; exact e2, gw⟩
    haveI : Inhabited Act := ⟨zA⟩
    obtain ⟨q, hq⟩ := Deep.choose_lt each
    refine ⟨(List.range len).map q, by simp, hl, ⟨by simp, by unfold maxLen at hm; omega, fun _ => ⟨ad, rfl, fun j p hj => ?_⟩⟩, fun z hz => by obtain ⟨j, hj, rfl⟩ := List.mem_map.1 hz; exact (hq j (List.mem_range.1 hj)).2.2.2⟩
    have hj2 : j < len := by
      have := (List.getElem?_eq_some_iff.1 hj).1
      simpa using this
    have hp : p = q j := by
      rw [List.getElem?_map, List.getElem?_range hj2] at hj
      exact (Option.some.inj hj).symm
    subst hp
    obtain ⟨g0, g1, g2, _⟩ := hq j hj2
    refine ⟨[.int .i64 (q j).kind, .string (q j).key, .int .i64 (q j).v], rfl, ⟨[_], [_, _], rfl, rfl, [_], [_], rfl, rfl, rfl⟩, fun i u hu => ?_⟩
    match i, hu with
    | 0, hu => rw [← (Option.some.inj hu : _ = u)]; exact g0
    | 1, hu => rw [← (Option.some.inj hu : _ = u)]; exact g1
    | 2, hu => rw [← (Option.some.inj hu : _ = u)]; exact g2
theorem open_acts {a : Option Addr} {len cap : Nat} {x : DataW H × List MemPlace} (h : ∃ fuel, DataW.trod enc Try.prog w base spare held fuel 22 [.slice a len cap] = some x) : ∃ l : List Act, l.length = len ∧ len ≤ cap ∧ Kd.C kA w a len l := by
  obtain ⟨l, h1, h2, h3, _⟩ := open_actsW h
  exact ⟨l, h1, h2, h3⟩
end
end Go.Proofs.Ytfmaoaigljjhgaa.Lru
