/- Words that the printed texts of this claim use (lists, memory, orders), out of the print's own, less what nothing here names. -/
/- Words of this session, beside the printed words: an event for a conversion of a string to bytes that are only read, and small laws on worlds. -/
import Derived.Test.YtilobbjnmnnmnaaDoorWMore
import Derived.Test.YtilobbjnmnnmnaaDoorWWords
import Derived.Lib.ConvBytes
import Derived.Laws.AppendOwn
namespace Go.Proofs.YtilobbjnmnnmnaaDoorW.PrintWords
open Go.RowKit

section
variable {P : Program} {ops : Array Oper} {rest : List Oper} {o : Oper} {a : Act} {Q : Exit → Act → World → Prop}
/-- '[]byte(s)': behind it the bytes can be read, whatever their place and room. -/
theorem conv_event {w W : World} {src dst e : TypeId} {s : ByteArray} (hgd : o.guard = none) {N : Tmp} (_hd : o.dst = some N) {u : TypeDesc}
    (hs : P.underlying src = some u) (hdst : P.underlying dst = some (.slice e)) (he : P.underlying e = some (.int .u8))
    (hr : (convert src dst (.string s)).run P W = .ok (.slice (some ⟨W.heap.size, 0, none⟩) s.size (grownCap W s.size 0 e)) (Lib.bytesWorld W e s) →
      (execOp a.eval o).run P W = .ok (.value (.slice (some ⟨W.heap.size, 0, none⟩) s.size (grownCap W s.size 0 e))) (Lib.bytesWorld W e s))
    (hsz : s.size ≤ 9223372036854775807) (hb : Below w.heap.size w W)
    (h : ∀ (A : Option Addr) (c : Nat) (w1 : World), Kd.C (Kd.int .u8) w1 A (bytesOf s).length (bytesOf s) → (bytesOf s).length ≤ c → Below w.heap.size w w1 →
      wpList P ops Q rest (a.put o.dst (.slice A (bytesOf s).length c)) w1) : wpList P ops Q (o :: rest) a W := by
  have h2 := h (some ⟨W.heap.size, 0, none⟩) (grownCap W s.size 0 e) (Lib.bytesWorld W e s)
  rw [bytesOf_length] at h2
  refine Kd.event_run hgd (hr (print_bytes src dst e hs hdst he s W)) (h2 ?_ ?_ (bytes_below hb hb.size e s))
  · obtain ⟨q1, q2, q3⟩ := bytes_reads W e s hsz
    exact Kd.C_of_reads (d := (0 : Int)) (h1 := fun _ => rfl) ⟨q1, q2, q3⟩
  · exact grownCap_ge W s.size 0 e
end

/-! ### A row of bytes that a conversion has made, and that is written -/
def ConvRow (W : World) (e : TypeId) (g n : Nat) (xs : List Int) : Prop :=
  xs.length = n ∧ n ≤ 9223372036854775807 ∧ ∃ (cs : Array Value) (N : Nat), W.heap[g]? = some (.cells cs e (N, N + 1)) ∧ n ≤ N ∧ ∀ j, j < n → cs[j]? = some (.int .u8 (xs.getD j 0))
theorem ConvRow.cell {W : World} {e g n : Nat} {xs : List Int} (h : ConvRow W e g n xs) (i : Nat) (hi : i < n) : W.cell? ⟨g, i, none⟩ = some (.int .u8 (xs.getD i 0)) := by
  obtain ⟨_, _, cs, N, hh, _, hc⟩ := h
  rw [← hc i hi]
  simp [World.cell?, hh]
theorem ConvRow.free {W : World} {e g n : Nat} {xs : List Int} (h : ConvRow W e g n xs) (i : Nat) (hi : i < n) : W.frozen? ⟨g, i, none⟩ = false := by
  obtain ⟨_, _, cs, N, hh, hN, hc⟩ := h
  simp [World.frozen?, hh]
  omega
theorem ConvRow.set {W : World} {e g n : Nat} {xs : List Int} (h : ConvRow W e g n xs) (i : Nat) (x : Int) : ConvRow (W.setCell ⟨g, i, none⟩ (.int .u8 x)) e g n (xs.set i x) := by
  obtain ⟨h1, h2, cs, N, hh, hN, hc⟩ := h
  refine ⟨by rw [List.length_set]; exact h1, h2, cs.setIfInBounds i (.int .u8 x), N, ?_, hN, fun j hj => ?_⟩
  · simp [World.setCell, Array.getElem?_modify, hh]
  · have hl : j < xs.length := by omega
    have hj' := hc j hj
    by_cases e : i = j
    · subst e
      have hlt : i < cs.size := by
        rcases Nat.lt_or_ge i cs.size with h | h
        · exact h
        · rw [Array.getElem?_eq_none h] at hj'; cases hj'
      simp [hlt, List.getD_eq_getElem?_getD, hl]
    · rw [Array.getElem?_setIfInBounds, if_neg e, hj', List.getD_eq_getElem?_getD, List.getD_eq_getElem?_getD, List.getElem?_set_ne e]
theorem ConvRow.reads {W : World} {e g n : Nat} {xs : List Int} (h : ConvRow W e g n xs) : Kd.C (Kd.int .u8) W (some ⟨g, 0, none⟩) n xs :=
  Kd.C_of_reads (d := (0 : Int)) (h1 := fun _ => rfl) ⟨h.1, h.2.1, fun _ => ⟨_, rfl, fun j hj => by rw [add_plain]; exact h.cell j hj⟩⟩
theorem ConvRow.below {W W' : World} {e g n : Nat} {xs : List Int} (h : ConvRow W e g n xs) (hb : Below W.heap.size W W') : ConvRow W' e g n xs := by
  obtain ⟨h1, h2, cs, N, hh, hN, hc⟩ := h
  exact ⟨h1, h2, cs, N, (hb.block g (blk_lt hh)).trans hh, hN, hc⟩
section
variable {P : Program} {ops : Array Oper} {rest : List Oper} {o : Oper} {a : Act} {Q : Exit → Act → World → Prop}
end

/-! ### Folding, byte by byte -/
end Go.Proofs.YtilobbjnmnnmnaaDoorW.PrintWords
