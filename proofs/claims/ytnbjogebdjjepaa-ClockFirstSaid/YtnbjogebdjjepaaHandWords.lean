/- Words of this session, beside the printed words: an event for a conversion of a string to bytes that are only read, and small laws on worlds. -/
import Derived.Test.YtnbjogebdjjepaaWMore
import Derived.Test.YtnbjogebdjjepaaWWords
import Derived.Lib.ConvBytes
import Derived.Laws.AppendOwn
namespace Go.Proofs.YtnbjogebdjjepaaW.PrintWords
open Go.RowKit

/-- A call's own 'Below', out of one that begins later. -/
theorem below_from {w W w2 : World} (h : Below w.heap.size w W) (k : Below W.heap.size W w2) : Below w.heap.size w w2 := below_step h k

section
variable {P : Program} {ops : Array Oper} {rest : List Oper} {o : Oper} {a : Act} {Q : Exit → Act → World → Prop}
/-- '[]byte(s)': behind it the bytes can be read, whatever their place and room. -/
theorem conv_event {w W : World} {src dst e : TypeId} {s : ByteArray} (hgd : o.guard = none) {N : Tmp} (_hd : o.dst = some N) {u : TypeDesc}
    (hs : P.underlying src = some u) (hdst : P.underlying dst = some (.slice e)) (he : P.underlying e = some (.int .u8))
    (hr : (convert src dst (.string s)).run P W = .ok (.slice (some ⟨W.heap.size, 0, none⟩) s.size (grownCap W s.size 0 e)) (Lib.bytesWorld W e s) →
      (execOp a.eval o).run P W = .ok (.value (.slice (some ⟨W.heap.size, 0, none⟩) s.size (grownCap W s.size 0 e))) (Lib.bytesWorld W e s))
    (hsz : s.size ≤ 9223372036854775807) (hb : Below w.heap.size w W)
    (h : ∀ (A : Option Addr) (c : Nat) (w1 : World), Kd.C (Kd.int .u8) w1 A (bytesOf s).length (bytesOf s) → (bytesOf s).length ≤ c → Below w.heap.size w w1 →
      wpList P ops Q rest (a.put o.dst (.slice A (bytesOf s).length c)) w1) : wpList P ops Q (o :: rest) a W := by
  have h2 := h (some ⟨W.heap.size, 0, none⟩) (grownCap W s.size 0 e) (Lib.bytesWorld W e s)
  rw [bytesOf_length] at h2
  refine Kd.event_run hgd (hr (print_bytes src dst e hs hdst he s W)) (h2 ?_ ?_ (bytes_below hb hb.size e s))
  · obtain ⟨q1, q2, q3⟩ := bytes_reads W e s hsz
    exact Kd.C_of_reads (d := (0 : Int)) (h1 := fun _ => rfl) ⟨q1, q2, q3⟩
  · exact grownCap_ge W s.size 0 e
end
end Go.Proofs.YtnbjogebdjjepaaW.PrintWords
