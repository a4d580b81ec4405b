/- Words that the printed texts of this claim use (lists, memory, orders), out of the print's own, less what nothing here names. -/
/- Words of this session, beside the printed words: an event for a conversion of a string to bytes that are only read, and small laws on worlds. -/
import Derived.Test.YtbalmnkbodcigaaGreatDoorWMore
import Derived.Test.YtbalmnkbodcigaaGreatDoorWWords
import Derived.Lib.ConvBytes
import Derived.Laws.AppendOwn
namespace Go.Proofs.YtbalmnkbodcigaaGreatDoorW.PrintWords
open Go.RowKit

section
variable {P : Program} {ops : Array Oper} {rest : List Oper} {o : Oper} {a : Act} {Q : Exit → Act → World → Prop}
/-- '[]byte(s)': behind it the bytes can be read, whatever their place and room. -/
theorem conv_event {w W : World} {src dst e : TypeId} {s : ByteArray} (hgd : o.guard = none) {N : Tmp} (_hd : o.dst = some N) {u : TypeDesc}
    (hs : P.underlying src = some u) (hdst : P.underlying dst = some (.slice e)) (he : P.underlying e = some (.int .u8))
    (hr : (convert src dst (.string s)).run P W = .ok (.slice (some ⟨W.heap.size, 0, none⟩) s.size (grownCap W s.size 0 e)) (Lib.bytesWorld W e s) →
      (execOp a.eval o).run P W = .ok (.value (.slice (some ⟨W.heap.size, 0, none⟩) s.size (grownCap W s.size 0 e))) (Lib.bytesWorld W e s))
    (hsz : s.size ≤ 9223372036854775807) (hb : Below w.heap.size w W)
    (h : ∀ (A : Option Addr) (c : Nat) (w1 : World), Kd.C (Kd.int .u8) w1 A (bytesOf s).length (bytesOf s) → (bytesOf s).length ≤ c → Below w.heap.size w w1 →
      wpList P ops Q rest (a.put o.dst (.slice A (bytesOf s).length c)) w1) : wpList P ops Q (o :: rest) a W := by
  have h2 := h (some ⟨W.heap.size, 0, none⟩) (grownCap W s.size 0 e) (Lib.bytesWorld W e s)
  rw [bytesOf_length] at h2
  refine Kd.event_run hgd (hr (print_bytes src dst e hs hdst he s W)) (h2 ?_ ?_ (bytes_below hb hb.size e s))
  · obtain ⟨q1, q2, q3⟩ := bytes_reads W e s hsz
    exact Kd.C_of_reads (d := (0 : Int)) (h1 := fun _ => rfl) ⟨q1, q2, q3⟩
  · exact grownCap_ge W s.size 0 e
end

/-! ### A row of bytes that a conversion has made, and that is written -/
def ConvRow (W : World) (e : TypeId) (g n : Nat) (xs : List Int) : Prop :=
  xs.length = n ∧ n ≤ 9223372036854775807 ∧ ∃ (cs : Array Value) (N : Nat), W.heap[g]? = some (.cells cs e (N, N + 1)) ∧ n ≤ N ∧ ∀ j, j < n → cs[j]? = some (.int .u8 (xs.getD j 0))
theorem ConvRow.cell {W : World} {e g n : Nat} {xs : List Int} (h : ConvRow W e g n xs) (i : Nat) (hi : i < n) : W.cell? ⟨g, i, none⟩ = some (.int .u8 (xs.getD i 0)) := by
  obtain ⟨_, _, cs, N, hh, _, hc⟩ := h
  rw [← hc i hi]
  simp [World.cell?, hh]
theorem ConvRow.free {W : World} {e g n : Nat} {xs : List Int} (h : ConvRow W e g n xs) (i : Nat) (hi : i < n) : W.frozen? ⟨g, i, none⟩ = false := by
  obtain ⟨_, _, cs, N, hh, hN, hc⟩ := h
  simp [World.frozen?, hh]
  omega
theorem ConvRow.set {W : World} {e g n : Nat} {xs : List Int} (h : ConvRow W e g n xs) (i : Nat) (x : Int) : ConvRow (W.setCell ⟨g, i, none⟩ (.int .u8 x)) e g n (xs.set i x) := by
  obtain ⟨h1, h2, cs, N, hh, hN, hc⟩ := h
  refine ⟨by rw [List.length_set]; exact h1, h2, cs.setIfInBounds i (.int .u8 x), N, ?_, hN, fun j hj => ?_⟩
  · simp [World.setCell, Array.getElem?_modify, hh]
  · have hl : j < xs.length := by omega
    have hj' := hc j hj
    by_cases e : i = j
    · subst e
      have hlt : i < cs.size := by
        rcases Nat.lt_or_ge i cs.size with h | h
        · exact h
        · rw [Array.getElem?_eq_none h] at hj'; cases hj'
      simp [hlt, List.getD_eq_getElem?_getD, hl]
    · rw [Array.getElem?_setIfInBounds, if_neg e, hj', List.getD_eq_getElem?_getD, List.getD_eq_getElem?_getD, List.getElem?_set_ne e]
theorem ConvRow.reads {W : World} {e g n : Nat} {xs : List Int} (h : ConvRow W e g n xs) : Kd.C (Kd.int .u8) W (some ⟨g, 0, none⟩) n xs :=
  Kd.C_of_reads (d := (0 : Int)) (h1 := fun _ => rfl) ⟨h.1, h.2.1, fun _ => ⟨_, rfl, fun j hj => by rw [add_plain]; exact h.cell j hj⟩⟩
theorem ConvRow.below {W W' : World} {e g n : Nat} {xs : List Int} (h : ConvRow W e g n xs) (hb : Below W.heap.size W W') : ConvRow W' e g n xs := by
  obtain ⟨h1, h2, cs, N, hh, hN, hc⟩ := h
  exact ⟨h1, h2, cs, N, (hb.block g (blk_lt hh)).trans hh, hN, hc⟩
theorem convRow_made (W : World) (e : TypeId) (s : ByteArray) (hs : s.size ≤ 9223372036854775807) : ConvRow (Lib.bytesWorld W e s) e W.heap.size (bytesOf s).length (bytesOf s) := by
  refine ⟨rfl, by rw [bytesOf_length]; exact hs, Lib.bytesCells W e s, (Lib.bytesCells W e s).size, Lib.bytesWorld_at_new W e s, ?_, fun j hj => ?_⟩
  · rw [bytesOf_length]
    simp [Lib.bytesCells]
  · rw [bytesOf_length] at hj
    have hc := Lib.bytesWorld_cell W e s j hj
    have h' : j < s.data.toList.length := by rw [data_length]; exact hj
    simp [World.cell?, Lib.bytesWorld_at_new] at hc
    rw [hc]
    have h2 : j < s.data.size := hj
    simp [bytesOf, List.getD_eq_getElem?_getD, List.getElem?_eq_getElem h']
    rw [Array.getElem?_eq_getElem h2]
    rfl
section
variable {P : Program} {ops : Array Oper} {rest : List Oper} {o : Oper} {a : Act} {Q : Exit → Act → World → Prop}
/-- '[]byte(s)': a row that may be written. -/
theorem conv_row_event {w W : World} {src dst e : TypeId} {s : ByteArray} (hgd : o.guard = none) {N : Tmp} (_hd : o.dst = some N) {u : TypeDesc}
    (hs : P.underlying src = some u) (hdst : P.underlying dst = some (.slice e)) (he : P.underlying e = some (.int .u8))
    (hr : (convert src dst (.string s)).run P W = .ok (.slice (some ⟨W.heap.size, 0, none⟩) s.size (grownCap W s.size 0 e)) (Lib.bytesWorld W e s) →
      (execOp a.eval o).run P W = .ok (.value (.slice (some ⟨W.heap.size, 0, none⟩) s.size (grownCap W s.size 0 e))) (Lib.bytesWorld W e s))
    (hsz : s.size ≤ 9223372036854775807) (hb : Below w.heap.size w W)
    (h : ∀ (g c : Nat) (w1 : World), ConvRow w1 e g (bytesOf s).length (bytesOf s) → (bytesOf s).length ≤ c → w.heap.size ≤ g → Below w.heap.size w w1 →
      wpList P ops Q rest (a.put o.dst (.slice (some ⟨g, 0, none⟩) (bytesOf s).length c)) w1) : wpList P ops Q (o :: rest) a W := by
  have h2 := h W.heap.size (grownCap W s.size 0 e) (Lib.bytesWorld W e s) (convRow_made W e s hsz)
  rw [bytesOf_length] at h2
  exact Kd.event_run hgd (hr (print_bytes src dst e hs hdst he s W)) (h2 (grownCap_ge W s.size 0 e) hb.size (bytes_below hb hb.size e s))
end

/-! ### Folding, byte by byte -/
def foldI (c : Int) : Int := if 65 ≤ c then (if c ≤ 90 then c + 32 else c) else c
/-- What has been folded up to place k. -/
def foldTo (xs : List Int) (k : Nat) : List Int := (xs.take k).map foldI ++ xs.drop k
theorem foldTo_zero (xs : List Int) : foldTo xs 0 = xs := by simp [foldTo]
theorem foldTo_length (xs : List Int) (k : Nat) : (foldTo xs k).length = xs.length := by simp [foldTo]; omega
theorem foldTo_all (xs : List Int) : foldTo xs xs.length = xs.map foldI := by simp [foldTo]
theorem foldTo_at (xs : List Int) (k : Nat) (h : k < xs.length) : (foldTo xs k).getD k 0 = xs.getD k 0 := by
  rw [List.getD_eq_getElem?_getD, List.getD_eq_getElem?_getD, foldTo, List.getElem?_append_right (by simp; omega)]
  simp [Nat.min_eq_left (Nat.le_of_lt h)]
theorem foldTo_set (xs : List Int) (k : Nat) (h : k < xs.length) : (foldTo xs k).set k (foldI (xs.getD k 0)) = foldTo xs (k + 1) := by
  apply List.ext_getElem?
  intro j
  have hd : xs.getD k 0 = xs[k] := by rw [List.getD_eq_getElem?_getD, List.getElem?_eq_getElem h]; rfl
  rw [hd]
  by_cases e : k = j
  · subst e
    rw [List.getElem?_set_self (by rw [foldTo_length]; exact h), foldTo, List.getElem?_append_left (by simp; omega)]
    simp [h]
  · rw [List.getElem?_set_ne e, foldTo, foldTo, List.getElem?_append, List.getElem?_append]
    simp only [List.length_map, List.length_take, List.getElem?_map, List.getElem?_take, List.getElem?_drop]
    by_cases hj : j < k
    · rw [if_pos (by omega), if_pos hj, if_pos (by omega), if_pos (by omega)]
    · rw [if_neg (by omega), if_neg (by omega)]
      congr 1
      omega
theorem foldI_yes {x : Int} (h : 65 ≤ x) (h' : x ≤ 90) : foldI x = x + 32 := by unfold foldI; rw [if_pos h, if_pos h']
theorem foldI_big {x : Int} (h' : ¬ x ≤ 90) : foldI x = x := by unfold foldI; rw [if_neg h']; split <;> rfl
theorem foldI_small {x : Int} (h : ¬ 65 ≤ x) : foldI x = x := by unfold foldI; rw [if_neg h]
theorem foldTo_same (xs : List Int) (k : Nat) (h : k < xs.length) (e : foldI (xs.getD k 0) = xs.getD k 0) : foldTo xs (k + 1) = foldTo xs k := by
  rw [← foldTo_set xs k h, e]
  apply List.ext_getElem?
  intro j
  by_cases hj : k = j
  · subst hj
    have := foldTo_at xs k h
    rw [List.getElem?_set_self (by rw [foldTo_length]; exact h), ← this, List.getD_eq_getElem?_getD, List.getElem?_eq_getElem (by rw [foldTo_length]; exact h)]
    rfl
  · rw [List.getElem?_set_ne hj]
theorem byte_range_ (s : ByteArray) (i : Nat) : 0 ≤ (bytesOf s).getD i 0 ∧ (bytesOf s).getD i 0 ≤ 255 := by
  have h := rd_bytesOf s i
  unfold rd at h
  rw [Int.toNat_natCast] at h
  rw [h]
  exact bt_range s i
/-- A label, folded: what both the program and the reference tell. -/
def foldS (s : ByteArray) : ByteArray := strOfNums ((bytesOf s).map foldI)
/-- A store behind draws is a store ahead of them. -/
theorem setCell_drewN_ (w : World) (n : Nat) (a : Addr) (v : Value) : (w.drewN n).setCell a v = (w.setCell a v).drewN n := by
  induction n generalizing w with
  | zero => rfl
  | succ n ih =>
    rw [← World.drew_drewN, ← World.drew_drewN]
    show ((w.drewN n).setCell a v).drew = _
    rw [ih]
end Go.Proofs.YtbalmnkbodcigaaGreatDoorW.PrintWords
