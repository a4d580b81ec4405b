/- The calls of an lru list of the law's own, beside whatever else the law holds. -/
import Derived.Test.YtfmaoaigljjhgaaLruA
namespace Go.Proofs.Ytfmaoaigljjhgaa.Lru
open Go Go.RowKit Go.Maps Go.Proofs.YtfmaoaigljjhgaaW.PrintWords

/-- What holds of the blocks of G alone. -/
def Stays (X : World → Prop) (G : Nat → Prop) : Prop := ∀ w w' : World, (∀ k, G k → w'.heap[k]? = w.heap[k]?) → X w → X w'
def OwnX (X : World → Prop) (G : Nat → Prop) (w0 w : World) (b : Nat) (most : Int) (L : List KV) : Prop :=
  ∃ mb E, Lru w b mb most E ∧ kv E = L ∧ (∀ k, foot b mb E k → w0.heap.size ≤ k) ∧ Below w0.heap.size w0 w ∧ X w ∧ ∀ k, G k → k < w.heap.size ∧ ¬ foot b mb E k
section
variable {X : World → Prop} {G : Nat → Prop} {w0 w w' : World} {b : Nat} {most : Int} {L : List KV}
theorem OwnX.low (h : OwnX X G w0 w b most L) : Below w0.heap.size w0 w := by
  obtain ⟨_, _, _, _, _, h, _⟩ := h
  exact h
theorem OwnX.there (h : OwnX X G w0 w b most L) : X w := by
  obtain ⟨_, _, _, _, _, _, h, _⟩ := h
  exact h
theorem OwnX.below (hS : Stays X G) (h : OwnX X G w0 w b most L) (hb : Below w.heap.size w w') : OwnX X G w0 w' b most L := by
  obtain ⟨mb, E, h1, h2, h3, h4, h5, h6⟩ := h
  exact ⟨mb, E, h1.below hb, h2, h3, h4.trans (hb.mono h4.size), hS w w' (fun k hk => hb.block k (h6 k hk).1) h5, fun k hk => ⟨Nat.lt_of_lt_of_le (h6 k hk).1 hb.size, (h6 k hk).2⟩⟩
theorem OwnX.drewN (hS : Stays X G) (h : OwnX X G w0 w b most L) (n : Nat) : OwnX X G w0 (w.drewN n) b most L := h.below hS (pw_below_drewN (Below.refl _ _) n)
theorem OwnX.step (hS : Stays X G) {mb mb' : Nat} {most' : Int} {M : List KV} {E E' : List Ent} (h3 : ∀ k, foot b mb E k → w0.heap.size ≤ k) (h4 : Below w0.heap.size w0 w) (h5 : X w) (h6 : ∀ k, G k → k < w.heap.size ∧ ¬ foot b mb E k)
    (hL : Lru w' b mb' most' E') (hkv : kv E' = M) (ht : Turn (foot b mb E) w w') (hm : More w b mb E mb' E') : OwnX X G w0 w' b most' M := by
  refine ⟨mb', E', hL, hkv, fun k hk => (hm k hk).elim (h3 k) (fun h => Nat.le_trans h4.size h), h4.trans (ht.below h3 h4.size), hS w w' (fun k hk => ht.block k (h6 k hk).1 (h6 k hk).2) h5, fun k hk => ⟨Nat.lt_of_lt_of_le (h6 k hk).1 ht.size, fun hf => ?_⟩⟩
  rcases hm k hf with h | h
  · exact (h6 k hk).2 h
  · have := (h6 k hk).1
    omega
theorem xNew (hS : Stays X G) (hX : X w) (hG : ∀ k, G k → k < w.heap.size) (hb : Below w0.heap.size w0 w) (m : Int) {q : Int} (hq : (if 0 < m then m else 0) = q) :
    Calls Try.prog 10 #[.int .i64 m] w fun e w' => e = .returned (.pointer (some ⟨w.heap.size, 0, none⟩)) ∧ OwnX X G w0 w' w.heap.size q [] := by
  refine (New_calls w m).mono ?_
  rintro e w' ⟨rfl, hl, hb1, hz⟩
  rw [hq] at hl
  have hf : ∀ k, foot w.heap.size (w.heap.size + 1) [] k → w.heap.size ≤ k := by
    rintro k (h | h | ⟨e, he, _⟩)
    · omega
    · omega
    · cases he
  refine ⟨rfl, _, [], hl, rfl, fun k hk => Nat.le_trans hb.size (hf k hk), hb.trans (hb1.mono hb.size), hS w w' (fun k hk => hb1.block k (hG k hk)) hX, fun k hk => ⟨Nat.lt_of_lt_of_le (hG k hk) hb1.size, fun h => ?_⟩⟩
  have := hf k h
  have := hG k hk
  omega
theorem xPut (hS : Stays X G) (h : OwnX X G w0 w b most L) (hm : 0 ≤ most) (s : ByteArray) (hs : s.size ≤ 100000) (v : Int) (hE : L.length ≤ 100000) (hK : ∀ p ∈ L, p.1.size ≤ 100000) {M : List KV} {o : ByteArray} {q : Bool} {c : Int} (hR : putR most s v L = (M, o, q, c)) :
    Calls Try.prog 11 #[.pointer (some ⟨b, 0, none⟩), .string s, vl v] w fun e w' => e = .returned (.tuple #[.string o, .bool q, .int .i64 c]) ∧ OwnX X G w0 w' b most M := by
  obtain ⟨mb, E, h1, h2, h3, h4, h5, h6⟩ := h
  refine (lPutL h1 h2 hm s hs v hE hK hR).mono ?_
  rintro e w' ⟨rfl, E', hL, hkv, ht, hmo⟩
  exact ⟨rfl, OwnX.step hS h3 h4 h5 h6 hL hkv ht hmo⟩
theorem xGet (hS : Stays X G) (h : OwnX X G w0 w b most L) (s : ByteArray) (hs : s.size ≤ 100000) {x : Int} {q : Bool} (hR : lookL s L = (x, q)) :
    Calls Try.prog 16 #[.pointer (some ⟨b, 0, none⟩), .string s] w fun e w' => e = .returned (.tuple #[vl x, .bool q]) ∧ OwnX X G w0 w' b most (getL s L) := by
  obtain ⟨mb, E, h1, h2, h3, h4, h5, h6⟩ := h
  refine (lGetL h1 h2 s hs hR).mono ?_
  rintro e w' ⟨rfl, E', hL, hkv, ht, hmo⟩
  exact ⟨rfl, OwnX.step hS h3 h4 h5 h6 hL hkv ht hmo⟩
theorem xLook (hS : Stays X G) (h : OwnX X G w0 w b most L) (s : ByteArray) (hs : s.size ≤ 100000) {x : Int} {q : Bool} (hR : lookL s L = (x, q)) :
    Calls Try.prog 14 #[.pointer (some ⟨b, 0, none⟩), .string s] w fun e w' => e = .returned (.tuple #[vl x, .bool q]) ∧ OwnX X G w0 w' b most L ∧ Drawn0 w w' := by
  have h0 := h
  obtain ⟨mb, E, h1, h2, h3, h4, h5, h6⟩ := h
  refine (lLookL h1 h2 s hs hR).mono ?_
  rintro e w' ⟨rfl, n, rfl⟩
  exact ⟨rfl, h0.drewN hS n, n, rfl⟩
theorem xDrop (hS : Stays X G) (h : OwnX X G w0 w b most L) (s : ByteArray) (hs : s.size ≤ 100000) {q : Bool} (hq : hasL s L = q) :
    Calls Try.prog 19 #[.pointer (some ⟨b, 0, none⟩), .string s] w fun e w' => e = .returned (.bool q) ∧ OwnX X G w0 w' b most (dropL s L) := by
  obtain ⟨mb, E, h1, h2, h3, h4, h5, h6⟩ := h
  subst h2
  refine (lDrop h1 s hs).mono ?_
  rintro e w' ⟨rfl, E', hL, hkv, ht, hmo⟩
  exact ⟨by rw [hq], OwnX.step hS h3 h4 h5 h6 hL hkv ht hmo⟩
theorem xLen (hS : Stays X G) (h : OwnX X G w0 w b most L) :
    Calls Try.prog 17 #[.pointer (some ⟨b, 0, none⟩)] w fun e w' => e = .returned (.int .i64 (L.length : Int)) ∧ OwnX X G w0 w' b most L ∧ Drawn0 w w' := by
  have h0 := h
  obtain ⟨mb, E, h1, h2, h3, h4, h5, h6⟩ := h
  refine (Len_calls h1).mono ?_
  rintro e w' ⟨rfl, n, rfl⟩
  exact ⟨by rw [← h2, kv_length], h0.drewN hS n, n, rfl⟩
theorem xClear (hS : Stays X G) (h : OwnX X G w0 w b most L) :
    Calls Try.prog 33 #[.pointer (some ⟨b, 0, none⟩)] w fun e w' => (∃ v, e = .returned v) ∧ OwnX X G w0 w' b most [] := by
  obtain ⟨mb, E, h1, h2, h3, h4, h5, h6⟩ := h
  obtain ⟨r0, r1, x, y, hh⟩ := h1.head
  refine (Clear_raw hh).mono ?_
  rintro e w' ⟨hv, hL, ht, hz⟩
  refine ⟨hv, OwnX.step (E := E) hS h3 h4 h5 h6 hL rfl (ht.mono fun k hk => .inl hk) ?_⟩
  rintro k (h | h | ⟨e, he, _⟩)
  · exact .inl (.inl h)
  · exact .inr (by omega)
  · cases he
/-- What else is held may be told anew. -/
theorem OwnX.held {Y : World → Prop} {H : Nat → Prop} (h : OwnX X G w0 w b most L) (hY : Y w) (hH : ∀ mb E, Lru w b mb most E → kv E = L → (∀ k, G k → k < w.heap.size ∧ ¬ foot b mb E k) → ∀ k, H k → k < w.heap.size ∧ ¬ foot b mb E k) : OwnX Y H w0 w b most L := by
  obtain ⟨mb, E, h1, h2, h3, h4, h5, h6⟩ := h
  exact ⟨mb, E, h1, h2, h3, h4, hY, hH mb E h1 h2 h6⟩
/-- The nodes of a list, wherever nothing of it has turned. -/
theorem OwnX.nodes (h : OwnX X G w0 w b most L) (hE : L.length ≤ 100000) (W : World) (hW : Below w.heap.size w W) :
    Calls Try.prog 36 #[.pointer (some ⟨b, 0, none⟩)] W fun e w' => ∃ v ns, e = .returned v ∧ Kd.R kN NT w' W.heap.size (fun _ => True) v ns ∧ nkv ns = L ∧ Below W.heap.size W w' := by
  obtain ⟨mb, E, h1, h2, h3, h4, h5, h6⟩ := h
  have := nodes_calls (h1.below hW) (by rw [← kv_length, h2]; exact hE)
  rw [h2] at this
  exact this
end
theorem stays_true : Stays (fun _ => True) (fun _ => False) := fun _ _ _ _ => trivial
theorem stays_and {X Y : World → Prop} {G H : Nat → Prop} (hX : Stays X G) (hY : Stays Y H) : Stays (fun w => X w ∧ Y w) (fun k => G k ∨ H k) :=
  fun w w' h hxy => ⟨hX w w' (fun k hk => h k (.inl hk)) hxy.1, hY w w' (fun k hk => h k (.inr hk)) hxy.2⟩
theorem stays_lru (b mb : Nat) (most : Int) (E : List Ent) : Stays (fun w => Lru w b mb most E) (foot b mb E) := fun _ _ h hl => hl.keep h
theorem stays_box (B t : Nat) (v : Value) : Stays (fun w => Boxed w B t v) (fun k => k = B) := fun _ _ h hl => (h B rfl).trans hl
theorem ownFrom_turn {β : Type} {F : Nat → Prop} {B : Nat} {w : World} (hB : w.heap.size ≤ B) : OwnFrom B (fun (_ : β) W => Turn F w W) := by
  intro s W W' row hs hg hr
  refine ⟨hg.os.trans hs.os, hg.tape.trans hs.tape, hg.output.trans hs.output, Nat.le_trans hs.size hg.size, fun k hk hf => ?_⟩
  rw [hg.block k (Nat.lt_of_lt_of_le hk hs.size) (fun e => by have := (hr k e.symm).1; omega)]
  exact hs.block k hk hf
end Go.Proofs.Ytfmaoaigljjhgaa.Lru
