/- The law LruScript, walked: whatever is put and got, it is what the document says. -/
import Derived.Test.YtfmaoaigljjhgaaLruRef
import Derived.Test.YtfmaoaigljjhgaaLruStill
import Derived.Test.YtfmaoaigljjhgaaLruTwo
import Derived.Test.YtfmaoaigljjhgaaLruLast0
import Derived.Test.YtfmaoaigljjhgaaLruC
import Derived.Test.YtfmaoaigljjhgaaLru9
import Derived.Shelf.Abstract
set_option linter.unusedSimpArgs false
namespace Go.Proofs.Ytfmaoaigljjhgaa.Lru
open Go Go.RowKit Go.Maps Go.Proofs.YtfmaoaigljjhgaaW.PrintWords Go.Proofs.YtfmaoaigljjhgaaW.PrintLast

theorem results_cell {fn : Func} {i : Tmp} (h : fn.results = #[.cell i 4]) (tmps : Array Value) (w : World) (p : Addr) (v : Value) (ha : tmps.getD i undef = .pointer (some p)) (hc : w.cell? p = some v) : (results fn tmps).run Try.prog w = .ok v w := by
  rw [Array.getD_eq_getD_getElem?] at ha
  simp [results, h, ha, asAddr, loadVar, isAgg, run_underlying Try.underlying4, hc]
theorem scr_first {w w1 : World} (h : Below (w.alloc (.cells #[.bool false] 4)).heap.size (w.alloc (.cells #[.bool false] 4)) w1) : Boxed w1 w.heap.size 4 (.bool false) ∧ Below w.heap.size w w1 := by
  have k0 := Boxed.new w 4 (.bool false)
  have hb : Below w.heap.size w (w.alloc (.cells #[.bool false] 4)) := (Below.refl _ _).alloc (Nat.le_refl _) _
  exact ⟨(h.block _ k0.lt).trans k0, hb.trans (h.mono hb.size)⟩
/-- The document's list has turned. -/
theorem OwnX.ref {X0 : World → Prop} {G0 : Nat → Prop} {w0 w w' : World} {b og base : Nat} {n q : Int} {M L0 L' : List KV} {v v' : Value} (hS : Stays X0 G0) (h : OwnX (fun W => X0 W ∧ XR og base q v L0 W) (fun k => G0 k ∨ GR og v k) w0 w b n M) (hG0 : ∀ k, G0 k → k ≠ og) (hog : w0.heap.size ≤ og)
    (ht : Turn (fun k => k = og) w w') (hx : XR og base q v' L' w') (hv : ∀ k, v'.ownBlock = some k → v.ownBlock = some k ∨ w.heap.size ≤ k) : OwnX (fun W => X0 W ∧ XR og base q v' L' W) (fun k => G0 k ∨ GR og v' k) w0 w' b n M := by
  obtain ⟨mb, E, h1, h2, h3, h4, h5, h6⟩ := h
  have hf : ¬ foot b mb E og := (h6 og (.inr (.inl rfl))).2
  refine ⟨mb, E, h1.keep (fun k hk => ht.block k (h1.lt hk) (fun e => hf (e ▸ hk))), h2, h3, h4.trans (ht.below (fun k hk => by rw [hk]; exact hog) h4.size), ⟨hS w w' (fun k hk => ht.block k (h6 k (.inl hk)).1 (hG0 k hk)) h5.1, hx⟩, ?_⟩
  rintro k (hk | hk | hk)
  · exact ⟨Nat.lt_of_lt_of_le (h6 k (.inl hk)).1 ht.size, (h6 k (.inl hk)).2⟩
  · subst hk
    exact ⟨hx.lt, hf⟩
  · refine ⟨(hx.ne k hk).2, ?_⟩
    rcases hv k hk with h7 | h7
    · exact (h6 k (.inr (.inr h7))).2
    · exact fun hf => by have := h1.lt hf; omega
theorem OwnX.nodup {X : World → Prop} {G : Nat → Prop} {w0 w : World} {b : Nat} {most : Int} {L : List KV} (h : OwnX X G w0 w b most L) : (L.map Prod.fst).Nodup := by
  obtain ⟨mb, E, h1, h2, _⟩ := h
  rw [← h2, ← keys_kv]
  exact h1.keys
theorem OwnX.bsize {X : World → Prop} {G : Nat → Prop} {w0 w : World} {b : Nat} {most : Int} {L : List KV} (h : OwnX X G w0 w b most L) : b < w.heap.size := by
  obtain ⟨mb, E, g1, _⟩ := h
  exact g1.lt (.inl rfl)
/-- The boxes: the answer, the document's list. -/
def XC (t ob og : Nat) (W : World) : Prop := Boxed W t 4 (.bool false) ∧ Boxed W ob 54 (.pointer (some ⟨og, 0, none⟩))
def GC (t ob k : Nat) : Prop := k = t ∨ k = ob
theorem stays_XC (t ob og : Nat) : Stays (XC t ob og) (GC t ob) := fun _ _ h hx => ⟨(h t (.inl rfl)).trans hx.1, (h ob (.inr rfl)).trans hx.2⟩
/-- What an act holds. -/
def XA (s9 : Nat) (a : Act) (w : World) : Prop := w.heap[s9]? = some (.cells #[.int .i64 a.kind, .string a.key, .int .i64 a.v] 27 (0, 0))
theorem stays_XA (s9 : Nat) (a : Act) : Stays (XA s9 a) (fun k => k = s9) := fun _ _ h hx => (h s9 rfl).trans hx
theorem XA.cells {s9 : Nat} {a : Act} {w : World} (h : XA s9 a w) : w.cell? ⟨s9, 0, none⟩ = some (.int .i64 a.kind) ∧ w.cell? ⟨s9, 1, none⟩ = some (.string a.key) ∧ w.cell? ⟨s9, 2, none⟩ = some (.int .i64 a.v) ∧ s9 < w.heap.size := by
  have h' : w.heap[s9]? = _ := h
  exact ⟨by simp [World.cell?, h'], by simp [World.cell?, h'], by simp [World.cell?, h'], (Array.getElem?_eq_some_iff.1 h').1⟩
abbrev X2 (t ob og base : Nat) (q : Int) (v : Value) (L : List KV) : World → Prop := fun W => XC t ob og W ∧ XR og base q v L W
abbrev G2 (t ob og : Nat) (v : Value) : Nat → Prop := fun k => GC t ob k ∨ GR og v k
abbrev X3 (t ob og base : Nat) (q : Int) (v : Value) (L : List KV) (s9 : Nat) (a : Act) : World → Prop := fun W => (XC t ob og W ∧ XA s9 a W) ∧ XR og base q v L W
abbrev G3 (t ob og : Nat) (v : Value) (s9 : Nat) : Nat → Prop := fun k => (GC t ob k ∨ k = s9) ∨ GR og v k
theorem stays_X2 (t ob og base : Nat) (q : Int) (v : Value) (L : List KV) : Stays (X2 t ob og base q v L) (G2 t ob og v) := stays_and (stays_XC _ _ _) (stays_XR _ _ _ _ _)
theorem stays_X3 (t ob og base : Nat) (q : Int) (v : Value) (L : List KV) (s9 : Nat) (a : Act) : Stays (X3 t ob og base q v L s9 a) (G3 t ob og v s9) := stays_and (stays_and (stays_XC _ _ _) (stays_XA _ _)) (stays_XR _ _ _ _ _)
theorem X3.ne {t ob og base : Nat} {q : Int} {v : Value} {L : List KV} {s9 : Nat} {a : Act} {W : World} (h : X3 t ob og base q v L s9 a W) : ∀ k, GC t ob k ∨ k = s9 → k ≠ og := by
  obtain ⟨⟨⟨h1, h2⟩, h3⟩, h4, _⟩ := h
  have h1' : W.heap[t]? = _ := h1
  have h2' : W.heap[ob]? = _ := h2
  have h3' : W.heap[s9]? = _ := h3
  rintro k ((rfl | rfl) | rfl) rfl
  · rw [h1'] at h4; simp at h4
  · rw [h2'] at h4; simp at h4
  · rw [h3'] at h4; simp at h4
structure GoodS (q : Int) (i : Nat) (L : List KV) : Prop where
  few : L.length ≤ i
  room : q ≠ 0 → (L.length : Int) ≤ q
  none : q = 0 → L = []
  short : ∀ p ∈ L, p.1.size ≤ 100
theorem scr_start {w w2 w3 : World} {t b : Nat} {q : Int} (h2 : OwnX (fun W => Boxed W t 4 (.bool false)) (fun k => k = t) w w2 b q []) (hx : XR w2.heap.size w2.heap.size q (.slice none 0 0) [] w3) (hb : Below w2.heap.size w2 w3) :
    OwnX (X2 t w3.heap.size w2.heap.size w.heap.size q (.slice none 0 0) []) (G2 t w3.heap.size w2.heap.size (.slice none 0 0)) w (w3.alloc (.cells #[.pointer (some ⟨w2.heap.size, 0, none⟩)] 54)) b q [] := by
  have hb3 : Below w3.heap.size w3 (w3.alloc (.cells #[.pointer (some ⟨w2.heap.size, 0, none⟩)] 54)) := (Below.refl _ _).alloc (Nat.le_refl _) _
  have hb4 := hb.trans (hb3.mono hb.size)
  have hz : (w3.alloc (.cells #[.pointer (some ⟨w2.heap.size, 0, none⟩)] 54)).heap.size = w3.heap.size + 1 := by simp
  obtain ⟨mb, E, g1, g2, g3, g4, g5, g6⟩ := h2
  refine ⟨mb, E, g1.below hb4, g2, g3, g4.trans (hb4.mono g4.size), ⟨⟨(hb4.block t (g6 t rfl).1).trans g5, Boxed.new w3 _ _⟩, ?_⟩, ?_⟩
  · have hx2 := hx.below hb3
    exact ⟨hx2.1, Kd.R_lower hx2.2 g4.size⟩
  · have hl := hx.lt
    have hs := hb.size
    rintro k ((rfl | rfl) | rfl | hk)
    · exact ⟨Nat.lt_of_lt_of_le (g6 _ rfl).1 hb4.size, (g6 _ rfl).2⟩
    · exact ⟨by omega, fun hf => by have := g1.lt hf; omega⟩
    · exact ⟨by omega, fun hf => by have := g1.lt hf; omega⟩
    · simp [Value.ownBlock] at hk
theorem pick_in (k : Int) (m : Nat) (h1 : 1 ≤ m) (h2 : m ≤ 1000) : ∃ r : Nat, PLruScript.nameplatekit_Pick.f k (m : Int) = some (r : Int) ∧ r < m := by
  unfold PLruScript.nameplatekit_Pick.f
  rw [if_neg (by omega), if_neg (by omega)]
  have a1 : Int.tmod k (m : Int) < (m : Int) := Int.tmod_lt_of_pos k (by omega)
  have a2 : -(m : Int) < Int.tmod k (m : Int) := Int.lt_tmod_of_pos k (by omega)
  generalize Int.tmod k (m : Int) = t at a1 a2
  by_cases c : t < 0
  · rw [if_pos c]
    refine ⟨(t + m).toNat, ?_, by omega⟩
    have : wrap64 (t + m) = t + m := by unfold wrap64; omega
    rw [this, Int.toNat_of_nonneg (by omega)]
  · rw [if_neg c]
    exact ⟨t.toNat, by rw [Int.toNat_of_nonneg (by omega)], by omega⟩
theorem scr_enter {w wr : World} {b t ob og base : Nat} {q : Int} {v : Value} {L : List KV} {a : Act} (h : OwnX (X2 t ob og base q v L) (G2 t ob og v) w wr b q L) :
    OwnX (X3 t ob og base q v L wr.heap.size a) (G3 t ob og v wr.heap.size) w (wr.alloc (.cells #[.int .i64 a.kind, .string a.key, .int .i64 a.v] 27)) b q L := by
  obtain ⟨mb, E, g1, g2, g3, g4, g5, g6⟩ := h
  have hb : Below wr.heap.size wr (wr.alloc (.cells #[.int .i64 a.kind, .string a.key, .int .i64 a.v] 27)) := (Below.refl _ _).alloc (Nat.le_refl _) _
  refine ⟨mb, E, g1.below hb, g2, g3, g4.trans (hb.mono g4.size), ⟨⟨stays_XC _ _ _ wr _ (fun k hk => hb.block k (g6 k (.inl hk)).1) g5.1, Below_new wr _⟩, g5.2.below hb⟩, ?_⟩
  rintro k ((hk | rfl) | hk)
  · exact ⟨Nat.lt_of_lt_of_le (g6 k (.inl hk)).1 hb.size, (g6 k (.inl hk)).2⟩
  · exact ⟨by simp, fun hf => by have := g1.lt hf; omega⟩
  · exact ⟨Nat.lt_of_lt_of_le (g6 k (.inr hk)).1 hb.size, (g6 k (.inr hk)).2⟩
theorem scr_leave {w wr : World} {b t ob og base s9 : Nat} {q : Int} {v : Value} {L : List KV} {a : Act} (h : OwnX (X3 t ob og base q v L s9 a) (G3 t ob og v s9) w wr b q L) : OwnX (X2 t ob og base q v L) (G2 t ob og v) w wr b q L :=
  h.held ⟨h.there.1.1, h.there.2⟩ (fun _ _ _ _ h3 k hk => h3 k (hk.elim (fun h => .inl (.inl h)) .inr))
theorem get_length (s : ByteArray) {L : List KV} (h : (L.map Prod.fst).Nodup) : (getL s L).length ≤ L.length := by
  by_cases c : hasL s L = true
  · have h1 := keys_get c
    have h2 := congrArg List.length h1
    rw [List.length_map, List.length_cons, ← keys_drop, List.length_map] at h2
    have := drop_has_length h c
    omega
  · unfold getL
    cases hf : L.find? (fun p => decide (p.1 = s)) with
    | none => exact Nat.le_refl _
    | some p =>
      have h3 := List.find?_some (p := fun p : KV => decide (p.1 = s)) hf
      have h4 : p.1 = s := by simpa using h3
      exact absurd (has_keys.2 (h4 ▸ List.mem_map_of_mem (f := Prod.fst) (List.mem_of_find?_eq_some hf))) c
theorem GoodS.sub {q : Int} {i : Nat} {L M : List KV} (h : GoodS q i L) (hs : ∀ p ∈ M, p ∈ L) (hl : M.length ≤ L.length) : GoodS q (i + 1) M :=
  ⟨Nat.le_succ_of_le (Nat.le_trans hl h.few), fun hq => by have := h.room hq; omega, fun hq => by have := h.none hq; subst this; exact List.eq_nil_of_length_eq_zero (by simpa using hl), fun p hp => h.short p (hs p hp)⟩
theorem GoodS.put {q : Int} {i : Nat} {L M : List KV} {s o : ByteArray} {v c : Int} {b : Bool} (h : GoodS q i L) (hq : 0 ≤ q) (hs : s.size ≤ 100) (hR : putR q s v L = (M, o, b, c)) : GoodS q (i + 1) M := by
  by_cases h0 : q = 0
  · subst h0
    unfold putR at hR
    rw [if_pos rfl] at hR
    injection hR with e _
    subst e
    exact h.sub (fun _ hp => hp) (Nat.le_refl _)
  · obtain ⟨n, rfl⟩ : ∃ n : Nat, (n : Int) = q := ⟨q.toNat, by omega⟩
    have hr := h.room h0
    obtain ⟨o', q', e⟩ := putR_take (n := n) (by omega) s v (L := L) (by omega)
    rw [e] at hR
    injection hR with e1 _
    subst e1
    have hd := dropL_length s L
    have hf := h.few
    refine ⟨?_, fun _ => ?_, fun hq0 => absurd hq0 h0, fun p hp => ?_⟩
    · rw [List.length_take]
      unfold putL
      rw [List.length_cons]
      omega
    · rw [List.length_take]
      omega
    · rcases List.mem_cons.1 (List.mem_of_mem_take hp) with rfl | hp
      · exact hs
      · exact h.short p (List.mem_filter.1 hp).1
theorem same_keys2 (L : List KV) (hl : L.length ≤ 1000) {A5 A6 : Option Addr} {c5 c6 : Nat} {w : World} (h5 : L.length ≤ c5) (h6 : L.length ≤ c6) (C5 : Kd.C Kd.string w A5 L.length (L.map Prod.fst)) (C6 : Kd.C Kd.string w A6 L.length (L.map Prod.fst)) :
    Calls Try.prog 13 #[.slice A5 L.length c5, .slice A6 L.length c6] w fun e w' => e = .returned (.bool true) ∧ Drawn0 w w' := by
  have e : (L.map Prod.fst).length = L.length := List.length_map _
  have := PLruScript.nameplatekit_Same_string.calls 2000 A5 c5 (L.map Prod.fst) A6 c6 (L.map Prod.fst) true w (by rw [e]; exact C5) (by rw [e]; exact h5) (by rw [e]; exact C6) (by rw [e]; exact h6) (same_self _ (by rw [e]; exact hl))
  rw [e] at this
  exact this
theorem row_cap {w : World} {base m c : Nat} {A : Option Addr} {ks : List ByteArray} (h : w.ownsRow base 9 1 (.slice A m c) m (ks.map Value.string)) (hk : ks.length = m) : m ≤ c := by
  have hR : Kd.R Kd.string 9 w base (fun _ => True) (.slice A m c) ks := Kd.R_of_own (enc := Value.string) (h1 := fun _ => rfl) (by rw [hk]; exact h) (fun _ _ => trivial)
  obtain ⟨A', c', e, hl, hC⟩ := Kd.R_reads hR
  injection e with e1 e2 e3
  omega
/-- What only goes on. -/
def onNormal (Q : Exit → Go.Act → World → Prop) : Exit → Go.Act → World → Prop
  | .normal, a, w => Q .normal a w
  | _, _, _ => False
theorem wp_normal {P : Program} {c : Code} {Q : Exit → Go.Act → World → Prop} {a : Go.Act} {w : World} (h : c.wp P (onNormal Q) a w) : c.wp P Q a w :=
  Code.wp_mono (fun e a w h => by cases e <;> first | exact h | exact h.elim) h
theorem scr_clear {w w5 w6 : World} {b t ob og base s9 : Nat} {q : Int} {v : Value} {L : List KV} {a : Act} (h : OwnX (X3 t ob og base q v L s9 a) (G3 t ob og v s9) w w5 b q []) (hx : XR w5.heap.size w5.heap.size q (.slice none 0 0) [] w6) (hb : Below w5.heap.size w5 w6) (_hbase : base ≤ w5.heap.size) (hob : w.heap.size ≤ ob) :
    OwnX (X3 t ob w5.heap.size base q (.slice none 0 0) [] s9 a) (G3 t ob w5.heap.size (.slice none 0 0) s9) w (w6.setCell ⟨ob, 0, none⟩ (.pointer (some ⟨w5.heap.size, 0, none⟩))) b q [] := by
  have h6 := h.below (stays_X3 _ _ _ _ _ _ _ _ _) hb
  obtain ⟨mb, E, g1, g2, g3, g4, g5, g6⟩ := h
  obtain ⟨⟨⟨k0, k1⟩, k2⟩, _⟩ := h6.there
  have k2' : w6.heap[s9]? = _ := k2
  have k0' : w6.heap[t]? = _ := k0
  have k1' : w6.heap[ob]? = _ := k1
  have ht : Turn (fun k => k = ob) w6 (w6.setCell ⟨ob, 0, none⟩ (.pointer (some ⟨w5.heap.size, 0, none⟩))) := Turn.setCell (F := fun k => k = ob) _ (a := ⟨ob, 0, none⟩) rfl _
  have hl0 := (g6 t (.inl (.inl (.inl rfl)))).1
  have hl1 := (g6 ob (.inl (.inl (.inr rfl)))).1
  have hl2 := (g6 s9 (.inl (.inr rfl))).1
  have hto : t ≠ ob := by
    rintro rfl
    rw [k0'] at k1'
    simp at k1'
  have hso : s9 ≠ ob := by
    rintro rfl
    rw [k2'] at k1'
    simp at k1'
  have hxl := hx.lt
  refine ⟨mb, E, (g1.below hb).keep (fun k hk => ht.block k ((g1.below hb).lt hk) (fun e => (g6 ob (.inl (.inl (.inr rfl)))).2 (e ▸ hk))), g2, g3, (g4.trans (hb.mono g4.size)).trans (ht.below (fun k hk => by rw [hk]; exact hob) (Nat.le_trans g4.size hb.size)), ⟨⟨⟨?_, ?_⟩, ?_⟩, ?_⟩, ?_⟩
  · exact (ht.block t (by have := hb.size; omega) hto).trans k0'
  · exact k1.set _
  · exact (ht.block s9 (by have := hb.size; omega) hso).trans k2'
  · exact ⟨(ht.block _ hxl (by omega)).trans hx.1, Kd.R_nil _ _ _ _ _⟩
  · rintro k (((rfl | rfl) | rfl) | rfl | hk)
    · exact ⟨by have := hb.size; have := ht.size; omega, (g6 _ (.inl (.inl (.inl rfl)))).2⟩
    · exact ⟨by have := hb.size; have := ht.size; omega, (g6 _ (.inl (.inl (.inr rfl)))).2⟩
    · exact ⟨by have := hb.size; have := ht.size; omega, (g6 _ (.inl (.inr rfl))).2⟩
    · exact ⟨by have := ht.size; omega, fun hf => by have := g1.lt hf; omega⟩
    · simp [Value.ownBlock] at hk
theorem scr_range {wr wA : World} {b : Nat} (h : (wr.alloc (.cells #[.pointer (some ⟨b, 0, none⟩)] 24)).alloc (.cells #[.int .i64 0] 3) = wA) :
    wA.heap.size = wr.heap.size + 2 ∧ wA.cell? ⟨wr.heap.size, 0, none⟩ = some (.pointer (some ⟨b, 0, none⟩)) ∧ Boxed wA (wr.heap.size + 1) 3 (.int .i64 0) ∧ Below wr.heap.size wr wA := by
  have b1 : Boxed wA wr.heap.size 24 (.pointer (some ⟨b, 0, none⟩)) := by
    rw [← h]
    exact (Boxed.new wr _ _).alloc _
  refine ⟨by rw [← h]; simp, b1.cell, ?_, by rw [← h]; exact ((Below.refl _ _).alloc (Nat.le_refl _) _).alloc (by simp) _⟩
  rw [← h]
  have := Boxed.new (wr.alloc (.cells #[.pointer (some ⟨b, 0, none⟩)] 24)) 3 (.int .i64 0)
  simp only [World.size_alloc] at this
  exact this
theorem scr_at {wA W : World} {t ob og base x : Nat} {q : Int} {v : Value} {L : List KV} (h : X2 t ob og base q v L wA) (ht : Turn (fun k => k = x) wA W) (hx : ∀ k, G2 t ob og v k → k < wA.heap.size ∧ k ≠ x) : X2 t ob og base q v L W :=
  stays_X2 _ _ _ _ _ _ _ wA W (fun k hk => ht.block k (hx k hk).1 (hx k hk).2) h
theorem scr_pass {L pre : List KV} {x : KV} (hp : pre ++ [x] <+: L) : x = rd_I L (pre.length : Int) := by
  obtain ⟨t, rfl⟩ := hp
  unfold rd_I
  rw [Int.toNat_natCast, List.getD_eq_getElem?_getD]
  simp
theorem keeps_set {B : Nat} {W : World} {p : Addr} {u : Value} : KeepsFrom B W (W.setCell p u).drew := ⟨(KeepsOthers.setCell W p u).size, fun k o _ hk ho => (KeepsOthers.setCell W p u).same k o hk ho⟩
/-- A walk over operations that only read, shut. -/
structure St (P : Program) (ops : Array Oper) (w : World) (Q : Go.Act → Prop) (l : List Oper) (a : Go.Act) : Prop where
  out : wpStill P ops w Q l a
section
variable {P : Program} {ops : Array Oper} {w : World} {Q : Go.Act → Prop} {o : Oper} {rest : List Oper} {a : Go.Act}
theorem st_step (h : ∀ K : Go.Act → Prop, (∀ a, St P ops w Q rest a → K a) → if Region.wanted o (yielded ops a.tmps) then o.still P a w K else K (a.put o.dst undef)) : St P ops w Q (o :: rest) a :=
  ⟨wpStill_step fun K hK => h K fun a ha => hK a ha.out⟩
theorem st_nil (h : Q a) : St P ops w Q [] a := ⟨wpStill_nil h⟩
end
theorem scr_end {w W : World} {n D t k : Nat} {b0 : Value} {tmps : Array Value} (hlow : Below w.heap.size w W) (hk : Boxed W t 4 b0) (ht : w.heap.size ≤ t) (hD : w.heap.size ≤ D) (hK : W.heap[D]? = some (.deferred (some []))) (h4 : tmps.getD 4 undef = .pointer (some ⟨t, 0, none⟩)) :
    bodyPostM Fence.wide n Try.prog Try.f7 (fun e W' => e = .returned (.bool true) ∧ Below w.heap.size w W') .ret { tmps := tmps, defers := [{ target := .collected D, args := #[] }] } ((W.setCell ⟨t, 0, none⟩ (.bool true)).drewN k) := by
  have hK0 := (KeepsOthers.setCell W ⟨t, 0, none⟩ (.bool true)).same D _ hK rfl
  have hK' : ((W.setCell ⟨t, 0, none⟩ (.bool true)).drewN k).heap[D]? = some (.deferred (some [])) := hK0
  have hne : some t ≠ some D := fun e => by
    have h1 : W.heap[t]? = _ := hk
    rw [Option.some.inj e, hK] at h1
    cases h1
  have hs : Boxed ((W.setCell ⟨t, 0, none⟩ (.bool true)).drewN k) t 4 (.bool true) := hk.set (.bool true)
  refine ⟨by simp, .inl ⟨_, _, rfl, run_takeDeferred hK', ?_⟩⟩
  exact ⟨_, results_cell (i := 4) (by kernel_rfl) _ _ ⟨t, 0, none⟩ (.bool true) h4 (hs.kept (grownBy_putObj' _ D _) hne).cell, rfl, (pw_below_drewN (hlow.setCell (p := ⟨t, 0, none⟩) ht (.bool true)) k).trans (belowK_b (w := w) (Nat.le_refl _) _ D _ _ hD hK' rfl rfl)⟩
attribute [local go_sem] Oper.semAt_some
set_option maxHeartbeats 8000000 in
set_option maxRecDepth 100000 in
theorem LruScript_in (n : Nat) (hn : 5 ≤ n) (m : Int) (A1 : Option Addr) (c1 : Nat) (l1 : List Act) (w : World) (hr : Kd.C kA w A1 l1.length l1) :
    CallsIn Fence.wide n Try.prog 7 #[.int .i64 m, .slice A1 l1.length c1] w fun e W' => e = .returned (.bool true) ∧ Below w.heap.size w W' := by
  have h1 : 1 ≤ n := by omega
  have HR := Aside0.mk hr
  clear hr
  refine callsIn_of_wp_marks Try.func7 rfl trivial ?_ rfl
  simp only [Try.ntmps7, List.size_toArray, List.length_cons, List.length_nil, Nat.reduceAdd, Nat.reduceSub, Array.replicate_succ, Array.replicate_zero, List.push_toArray, List.append_toArray, List.nil_append, List.cons_append]
  by_cases hlen : (l1.length : Int) > 200
  · gi_wp2_with (first
      | (refine ⟨trivial, ?_⟩; gi_at_call 9; (with_reducible refine CallsIn.mono (callsIn_wide.2 (lives_calls _)) ?_); rintro e w1 ⟨rfl, hb1⟩; obtain ⟨k0, hb2⟩ := scr_first hb1; have e2 := k0.cell; have f2 := k0.frozen; have K0 := Aside0.mk k0; have HB1 := Aside0.mk hb2; clear hb1 hb2 k0))
    exact ⟨_, results_cell (i := 4) (by kernel_rfl) _ _ ⟨w.heap.size, 0, none⟩ (.bool true) rfl (K0.out.set (.bool true)).cell, rfl, HB1.out.setCell (p := ⟨w.heap.size, 0, none⟩) (Nat.le_refl _) (.bool true)⟩
  · gi_wp2_with (first
      | (refine ⟨trivial, ?_⟩; gi_at_call 9; (with_reducible refine CallsIn.mono (callsIn_wide.2 (lives_calls _)) ?_); rintro e w1 ⟨rfl, hb1⟩; obtain ⟨k0, hb2⟩ := scr_first hb1; have e2 := k0.cell; have f2 := k0.frozen; have K0 := Aside0.mk k0; have HB1 := Aside0.mk hb2; clear hb1 hb2 k0)
      | (refine ⟨trivial, ?_⟩; gi_at_call 10; (with_reducible refine CallsIn.mono (callsIn_wide.2 (xNew (w0 := w) (X := fun W => Boxed W w.heap.size 4 (.bool false)) (G := fun k => k = w.heap.size) (stays_box _ _ _) K0.out (fun k hk => by rw [hk]; exact K0.out.lt) HB1.out m (q := (if 0 < m then m else 0)) rfl)) ?_); rintro e w2 ⟨rfl, h2⟩; have H2 := Aside0.mk h2; clear h2)
      | (refine ⟨trivial, ?_⟩; gi_at_call 28; (with_reducible refine CallsIn.mono (callsIn_wide.2 (rNew m _)) ?_); rintro e w3 ⟨rfl, hx3, hb3⟩; have HX3 := Aside0.mk hx3; have HB3 := Aside0.mk hb3; clear hx3 hb3))
    have HL := Aside0.mk hlen
    obtain ⟨qm, hqm⟩ : ∃ q, (if 0 < m then m else 0) = q := ⟨_, rfl⟩
    have hq0 : 0 ≤ qm := by rw [← hqm]; split <;> omega
    rw [hqm] at H2 HX3
    have HST := Aside0.mk (scr_start H2.out HX3.out HB3.out)
    have hz3 : w.heap.size ≤ w2.heap.size := H2.out.low.size
    obtain ⟨ob, hob⟩ : ∃ q, w3.heap.size = q := ⟨_, rfl⟩
    obtain ⟨og0, hog⟩ : ∃ q, w2.heap.size = q := ⟨_, rfl⟩
    have HOB : Aside0 (w.heap.size ≤ w3.heap.size) := ⟨Nat.le_trans hz3 HB3.out.size⟩
    rw [hob] at HOB
    rw [hob, hog] at HST
    rw [hog] at hz3
    rw [hob, hog]
    have HQ0 := Aside0.mk hq0
    clear hob hog HX3 HB3 H2 e2 f2 K0
    gi_loopw [7] (fun v7 wr => ∃ (i : Nat) (L : List KV) (og : Nat) (v : Value), v7 = .int .i64 (i : Int) ∧ Aside0 (i ≤ l1.length) ∧ Aside0 (GoodS qm i L) ∧ Aside0 (w.heap.size ≤ og) ∧ Aside0 (OwnX (X2 w.heap.size ob og w.heap.size qm v L) (G2 w.heap.size ob og v) w wr w1.heap.size qm L))
      (fun v7 _ => l1.length - (intOf v7).toNat)
    case atStart => exact ⟨0, [], og0, _, rfl, ⟨Nat.zero_le _⟩, ⟨⟨by simp, fun _ => by simp; omega, fun _ => rfl, fun p hp => (List.not_mem_nil hp).elim⟩⟩, ⟨hz3⟩, HST⟩
    case round =>
      clear HST
      obtain ⟨i, L, og, v, rfl, HI, HG, HOG, HO⟩ := hrel
      have hI := HI.out
      by_cases hi : i < l1.length
      · obtain ⟨ad, e5, x0, x1, x2⟩ := at_A (Kd.C_below HR.out HO.out.low) (i : Int) (by omega) (by omega)
        subst e5
        rw [Int.toNat_natCast] at x0 x1 x2
        obtain ⟨a, ha⟩ : ∃ a, rd_A l1 (i : Int) = a := ⟨_, rfl⟩
        rw [ha] at x0 x1 x2
        have q1 : (i : Int) < (l1.length : Int) := by omega
        have HE := Aside0.mk (scr_enter (a := a) HO.out)
        clear ha
        by_cases hs : (a.key.size : Int) > 100
        · obtain ⟨⟨⟨k0, k1⟩, k2⟩, k3⟩ := HE.out.there
          have e2 := k0.cell
          have f2 := k0.frozen
          have K0 := Aside0.mk k0
          clear k0 k1 k2 k3
          gi_wp2
          exact ⟨_, results_cell (i := 4) (by kernel_rfl) _ _ ⟨w.heap.size, 0, none⟩ (.bool true) rfl (K0.out.set (.bool true)).cell, rfl, HE.out.low.setCell (p := ⟨w.heap.size, 0, none⟩) (Nat.le_refl _) (.bool true)⟩
        · obtain ⟨r, hp, hr5⟩ := pick_in a.kind 5 (by omega) (by omega)
          have HP := Aside0.mk hp
          have HS : Aside0 (a.key.size ≤ 100) := ⟨by omega⟩
          have hs2 : decide ((a.key.size : Int) > 100) = false := decide_eq_false hs
          clear hp hs
          match r, hr5 with
          | 0, _ =>
            obtain ⟨M, o, pq, cc, hput⟩ : ∃ M o pq cc, putR qm a.key a.v L = (M, o, pq, cc) := ⟨_, _, _, _, rfl⟩
            have HGM := Aside0.mk (HG.out.put HQ0.out HS.out hput)
            have HPT := Aside0.mk (fun k => xPut (stays_X3 _ _ _ _ _ _ _ _ _) (HE.out.drewN (stays_X3 _ _ _ _ _ _ _ _ _) k) HQ0.out a.key (by have := HS.out; omega) a.v (by have := HG.out.few; omega) (fun p hp => by have := HG.out.short p hp; omega) hput)
            unfold vl at HPT
            have HND := Aside0.mk HO.out.nodup
            have HPUT := Aside0.mk hput
            clear hput
            gi_wp2_with (first
              | (refine ⟨trivial, ?_⟩; gi_at_call 15; (refine CallsIn.mono (callsIn_wide.2 (PLruScript.nameplatekit_Pick.calls a.kind 5 0 _ HP.out)) ?_); rintro e w4 ⟨rfl, n4, rfl⟩)
              | (refine ⟨trivial, ?_⟩; gi_at_call 11; (with_reducible refine CallsIn.mono (callsIn_wide.2 (HPT.out _)) ?_); rintro e w5 ⟨rfl, h5⟩; have H5 := Aside0.mk h5; obtain ⟨⟨⟨k0, k1⟩, k2⟩, k3⟩ := h5.there; obtain ⟨y0, y1, y2, _⟩ := k2.cells; have e4 := k1.cell; clear h5 k0 k1 k2 k3)
              | (refine ⟨trivial, ?_⟩; gi_at_call 29; (with_reducible refine CallsIn.mono (callsIn_wide.2 (rPut H5.out.there.2 a.key a.v (by have := HG.out.few; omega) HND.out H5.out.low.size HQ0.out HG.out.room HPUT.out)) ?_); rintro e w6 ⟨rfl, v6, hx6, ht6, hv6⟩; have H6 := Aside0.mk (OwnX.ref (stays_and (stays_XC _ _ _) (stays_XA _ _)) H5.out (X3.ne H5.out.there) HOG.out ht6 hx6 hv6); clear hx6 ht6 hv6 y0 y1 y2 e4))
            have HOGN := HOG
            obtain ⟨A6, c6, e6, hl6, _⟩ := H6.out.there.2.form
            subst e6
            have H6D := Aside0.mk (H6.out.below (stays_X3 _ _ _ _ _ _ _ _ _) ((Below.refl _ _).drew))
            refine wpIn_wide.2 (wp_normal ?_)
            refine start_ (n := 20) (S := fun w' => w'.cell? ⟨ob, 0, none⟩ = some (.pointer (some ⟨og, 0, none⟩)) ∧ w'.cell? ⟨og, 1, none⟩ = some (.slice A6 M.length c6)) (ds := []) #[false, false, false, false, false, false, false, false, false, false, false, false, false, false, false, false, false, false, false, false] (by kernel_rfl) rfl rfl ⟨H6D.out.there.1.1.2.cell, H6D.out.there.2.cells.2.1⟩ (fun hHeld => ?_)
            refine pure_ (i := 0) (N := some 152) (v := ?_) (a' := ?_) #[true, false, false, false, false, false, false, false, false, false, false, false, false, false, false, false, false, false, false, false] rfl rfl (by kernel_rfl) (fun _ _ _ h => h) (Or.inl ⟨by rfl, ?_⟩) ?_ ?_
            rotate_left
            · intro w'
              go_simp
              with_reducible rfl
            rotate_left
            · simp only [Act.put, List.setIfInBounds_toArray, List.set_cons_zero, List.set_cons_succ, i64_w, i32_w]
              rfl
            refine pure_ (i := 1) (N := some 153) (v := ?_) (a' := ?_) #[true, true, false, false, false, false, false, false, false, false, false, false, false, false, false, false, false, false, false, false] rfl rfl (by kernel_rfl) (fun _ _ _ h => h) (Or.inl ⟨by rfl, ?_⟩) ?_ ?_
            rotate_left
            · intro w'
              go_simp
              with_reducible rfl
            rotate_left
            · simp only [Act.put, List.setIfInBounds_toArray, List.set_cons_zero, List.set_cons_succ, i64_w, i32_w]
              rfl
            refine pure_ (i := 2) (N := some 154) (v := ?_) (a' := ?_) #[true, true, true, false, false, false, false, false, false, false, false, false, false, false, false, false, false, false, false, false] rfl rfl (by kernel_rfl) (fun _ _ _ h => h) (Or.inl ⟨by rfl, ?_⟩) ?_ ?_
            rotate_left
            · intro w'
              go_simp
              with_reducible rfl
            rotate_left
            · simp only [Act.put, List.setIfInBounds_toArray, List.set_cons_zero, List.set_cons_succ, i64_w, i32_w]
              rfl
            refine pure_ (i := 3) (N := some 155) (v := ?_) (a' := ?_) #[true, true, true, true, false, false, false, false, false, false, false, false, false, false, false, false, false, false, false, false] rfl rfl (by kernel_rfl) (fun _ _ _ h => h) (Or.inl ⟨by rfl, ?_⟩) ?_ ?_
            rotate_left
            · intro w'
              go_simp
              with_reducible rfl
            rotate_left
            · simp only [Act.put, List.setIfInBounds_toArray, List.set_cons_zero, List.set_cons_succ, i64_w, i32_w]
              rfl
            refine take_ (i := 5) (N := some 157) (v := ?_) (a' := ?_) #[true, true, true, true, false, true, false, false, false, false, false, false, false, false, false, false, false, false, false, false] rfl rfl (by kernel_rfl) (fun _ _ _ h => h) (Or.inl ⟨by rfl, ?_⟩) hHeld ?_ ?_
            rotate_left
            · rintro w' ⟨s0, s1⟩
              go_simp
              with_reducible rfl
            rotate_left
            · simp only [Act.put, List.setIfInBounds_toArray, List.set_cons_zero, List.set_cons_succ, i64_w, i32_w]
              rfl
            refine pure_ (i := 6) (N := some 158) (v := ?_) (a' := ?_) #[true, true, true, true, false, true, true, false, false, false, false, false, false, false, false, false, false, false, false, false] rfl rfl (by kernel_rfl) (fun _ _ _ h => h) (Or.inl ⟨by rfl, ?_⟩) ?_ ?_
            rotate_left
            · intro w'
              go_simp
              with_reducible rfl
            rotate_left
            · simp only [Act.put, List.setIfInBounds_toArray, List.set_cons_zero, List.set_cons_succ, i64_w, i32_w]
              rfl
            refine pure_ (i := 7) (N := some 159) (v := ?_) (a' := ?_) #[true, true, true, true, false, true, true, true, false, false, false, false, false, false, false, false, false, false, false, false] rfl rfl (by kernel_rfl) (fun _ _ _ h => h) (Or.inl ⟨by rfl, ?_⟩) ?_ ?_
            rotate_left
            · intro w'
              go_simp
              with_reducible rfl
            rotate_left
            · simp only [Act.put, List.setIfInBounds_toArray, List.set_cons_zero, List.set_cons_succ, i64_w, i32_w]
              rfl
            refine take_ (i := 8) (N := some 160) (v := ?_) (a' := ?_) #[true, true, true, true, false, true, true, true, true, false, false, false, false, false, false, false, false, false, false, false] rfl rfl (by kernel_rfl) (fun _ _ _ h => h) (Or.inl ⟨by rfl, ?_⟩) hHeld ?_ ?_
            rotate_left
            · rintro w' ⟨s0, s1⟩
              go_simp
              with_reducible rfl
            rotate_left
            · simp only [Act.put, List.setIfInBounds_toArray, List.set_cons_zero, List.set_cons_succ, i64_w, i32_w]
              rfl
            refine pure_ (i := 9) (N := some 161) (v := ?_) (a' := ?_) #[true, true, true, true, false, true, true, true, true, true, false, false, false, false, false, false, false, false, false, false] rfl rfl (by kernel_rfl) (fun _ _ _ h => h) (Or.inl ⟨by rfl, ?_⟩) ?_ ?_
            rotate_left
            · intro w'
              go_simp
              with_reducible rfl
            rotate_left
            · simp only [Act.put, List.setIfInBounds_toArray, List.set_cons_zero, List.set_cons_succ, i64_w, i32_w]
              rfl
            refine one_ (i := 4) (N := some 156) #[true, true, true, true, true, true, true, true, true, true, false, false, false, false, false, false, false, false, false, false] rfl rfl (by kernel_rfl) (by decide) (fun K hK => ?_)
            refine goes_ Try.func17 (by kernel_rfl) rfl #[.pointer (some ⟨w1.heap.size, 0, none⟩)] (by rfl) rfl rfl (by simp only [List.map_toArray, List.map_cons, List.map_nil]; rfl) ?_
            with_reducible refine ((xLen (stays_X3 _ _ _ _ _ _ _ _ _) H6D.out)).mono ?_
            rintro e w7 ⟨rfl, h7, _⟩
            have H7 := Aside0.mk h7
            clear h7
            refine ⟨_, rfl, ?_⟩
            refine hK.out _ _ ⟨H7.out.there.1.1.2.cell, H7.out.there.2.cells.2.1⟩ (fun hHeld => ?_)
            clear hK K
            refine norm_ (a' := ?_) ?_ ?_
            rotate_left
            · show Act.put _ (some 156) _ = _
              simp only [Act.put, List.setIfInBounds_toArray, List.set_cons_zero, List.set_cons_succ, i64_w, i32_w]
              rfl
            refine pure_ (i := 10) (N := some 162) (v := ?_) (a' := ?_) #[true, true, true, true, true, true, true, true, true, true, true, false, false, false, false, false, false, false, false, false] rfl rfl (by kernel_rfl) (fun _ _ _ h => h) (Or.inl ⟨by rfl, ?_⟩) ?_ ?_
            rotate_left
            · intro w'
              go_simp
              with_reducible rfl
            rotate_left
            · simp only [Act.put, List.setIfInBounds_toArray, List.set_cons_zero, List.set_cons_succ, i64_w, i32_w]
              rfl
            refine pure_ (i := 11) (N := some 163) (v := ?_) (a' := ?_) #[true, true, true, true, true, true, true, true, true, true, true, true, false, false, false, false, false, false, false, false] rfl rfl (by kernel_rfl) (fun _ _ _ h => h) (Or.inl ⟨by rfl, ?_⟩) ?_ ?_
            rotate_left
            · intro w'
              go_simp
              with_reducible rfl
            rotate_left
            · simp only [Act.put, List.setIfInBounds_toArray, List.set_cons_zero, List.set_cons_succ, i64_w, i32_w]
              rfl
            refine pure_ (i := 12) (N := some 164) (v := ?_) (a' := ?_) #[true, true, true, true, true, true, true, true, true, true, true, true, true, false, false, false, false, false, false, false] rfl rfl (by kernel_rfl) (fun _ _ _ h => h) (Or.inl ⟨by rfl, ?_⟩) ?_ ?_
            rotate_left
            · intro w'
              go_simp
              with_reducible rfl
            rotate_left
            · simp only [Act.put, List.setIfInBounds_toArray, List.set_cons_zero, List.set_cons_succ, i64_w, i32_w]
              rfl
            refine pure_ (i := 13) (N := some 165) (v := ?_) (a' := ?_) #[true, true, true, true, true, true, true, true, true, true, true, true, true, true, false, false, false, false, false, false] rfl rfl (by kernel_rfl) (fun _ _ _ h => h) (Or.inl ⟨by rfl, ?_⟩) ?_ ?_
            rotate_left
            · intro w'
              go_simp
              with_reducible rfl
            rotate_left
            · simp only [Act.put, List.setIfInBounds_toArray, List.set_cons_zero, List.set_cons_succ, i64_w, i32_w]
              rfl
            refine take_ (i := 15) (N := some 167) (v := ?_) (a' := ?_) #[true, true, true, true, true, true, true, true, true, true, true, true, true, true, false, true, false, false, false, false] rfl rfl (by kernel_rfl) (fun _ _ _ h => h) (Or.inl ⟨by rfl, ?_⟩) hHeld ?_ ?_
            rotate_left
            · rintro w' ⟨s0, s1⟩
              go_simp
              with_reducible rfl
            rotate_left
            · simp only [Act.put, List.setIfInBounds_toArray, List.set_cons_zero, List.set_cons_succ, i64_w, i32_w]
              rfl
            refine one_ (i := 14) (N := some 166) #[true, true, true, true, true, true, true, true, true, true, true, true, true, true, true, true, false, false, false, false] rfl rfl (by kernel_rfl) (by decide) (fun K hK => ?_)
            refine goes_ Try.func12 (by kernel_rfl) rfl #[.pointer (some ⟨w1.heap.size, 0, none⟩)] (by rfl) rfl rfl (by simp only [List.map_toArray, List.map_cons, List.map_nil]; rfl) ?_
            with_reducible refine ((yKeys H7.out (by have := HGM.out.few; omega))).mono ?_
            rintro e w8 ⟨A8, c8, rfl, ho8, hb8⟩
            have H8 := Aside0.mk (H7.out.below (stays_X3 _ _ _ _ _ _ _ _ _) hb8)
            have HO8 := Aside0.mk ho8
            clear ho8 hb8
            refine ⟨_, rfl, ?_⟩
            refine hK.out _ _ ⟨H8.out.there.1.1.2.cell, H8.out.there.2.cells.2.1⟩ (fun hHeld => ?_)
            clear hK K
            refine norm_ (a' := ?_) ?_ ?_
            rotate_left
            · show Act.put _ (some 166) _ = _
              simp only [Act.put, List.setIfInBounds_toArray, List.set_cons_zero, List.set_cons_succ, i64_w, i32_w]
              rfl
            refine one_ (i := 16) (N := some 168) #[true, true, true, true, true, true, true, true, true, true, true, true, true, true, true, true, true, false, false, false] rfl rfl (by kernel_rfl) (by decide) (fun K hK => ?_)
            refine goes_ Try.func34 (by kernel_rfl) rfl #[.pointer (some ⟨og, 0, none⟩)] (by rfl) rfl rfl (by simp only [List.map_toArray, List.map_cons, List.map_nil]; rfl) ?_
            with_reducible refine ((rKeys H8.out.there.2 (by have := HGM.out.few; omega))).mono ?_
            rintro e w9 ⟨v9, rfl, hr9, hb9⟩
            obtain ⟨A9, c9, e9, hl9, hC9⟩ := Kd.R_reads hr9
            rw [List.length_map] at e9 hl9 hC9
            subst e9
            have H9 := Aside0.mk (H8.out.below (stays_X3 _ _ _ _ _ _ _ _ _) hb9)
            have HL9 := Aside0.mk hl9
            have HC9 := Aside0.mk hC9
            have HC8 := Aside0.mk (Kd.C_below (row_reads HO8.out (List.length_map _)) hb9)
            have HL8 := Aside0.mk (row_cap HO8.out (List.length_map _))
            clear hr9 hb9 hl9 hC9
            refine ⟨_, rfl, ?_⟩
            refine hK.out _ _ ⟨H9.out.there.1.1.2.cell, H9.out.there.2.cells.2.1⟩ (fun hHeld => ?_)
            clear hK K
            refine norm_ (a' := ?_) ?_ ?_
            rotate_left
            · show Act.put _ (some 168) _ = _
              simp only [Act.put, List.setIfInBounds_toArray, List.set_cons_zero, List.set_cons_succ, i64_w, i32_w]
              rfl
            refine one_ (i := 17) (N := some 169) #[true, true, true, true, true, true, true, true, true, true, true, true, true, true, true, true, true, true, false, false] rfl rfl (by kernel_rfl) (by decide) (fun K hK => ?_)
            refine goes_ Try.func13 (by kernel_rfl) rfl #[.slice A8 M.length c8, .slice A9 M.length c9] (by rfl) rfl rfl (by simp only [List.map_toArray, List.map_cons, List.map_nil]; rfl) ?_
            with_reducible refine ((same_keys2 M (by have := HGM.out.few; omega) HL8.out HL9.out HC8.out HC9.out)).mono ?_
            rintro e wB ⟨rfl, nB, rfl⟩
            refine ⟨_, rfl, ?_⟩
            refine hK.out _ _ ⟨H9.out.there.1.1.2.cell, H9.out.there.2.cells.2.1⟩ (fun hHeld => ?_)
            clear hK K
            refine norm_ (a' := ?_) ?_ ?_
            rotate_left
            · show Act.put _ (some 169) _ = _
              simp only [Act.put, List.setIfInBounds_toArray, List.set_cons_zero, List.set_cons_succ, i64_w, i32_w]
              rfl
            refine pure_ (i := 18) (N := some 170) (v := ?_) (a' := ?_) #[true, true, true, true, true, true, true, true, true, true, true, true, true, true, true, true, true, true, true, false] rfl rfl (by kernel_rfl) (fun _ _ _ h => h) (Or.inl ⟨by rfl, ?_⟩) ?_ ?_
            rotate_left
            · intro w'
              go_simp
              with_reducible rfl
            rotate_left
            · simp only [Act.put, List.setIfInBounds_toArray, List.set_cons_zero, List.set_cons_succ, i64_w, i32_w]
              rfl
            refine pure_ (i := 19) (N := some 171) (v := ?_) (a' := ?_) #[true, true, true, true, true, true, true, true, true, true, true, true, true, true, true, true, true, true, true, true] rfl rfl (by kernel_rfl) (fun _ _ _ h => h) (Or.inl ⟨by rfl, ?_⟩) ?_ ?_
            rotate_left
            · intro w'
              go_simp
              with_reducible rfl
            rotate_left
            · simp only [Act.put, List.setIfInBounds_toArray, List.set_cons_zero, List.set_cons_succ, i64_w, i32_w]
              rfl
            refine done_ (by kernel_rfl) ?_
            unfold onNormal
            gi_wp2
            go_roundw
            case rel => exact ⟨i + 1, M, og, _, (by first | exact int_step (by have := HL.out; omega) | rfl | simp), ⟨hi⟩, HGM, HOGN, ⟨scr_leave (H9.out.drewN (stays_X3 _ _ _ _ _ _ _ _ _) nB)⟩⟩
            case measure =>
              have := left_step (i := i) (n := l1.length) (by have := HL.out; omega) hi
              first
                | exact this
                | (rw [wrap_in (by omega) (by omega)] at this; exact this)
          | 1, _ =>
            obtain ⟨y, there, hlk⟩ : ∃ y t, lookL a.key L = (y, t) := ⟨_, _, rfl⟩
            have HGM := Aside0.mk (HG.out.sub (get_sub (s := a.key)) (get_length a.key HO.out.nodup))
            have HPT := Aside0.mk (fun k => xGet (stays_X3 _ _ _ _ _ _ _ _ _) (HE.out.drewN (stays_X3 _ _ _ _ _ _ _ _ _) k) a.key (by have := HS.out; omega) hlk)
            unfold vl at HPT
            have HND := Aside0.mk HO.out.nodup
            have HLQ := Aside0.mk hlk
            clear hlk
            gi_wp2_with (first
              | (refine ⟨trivial, ?_⟩; gi_at_call 15; (refine CallsIn.mono (callsIn_wide.2 (PLruScript.nameplatekit_Pick.calls a.kind 5 1 _ HP.out)) ?_); rintro e w4 ⟨rfl, n4, rfl⟩)
              | (refine ⟨trivial, ?_⟩; gi_at_call 16; (with_reducible refine CallsIn.mono (callsIn_wide.2 (HPT.out _)) ?_); rintro e w5 ⟨rfl, h5⟩; have H5 := Aside0.mk h5; obtain ⟨⟨⟨k0, k1⟩, k2⟩, k3⟩ := h5.there; obtain ⟨y0, y1, y2, _⟩ := k2.cells; have e4 := k1.cell; have hg := rGet k3 a.key (by have := HG.out.few; omega) HND.out h5.low.size; rw [HLQ.out] at hg; have HGT := Aside0.mk hg; clear h5 k0 k1 k2 k3 hg)
              | (refine ⟨trivial, ?_⟩; gi_at_call 30; (with_reducible refine CallsIn.mono (callsIn_wide.2 HGT.out) ?_); rintro e w6 ⟨rfl, v6, hx6, ht6, hv6⟩; have H6 := Aside0.mk (OwnX.ref (stays_and (stays_XC _ _ _) (stays_XA _ _)) H5.out (X3.ne H5.out.there) HOG.out ht6 hx6 hv6); clear hx6 ht6 hv6 y0 y1 y2 e4))
            have HOGN := HOG
            obtain ⟨A6, c6, e6, hl6, _⟩ := H6.out.there.2.form
            subst e6
            have H6D := Aside0.mk (H6.out.below (stays_X3 _ _ _ _ _ _ _ _ _) ((Below.refl _ _).drew))
            refine wpIn_wide.2 (wp_normal ?_)
            refine start_ (n := 20) (S := fun w' => w'.cell? ⟨ob, 0, none⟩ = some (.pointer (some ⟨og, 0, none⟩)) ∧ w'.cell? ⟨og, 1, none⟩ = some (.slice A6 (getL a.key L).length c6)) (ds := []) #[false, false, false, false, false, false, false, false, false, false, false, false, false, false, false, false, false, false, false, false] (by kernel_rfl) rfl rfl ⟨H6D.out.there.1.1.2.cell, H6D.out.there.2.cells.2.1⟩ (fun hHeld => ?_)
            refine pure_ (i := 0) (N := some 152) (v := ?_) (a' := ?_) #[true, false, false, false, false, false, false, false, false, false, false, false, false, false, false, false, false, false, false, false] rfl rfl (by kernel_rfl) (fun _ _ _ h => h) (Or.inl ⟨by rfl, ?_⟩) ?_ ?_
            rotate_left
            · intro w'
              go_simp
              with_reducible rfl
            rotate_left
            · simp only [Act.put, List.setIfInBounds_toArray, List.set_cons_zero, List.set_cons_succ, i64_w, i32_w]
              rfl
            refine pure_ (i := 1) (N := some 153) (v := ?_) (a' := ?_) #[true, true, false, false, false, false, false, false, false, false, false, false, false, false, false, false, false, false, false, false] rfl rfl (by kernel_rfl) (fun _ _ _ h => h) (Or.inl ⟨by rfl, ?_⟩) ?_ ?_
            rotate_left
            · intro w'
              go_simp
              with_reducible rfl
            rotate_left
            · simp only [Act.put, List.setIfInBounds_toArray, List.set_cons_zero, List.set_cons_succ, i64_w, i32_w]
              rfl
            refine pure_ (i := 2) (N := some 154) (v := ?_) (a' := ?_) #[true, true, true, false, false, false, false, false, false, false, false, false, false, false, false, false, false, false, false, false] rfl rfl (by kernel_rfl) (fun _ _ _ h => h) (Or.inl ⟨by rfl, ?_⟩) ?_ ?_
            rotate_left
            · intro w'
              go_simp
              with_reducible rfl
            rotate_left
            · simp only [Act.put, List.setIfInBounds_toArray, List.set_cons_zero, List.set_cons_succ, i64_w, i32_w]
              rfl
            refine pure_ (i := 3) (N := some 155) (v := ?_) (a' := ?_) #[true, true, true, true, false, false, false, false, false, false, false, false, false, false, false, false, false, false, false, false] rfl rfl (by kernel_rfl) (fun _ _ _ h => h) (Or.inl ⟨by rfl, ?_⟩) ?_ ?_
            rotate_left
            · intro w'
              go_simp
              with_reducible rfl
            rotate_left
            · simp only [Act.put, List.setIfInBounds_toArray, List.set_cons_zero, List.set_cons_succ, i64_w, i32_w]
              rfl
            refine take_ (i := 5) (N := some 157) (v := ?_) (a' := ?_) #[true, true, true, true, false, true, false, false, false, false, false, false, false, false, false, false, false, false, false, false] rfl rfl (by kernel_rfl) (fun _ _ _ h => h) (Or.inl ⟨by rfl, ?_⟩) hHeld ?_ ?_
            rotate_left
            · rintro w' ⟨s0, s1⟩
              go_simp
              with_reducible rfl
            rotate_left
            · simp only [Act.put, List.setIfInBounds_toArray, List.set_cons_zero, List.set_cons_succ, i64_w, i32_w]
              rfl
            refine pure_ (i := 6) (N := some 158) (v := ?_) (a' := ?_) #[true, true, true, true, false, true, true, false, false, false, false, false, false, false, false, false, false, false, false, false] rfl rfl (by kernel_rfl) (fun _ _ _ h => h) (Or.inl ⟨by rfl, ?_⟩) ?_ ?_
            rotate_left
            · intro w'
              go_simp
              with_reducible rfl
            rotate_left
            · simp only [Act.put, List.setIfInBounds_toArray, List.set_cons_zero, List.set_cons_succ, i64_w, i32_w]
              rfl
            refine pure_ (i := 7) (N := some 159) (v := ?_) (a' := ?_) #[true, true, true, true, false, true, true, true, false, false, false, false, false, false, false, false, false, false, false, false] rfl rfl (by kernel_rfl) (fun _ _ _ h => h) (Or.inl ⟨by rfl, ?_⟩) ?_ ?_
            rotate_left
            · intro w'
              go_simp
              with_reducible rfl
            rotate_left
            · simp only [Act.put, List.setIfInBounds_toArray, List.set_cons_zero, List.set_cons_succ, i64_w, i32_w]
              rfl
            refine take_ (i := 8) (N := some 160) (v := ?_) (a' := ?_) #[true, true, true, true, false, true, true, true, true, false, false, false, false, false, false, false, false, false, false, false] rfl rfl (by kernel_rfl) (fun _ _ _ h => h) (Or.inl ⟨by rfl, ?_⟩) hHeld ?_ ?_
            rotate_left
            · rintro w' ⟨s0, s1⟩
              go_simp
              with_reducible rfl
            rotate_left
            · simp only [Act.put, List.setIfInBounds_toArray, List.set_cons_zero, List.set_cons_succ, i64_w, i32_w]
              rfl
            refine pure_ (i := 9) (N := some 161) (v := ?_) (a' := ?_) #[true, true, true, true, false, true, true, true, true, true, false, false, false, false, false, false, false, false, false, false] rfl rfl (by kernel_rfl) (fun _ _ _ h => h) (Or.inl ⟨by rfl, ?_⟩) ?_ ?_
            rotate_left
            · intro w'
              go_simp
              with_reducible rfl
            rotate_left
            · simp only [Act.put, List.setIfInBounds_toArray, List.set_cons_zero, List.set_cons_succ, i64_w, i32_w]
              rfl
            refine one_ (i := 4) (N := some 156) #[true, true, true, true, true, true, true, true, true, true, false, false, false, false, false, false, false, false, false, false] rfl rfl (by kernel_rfl) (by decide) (fun K hK => ?_)
            refine goes_ Try.func17 (by kernel_rfl) rfl #[.pointer (some ⟨w1.heap.size, 0, none⟩)] (by rfl) rfl rfl (by simp only [List.map_toArray, List.map_cons, List.map_nil]; rfl) ?_
            with_reducible refine ((xLen (stays_X3 _ _ _ _ _ _ _ _ _) H6D.out)).mono ?_
            rintro e w7 ⟨rfl, h7, _⟩
            have H7 := Aside0.mk h7
            clear h7
            refine ⟨_, rfl, ?_⟩
            refine hK.out _ _ ⟨H7.out.there.1.1.2.cell, H7.out.there.2.cells.2.1⟩ (fun hHeld => ?_)
            clear hK K
            refine norm_ (a' := ?_) ?_ ?_
            rotate_left
            · show Act.put _ (some 156) _ = _
              simp only [Act.put, List.setIfInBounds_toArray, List.set_cons_zero, List.set_cons_succ, i64_w, i32_w]
              rfl
            refine pure_ (i := 10) (N := some 162) (v := ?_) (a' := ?_) #[true, true, true, true, true, true, true, true, true, true, true, false, false, false, false, false, false, false, false, false] rfl rfl (by kernel_rfl) (fun _ _ _ h => h) (Or.inl ⟨by rfl, ?_⟩) ?_ ?_
            rotate_left
            · intro w'
              go_simp
              with_reducible rfl
            rotate_left
            · simp only [Act.put, List.setIfInBounds_toArray, List.set_cons_zero, List.set_cons_succ, i64_w, i32_w]
              rfl
            refine pure_ (i := 11) (N := some 163) (v := ?_) (a' := ?_) #[true, true, true, true, true, true, true, true, true, true, true, true, false, false, false, false, false, false, false, false] rfl rfl (by kernel_rfl) (fun _ _ _ h => h) (Or.inl ⟨by rfl, ?_⟩) ?_ ?_
            rotate_left
            · intro w'
              go_simp
              with_reducible rfl
            rotate_left
            · simp only [Act.put, List.setIfInBounds_toArray, List.set_cons_zero, List.set_cons_succ, i64_w, i32_w]
              rfl
            refine pure_ (i := 12) (N := some 164) (v := ?_) (a' := ?_) #[true, true, true, true, true, true, true, true, true, true, true, true, true, false, false, false, false, false, false, false] rfl rfl (by kernel_rfl) (fun _ _ _ h => h) (Or.inl ⟨by rfl, ?_⟩) ?_ ?_
            rotate_left
            · intro w'
              go_simp
              with_reducible rfl
            rotate_left
            · simp only [Act.put, List.setIfInBounds_toArray, List.set_cons_zero, List.set_cons_succ, i64_w, i32_w]
              rfl
            refine pure_ (i := 13) (N := some 165) (v := ?_) (a' := ?_) #[true, true, true, true, true, true, true, true, true, true, true, true, true, true, false, false, false, false, false, false] rfl rfl (by kernel_rfl) (fun _ _ _ h => h) (Or.inl ⟨by rfl, ?_⟩) ?_ ?_
            rotate_left
            · intro w'
              go_simp
              with_reducible rfl
            rotate_left
            · simp only [Act.put, List.setIfInBounds_toArray, List.set_cons_zero, List.set_cons_succ, i64_w, i32_w]
              rfl
            refine take_ (i := 15) (N := some 167) (v := ?_) (a' := ?_) #[true, true, true, true, true, true, true, true, true, true, true, true, true, true, false, true, false, false, false, false] rfl rfl (by kernel_rfl) (fun _ _ _ h => h) (Or.inl ⟨by rfl, ?_⟩) hHeld ?_ ?_
            rotate_left
            · rintro w' ⟨s0, s1⟩
              go_simp
              with_reducible rfl
            rotate_left
            · simp only [Act.put, List.setIfInBounds_toArray, List.set_cons_zero, List.set_cons_succ, i64_w, i32_w]
              rfl
            refine one_ (i := 14) (N := some 166) #[true, true, true, true, true, true, true, true, true, true, true, true, true, true, true, true, false, false, false, false] rfl rfl (by kernel_rfl) (by decide) (fun K hK => ?_)
            refine goes_ Try.func12 (by kernel_rfl) rfl #[.pointer (some ⟨w1.heap.size, 0, none⟩)] (by rfl) rfl rfl (by simp only [List.map_toArray, List.map_cons, List.map_nil]; rfl) ?_
            with_reducible refine ((yKeys H7.out (by have := HGM.out.few; omega))).mono ?_
            rintro e w8 ⟨A8, c8, rfl, ho8, hb8⟩
            have H8 := Aside0.mk (H7.out.below (stays_X3 _ _ _ _ _ _ _ _ _) hb8)
            have HO8 := Aside0.mk ho8
            clear ho8 hb8
            refine ⟨_, rfl, ?_⟩
            refine hK.out _ _ ⟨H8.out.there.1.1.2.cell, H8.out.there.2.cells.2.1⟩ (fun hHeld => ?_)
            clear hK K
            refine norm_ (a' := ?_) ?_ ?_
            rotate_left
            · show Act.put _ (some 166) _ = _
              simp only [Act.put, List.setIfInBounds_toArray, List.set_cons_zero, List.set_cons_succ, i64_w, i32_w]
              rfl
            refine one_ (i := 16) (N := some 168) #[true, true, true, true, true, true, true, true, true, true, true, true, true, true, true, true, true, false, false, false] rfl rfl (by kernel_rfl) (by decide) (fun K hK => ?_)
            refine goes_ Try.func34 (by kernel_rfl) rfl #[.pointer (some ⟨og, 0, none⟩)] (by rfl) rfl rfl (by simp only [List.map_toArray, List.map_cons, List.map_nil]; rfl) ?_
            with_reducible refine ((rKeys H8.out.there.2 (by have := HGM.out.few; omega))).mono ?_
            rintro e w9 ⟨v9, rfl, hr9, hb9⟩
            obtain ⟨A9, c9, e9, hl9, hC9⟩ := Kd.R_reads hr9
            rw [List.length_map] at e9 hl9 hC9
            subst e9
            have H9 := Aside0.mk (H8.out.below (stays_X3 _ _ _ _ _ _ _ _ _) hb9)
            have HL9 := Aside0.mk hl9
            have HC9 := Aside0.mk hC9
            have HC8 := Aside0.mk (Kd.C_below (row_reads HO8.out (List.length_map _)) hb9)
            have HL8 := Aside0.mk (row_cap HO8.out (List.length_map _))
            clear hr9 hb9 hl9 hC9
            refine ⟨_, rfl, ?_⟩
            refine hK.out _ _ ⟨H9.out.there.1.1.2.cell, H9.out.there.2.cells.2.1⟩ (fun hHeld => ?_)
            clear hK K
            refine norm_ (a' := ?_) ?_ ?_
            rotate_left
            · show Act.put _ (some 168) _ = _
              simp only [Act.put, List.setIfInBounds_toArray, List.set_cons_zero, List.set_cons_succ, i64_w, i32_w]
              rfl
            refine one_ (i := 17) (N := some 169) #[true, true, true, true, true, true, true, true, true, true, true, true, true, true, true, true, true, true, false, false] rfl rfl (by kernel_rfl) (by decide) (fun K hK => ?_)
            refine goes_ Try.func13 (by kernel_rfl) rfl #[.slice A8 (getL a.key L).length c8, .slice A9 (getL a.key L).length c9] (by rfl) rfl rfl (by simp only [List.map_toArray, List.map_cons, List.map_nil]; rfl) ?_
            with_reducible refine ((same_keys2 (getL a.key L) (by have := HGM.out.few; omega) HL8.out HL9.out HC8.out HC9.out)).mono ?_
            rintro e wB ⟨rfl, nB, rfl⟩
            refine ⟨_, rfl, ?_⟩
            refine hK.out _ _ ⟨H9.out.there.1.1.2.cell, H9.out.there.2.cells.2.1⟩ (fun hHeld => ?_)
            clear hK K
            refine norm_ (a' := ?_) ?_ ?_
            rotate_left
            · show Act.put _ (some 169) _ = _
              simp only [Act.put, List.setIfInBounds_toArray, List.set_cons_zero, List.set_cons_succ, i64_w, i32_w]
              rfl
            refine pure_ (i := 18) (N := some 170) (v := ?_) (a' := ?_) #[true, true, true, true, true, true, true, true, true, true, true, true, true, true, true, true, true, true, true, false] rfl rfl (by kernel_rfl) (fun _ _ _ h => h) (Or.inl ⟨by rfl, ?_⟩) ?_ ?_
            rotate_left
            · intro w'
              go_simp
              with_reducible rfl
            rotate_left
            · simp only [Act.put, List.setIfInBounds_toArray, List.set_cons_zero, List.set_cons_succ, i64_w, i32_w]
              rfl
            refine pure_ (i := 19) (N := some 171) (v := ?_) (a' := ?_) #[true, true, true, true, true, true, true, true, true, true, true, true, true, true, true, true, true, true, true, true] rfl rfl (by kernel_rfl) (fun _ _ _ h => h) (Or.inl ⟨by rfl, ?_⟩) ?_ ?_
            rotate_left
            · intro w'
              go_simp
              with_reducible rfl
            rotate_left
            · simp only [Act.put, List.setIfInBounds_toArray, List.set_cons_zero, List.set_cons_succ, i64_w, i32_w]
              rfl
            refine done_ (by kernel_rfl) ?_
            unfold onNormal
            gi_wp2
            go_roundw
            case rel => exact ⟨i + 1, (getL a.key L), og, _, (by first | exact int_step (by have := HL.out; omega) | rfl | simp), ⟨hi⟩, HGM, HOGN, ⟨scr_leave (H9.out.drewN (stays_X3 _ _ _ _ _ _ _ _ _) nB)⟩⟩
            case measure =>
              have := left_step (i := i) (n := l1.length) (by have := HL.out; omega) hi
              first
                | exact this
                | (rw [wrap_in (by omega) (by omega)] at this; exact this)
          | 2, _ =>
            obtain ⟨y, there, hlk⟩ : ∃ y t, lookL a.key L = (y, t) := ⟨_, _, rfl⟩
            have HGM := Aside0.mk (HG.out.sub (M := L) (fun _ hp => hp) (Nat.le_refl _))
            have HPT := Aside0.mk (fun k => xLook (stays_X3 _ _ _ _ _ _ _ _ _) (HE.out.drewN (stays_X3 _ _ _ _ _ _ _ _ _) k) a.key (by have := HS.out; omega) hlk)
            unfold vl at HPT
            have HLQ := Aside0.mk hlk
            clear hlk
            gi_wp2_with (first
              | (refine ⟨trivial, ?_⟩; gi_at_call 15; (refine CallsIn.mono (callsIn_wide.2 (PLruScript.nameplatekit_Pick.calls a.kind 5 2 _ HP.out)) ?_); rintro e w4 ⟨rfl, n4, rfl⟩)
              | (refine ⟨trivial, ?_⟩; gi_at_call 14; (with_reducible refine CallsIn.mono (callsIn_wide.2 (HPT.out _)) ?_); rintro e w5 ⟨rfl, h5, _⟩; have H5 := Aside0.mk h5; obtain ⟨⟨⟨k0, k1⟩, k2⟩, k3⟩ := h5.there; obtain ⟨y0, y1, y2, _⟩ := k2.cells; have e4 := k1.cell; have hg := rLook k3 a.key (by have := HG.out.few; omega); rw [HLQ.out] at hg; have HGT := Aside0.mk hg; clear h5 k0 k1 k2 k3 hg)
              | (refine ⟨trivial, ?_⟩; gi_at_call 31; (with_reducible refine CallsIn.mono (callsIn_wide.2 HGT.out) ?_); rintro e w6 ⟨rfl, n6, rfl⟩; have H6 := Aside0.mk (H5.out.drewN (stays_X3 _ _ _ _ _ _ _ _ _) n6); clear y0 y1 y2 e4))
            have HOGN := HOG
            obtain ⟨A6, c6, e6, hl6, _⟩ := H6.out.there.2.form
            subst e6
            have H6D := Aside0.mk (H6.out.below (stays_X3 _ _ _ _ _ _ _ _ _) ((Below.refl _ _).drew))
            refine wpIn_wide.2 (wp_normal ?_)
            refine start_ (n := 20) (S := fun w' => w'.cell? ⟨ob, 0, none⟩ = some (.pointer (some ⟨og, 0, none⟩)) ∧ w'.cell? ⟨og, 1, none⟩ = some (.slice A6 L.length c6)) (ds := []) #[false, false, false, false, false, false, false, false, false, false, false, false, false, false, false, false, false, false, false, false] (by kernel_rfl) rfl rfl ⟨H6D.out.there.1.1.2.cell, H6D.out.there.2.cells.2.1⟩ (fun hHeld => ?_)
            refine pure_ (i := 0) (N := some 152) (v := ?_) (a' := ?_) #[true, false, false, false, false, false, false, false, false, false, false, false, false, false, false, false, false, false, false, false] rfl rfl (by kernel_rfl) (fun _ _ _ h => h) (Or.inl ⟨by rfl, ?_⟩) ?_ ?_
            rotate_left
            · intro w'
              go_simp
              with_reducible rfl
            rotate_left
            · simp only [Act.put, List.setIfInBounds_toArray, List.set_cons_zero, List.set_cons_succ, i64_w, i32_w]
              rfl
            refine pure_ (i := 1) (N := some 153) (v := ?_) (a' := ?_) #[true, true, false, false, false, false, false, false, false, false, false, false, false, false, false, false, false, false, false, false] rfl rfl (by kernel_rfl) (fun _ _ _ h => h) (Or.inl ⟨by rfl, ?_⟩) ?_ ?_
            rotate_left
            · intro w'
              go_simp
              with_reducible rfl
            rotate_left
            · simp only [Act.put, List.setIfInBounds_toArray, List.set_cons_zero, List.set_cons_succ, i64_w, i32_w]
              rfl
            refine pure_ (i := 2) (N := some 154) (v := ?_) (a' := ?_) #[true, true, true, false, false, false, false, false, false, false, false, false, false, false, false, false, false, false, false, false] rfl rfl (by kernel_rfl) (fun _ _ _ h => h) (Or.inl ⟨by rfl, ?_⟩) ?_ ?_
            rotate_left
            · intro w'
              go_simp
              with_reducible rfl
            rotate_left
            · simp only [Act.put, List.setIfInBounds_toArray, List.set_cons_zero, List.set_cons_succ, i64_w, i32_w]
              rfl
            refine pure_ (i := 3) (N := some 155) (v := ?_) (a' := ?_) #[true, true, true, true, false, false, false, false, false, false, false, false, false, false, false, false, false, false, false, false] rfl rfl (by kernel_rfl) (fun _ _ _ h => h) (Or.inl ⟨by rfl, ?_⟩) ?_ ?_
            rotate_left
            · intro w'
              go_simp
              with_reducible rfl
            rotate_left
            · simp only [Act.put, List.setIfInBounds_toArray, List.set_cons_zero, List.set_cons_succ, i64_w, i32_w]
              rfl
            refine take_ (i := 5) (N := some 157) (v := ?_) (a' := ?_) #[true, true, true, true, false, true, false, false, false, false, false, false, false, false, false, false, false, false, false, false] rfl rfl (by kernel_rfl) (fun _ _ _ h => h) (Or.inl ⟨by rfl, ?_⟩) hHeld ?_ ?_
            rotate_left
            · rintro w' ⟨s0, s1⟩
              go_simp
              with_reducible rfl
            rotate_left
            · simp only [Act.put, List.setIfInBounds_toArray, List.set_cons_zero, List.set_cons_succ, i64_w, i32_w]
              rfl
            refine pure_ (i := 6) (N := some 158) (v := ?_) (a' := ?_) #[true, true, true, true, false, true, true, false, false, false, false, false, false, false, false, false, false, false, false, false] rfl rfl (by kernel_rfl) (fun _ _ _ h => h) (Or.inl ⟨by rfl, ?_⟩) ?_ ?_
            rotate_left
            · intro w'
              go_simp
              with_reducible rfl
            rotate_left
            · simp only [Act.put, List.setIfInBounds_toArray, List.set_cons_zero, List.set_cons_succ, i64_w, i32_w]
              rfl
            refine pure_ (i := 7) (N := some 159) (v := ?_) (a' := ?_) #[true, true, true, true, false, true, true, true, false, false, false, false, false, false, false, false, false, false, false, false] rfl rfl (by kernel_rfl) (fun _ _ _ h => h) (Or.inl ⟨by rfl, ?_⟩) ?_ ?_
            rotate_left
            · intro w'
              go_simp
              with_reducible rfl
            rotate_left
            · simp only [Act.put, List.setIfInBounds_toArray, List.set_cons_zero, List.set_cons_succ, i64_w, i32_w]
              rfl
            refine take_ (i := 8) (N := some 160) (v := ?_) (a' := ?_) #[true, true, true, true, false, true, true, true, true, false, false, false, false, false, false, false, false, false, false, false] rfl rfl (by kernel_rfl) (fun _ _ _ h => h) (Or.inl ⟨by rfl, ?_⟩) hHeld ?_ ?_
            rotate_left
            · rintro w' ⟨s0, s1⟩
              go_simp
              with_reducible rfl
            rotate_left
            · simp only [Act.put, List.setIfInBounds_toArray, List.set_cons_zero, List.set_cons_succ, i64_w, i32_w]
              rfl
            refine pure_ (i := 9) (N := some 161) (v := ?_) (a' := ?_) #[true, true, true, true, false, true, true, true, true, true, false, false, false, false, false, false, false, false, false, false] rfl rfl (by kernel_rfl) (fun _ _ _ h => h) (Or.inl ⟨by rfl, ?_⟩) ?_ ?_
            rotate_left
            · intro w'
              go_simp
              with_reducible rfl
            rotate_left
            · simp only [Act.put, List.setIfInBounds_toArray, List.set_cons_zero, List.set_cons_succ, i64_w, i32_w]
              rfl
            refine one_ (i := 4) (N := some 156) #[true, true, true, true, true, true, true, true, true, true, false, false, false, false, false, false, false, false, false, false] rfl rfl (by kernel_rfl) (by decide) (fun K hK => ?_)
            refine goes_ Try.func17 (by kernel_rfl) rfl #[.pointer (some ⟨w1.heap.size, 0, none⟩)] (by rfl) rfl rfl (by simp only [List.map_toArray, List.map_cons, List.map_nil]; rfl) ?_
            with_reducible refine ((xLen (stays_X3 _ _ _ _ _ _ _ _ _) H6D.out)).mono ?_
            rintro e w7 ⟨rfl, h7, _⟩
            have H7 := Aside0.mk h7
            clear h7
            refine ⟨_, rfl, ?_⟩
            refine hK.out _ _ ⟨H7.out.there.1.1.2.cell, H7.out.there.2.cells.2.1⟩ (fun hHeld => ?_)
            clear hK K
            refine norm_ (a' := ?_) ?_ ?_
            rotate_left
            · show Act.put _ (some 156) _ = _
              simp only [Act.put, List.setIfInBounds_toArray, List.set_cons_zero, List.set_cons_succ, i64_w, i32_w]
              rfl
            refine pure_ (i := 10) (N := some 162) (v := ?_) (a' := ?_) #[true, true, true, true, true, true, true, true, true, true, true, false, false, false, false, false, false, false, false, false] rfl rfl (by kernel_rfl) (fun _ _ _ h => h) (Or.inl ⟨by rfl, ?_⟩) ?_ ?_
            rotate_left
            · intro w'
              go_simp
              with_reducible rfl
            rotate_left
            · simp only [Act.put, List.setIfInBounds_toArray, List.set_cons_zero, List.set_cons_succ, i64_w, i32_w]
              rfl
            refine pure_ (i := 11) (N := some 163) (v := ?_) (a' := ?_) #[true, true, true, true, true, true, true, true, true, true, true, true, false, false, false, false, false, false, false, false] rfl rfl (by kernel_rfl) (fun _ _ _ h => h) (Or.inl ⟨by rfl, ?_⟩) ?_ ?_
            rotate_left
            · intro w'
              go_simp
              with_reducible rfl
            rotate_left
            · simp only [Act.put, List.setIfInBounds_toArray, List.set_cons_zero, List.set_cons_succ, i64_w, i32_w]
              rfl
            refine pure_ (i := 12) (N := some 164) (v := ?_) (a' := ?_) #[true, true, true, true, true, true, true, true, true, true, true, true, true, false, false, false, false, false, false, false] rfl rfl (by kernel_rfl) (fun _ _ _ h => h) (Or.inl ⟨by rfl, ?_⟩) ?_ ?_
            rotate_left
            · intro w'
              go_simp
              with_reducible rfl
            rotate_left
            · simp only [Act.put, List.setIfInBounds_toArray, List.set_cons_zero, List.set_cons_succ, i64_w, i32_w]
              rfl
            refine pure_ (i := 13) (N := some 165) (v := ?_) (a' := ?_) #[true, true, true, true, true, true, true, true, true, true, true, true, true, true, false, false, false, false, false, false] rfl rfl (by kernel_rfl) (fun _ _ _ h => h) (Or.inl ⟨by rfl, ?_⟩) ?_ ?_
            rotate_left
            · intro w'
              go_simp
              with_reducible rfl
            rotate_left
            · simp only [Act.put, List.setIfInBounds_toArray, List.set_cons_zero, List.set_cons_succ, i64_w, i32_w]
              rfl
            refine take_ (i := 15) (N := some 167) (v := ?_) (a' := ?_) #[true, true, true, true, true, true, true, true, true, true, true, true, true, true, false, true, false, false, false, false] rfl rfl (by kernel_rfl) (fun _ _ _ h => h) (Or.inl ⟨by rfl, ?_⟩) hHeld ?_ ?_
            rotate_left
            · rintro w' ⟨s0, s1⟩
              go_simp
              with_reducible rfl
            rotate_left
            · simp only [Act.put, List.setIfInBounds_toArray, List.set_cons_zero, List.set_cons_succ, i64_w, i32_w]
              rfl
            refine one_ (i := 14) (N := some 166) #[true, true, true, true, true, true, true, true, true, true, true, true, true, true, true, true, false, false, false, false] rfl rfl (by kernel_rfl) (by decide) (fun K hK => ?_)
            refine goes_ Try.func12 (by kernel_rfl) rfl #[.pointer (some ⟨w1.heap.size, 0, none⟩)] (by rfl) rfl rfl (by simp only [List.map_toArray, List.map_cons, List.map_nil]; rfl) ?_
            with_reducible refine ((yKeys H7.out (by have := HGM.out.few; omega))).mono ?_
            rintro e w8 ⟨A8, c8, rfl, ho8, hb8⟩
            have H8 := Aside0.mk (H7.out.below (stays_X3 _ _ _ _ _ _ _ _ _) hb8)
            have HO8 := Aside0.mk ho8
            clear ho8 hb8
            refine ⟨_, rfl, ?_⟩
            refine hK.out _ _ ⟨H8.out.there.1.1.2.cell, H8.out.there.2.cells.2.1⟩ (fun hHeld => ?_)
            clear hK K
            refine norm_ (a' := ?_) ?_ ?_
            rotate_left
            · show Act.put _ (some 166) _ = _
              simp only [Act.put, List.setIfInBounds_toArray, List.set_cons_zero, List.set_cons_succ, i64_w, i32_w]
              rfl
            refine one_ (i := 16) (N := some 168) #[true, true, true, true, true, true, true, true, true, true, true, true, true, true, true, true, true, false, false, false] rfl rfl (by kernel_rfl) (by decide) (fun K hK => ?_)
            refine goes_ Try.func34 (by kernel_rfl) rfl #[.pointer (some ⟨og, 0, none⟩)] (by rfl) rfl rfl (by simp only [List.map_toArray, List.map_cons, List.map_nil]; rfl) ?_
            with_reducible refine ((rKeys H8.out.there.2 (by have := HGM.out.few; omega))).mono ?_
            rintro e w9 ⟨v9, rfl, hr9, hb9⟩
            obtain ⟨A9, c9, e9, hl9, hC9⟩ := Kd.R_reads hr9
            rw [List.length_map] at e9 hl9 hC9
            subst e9
            have H9 := Aside0.mk (H8.out.below (stays_X3 _ _ _ _ _ _ _ _ _) hb9)
            have HL9 := Aside0.mk hl9
            have HC9 := Aside0.mk hC9
            have HC8 := Aside0.mk (Kd.C_below (row_reads HO8.out (List.length_map _)) hb9)
            have HL8 := Aside0.mk (row_cap HO8.out (List.length_map _))
            clear hr9 hb9 hl9 hC9
            refine ⟨_, rfl, ?_⟩
            refine hK.out _ _ ⟨H9.out.there.1.1.2.cell, H9.out.there.2.cells.2.1⟩ (fun hHeld => ?_)
            clear hK K
            refine norm_ (a' := ?_) ?_ ?_
            rotate_left
            · show Act.put _ (some 168) _ = _
              simp only [Act.put, List.setIfInBounds_toArray, List.set_cons_zero, List.set_cons_succ, i64_w, i32_w]
              rfl
            refine one_ (i := 17) (N := some 169) #[true, true, true, true, true, true, true, true, true, true, true, true, true, true, true, true, true, true, false, false] rfl rfl (by kernel_rfl) (by decide) (fun K hK => ?_)
            refine goes_ Try.func13 (by kernel_rfl) rfl #[.slice A8 L.length c8, .slice A9 L.length c9] (by rfl) rfl rfl (by simp only [List.map_toArray, List.map_cons, List.map_nil]; rfl) ?_
            with_reducible refine ((same_keys2 L (by have := HGM.out.few; omega) HL8.out HL9.out HC8.out HC9.out)).mono ?_
            rintro e wB ⟨rfl, nB, rfl⟩
            refine ⟨_, rfl, ?_⟩
            refine hK.out _ _ ⟨H9.out.there.1.1.2.cell, H9.out.there.2.cells.2.1⟩ (fun hHeld => ?_)
            clear hK K
            refine norm_ (a' := ?_) ?_ ?_
            rotate_left
            · show Act.put _ (some 169) _ = _
              simp only [Act.put, List.setIfInBounds_toArray, List.set_cons_zero, List.set_cons_succ, i64_w, i32_w]
              rfl
            refine pure_ (i := 18) (N := some 170) (v := ?_) (a' := ?_) #[true, true, true, true, true, true, true, true, true, true, true, true, true, true, true, true, true, true, true, false] rfl rfl (by kernel_rfl) (fun _ _ _ h => h) (Or.inl ⟨by rfl, ?_⟩) ?_ ?_
            rotate_left
            · intro w'
              go_simp
              with_reducible rfl
            rotate_left
            · simp only [Act.put, List.setIfInBounds_toArray, List.set_cons_zero, List.set_cons_succ, i64_w, i32_w]
              rfl
            refine pure_ (i := 19) (N := some 171) (v := ?_) (a' := ?_) #[true, true, true, true, true, true, true, true, true, true, true, true, true, true, true, true, true, true, true, true] rfl rfl (by kernel_rfl) (fun _ _ _ h => h) (Or.inl ⟨by rfl, ?_⟩) ?_ ?_
            rotate_left
            · intro w'
              go_simp
              with_reducible rfl
            rotate_left
            · simp only [Act.put, List.setIfInBounds_toArray, List.set_cons_zero, List.set_cons_succ, i64_w, i32_w]
              rfl
            refine done_ (by kernel_rfl) ?_
            unfold onNormal
            gi_wp2
            go_roundw
            case rel => exact ⟨i + 1, L, og, _, (by first | exact int_step (by have := HL.out; omega) | rfl | simp), ⟨hi⟩, HGM, HOGN, ⟨scr_leave (H9.out.drewN (stays_X3 _ _ _ _ _ _ _ _ _) nB)⟩⟩
            case measure =>
              have := left_step (i := i) (n := l1.length) (by have := HL.out; omega) hi
              first
                | exact this
                | (rw [wrap_in (by omega) (by omega)] at this; exact this)
          | 3, _ =>
            have HGM := Aside0.mk (HG.out.sub (M := dropL a.key L) (fun _ hp => (List.mem_filter.1 hp).1) (dropL_length a.key L))
            have HND := Aside0.mk HO.out.nodup
            have HDN := Aside0.mk (fun k => HE.out.drewN (stays_X3 _ _ _ _ _ _ _ _ _) k)
            gi_wp2_with (first
              | (refine ⟨trivial, ?_⟩; gi_at_call 15; (refine CallsIn.mono (callsIn_wide.2 (PLruScript.nameplatekit_Pick.calls a.kind 5 3 _ HP.out)) ?_); rintro e w4 ⟨rfl, n4, rfl⟩))
            have HDD := Aside0.mk ((HDN.out n4).below (stays_X3 _ _ _ _ _ _ _ _ _) ((Below.refl _ _).drew))
            refine wpIn_wide.2 (wp_normal ?_)
            refine start_ (n := 10) (S := fun w' => w'.cell? ⟨wr.heap.size, 1, none⟩ = some (.string a.key) ∧ w'.cell? ⟨ob, 0, none⟩ = some (.pointer (some ⟨og, 0, none⟩))) (ds := []) #[false, false, false, false, false, false, false, false, false, false] (by kernel_rfl) rfl rfl ⟨HDD.out.there.1.2.cells.2.1, HDD.out.there.1.1.2.cell⟩ (fun hHeld => ?_)
            refine pure_ (i := 0) (N := some 143) (v := ?_) (a' := ?_) #[true, false, false, false, false, false, false, false, false, false] rfl rfl (by kernel_rfl) (fun _ _ _ h => h) (Or.inl ⟨by rfl, ?_⟩) ?_ ?_
            rotate_left
            · intro w'
              go_simp
              with_reducible rfl
            rotate_left
            · simp only [Act.put, List.setIfInBounds_toArray, List.set_cons_zero, List.set_cons_succ, i64_w, i32_w]
              rfl
            refine pure_ (i := 1) (N := some 144) (v := ?_) (a' := ?_) #[true, true, false, false, false, false, false, false, false, false] rfl rfl (by kernel_rfl) (fun _ _ _ h => h) (Or.inl ⟨by rfl, ?_⟩) ?_ ?_
            rotate_left
            · intro w'
              go_simp
              with_reducible rfl
            rotate_left
            · simp only [Act.put, List.setIfInBounds_toArray, List.set_cons_zero, List.set_cons_succ, i64_w, i32_w]
              rfl
            refine pure_ (i := 5) (N := some 148) (v := ?_) (a' := ?_) #[true, true, false, false, false, true, false, false, false, false] rfl rfl (by kernel_rfl) (fun _ _ _ h => h) (Or.inl ⟨by rfl, ?_⟩) ?_ ?_
            rotate_left
            · intro w'
              go_simp
              with_reducible rfl
            rotate_left
            · simp only [Act.put, List.setIfInBounds_toArray, List.set_cons_zero, List.set_cons_succ, i64_w, i32_w]
              rfl
            refine take_ (i := 2) (N := some 145) (v := ?_) (a' := ?_) #[true, true, true, false, false, true, false, false, false, false] rfl rfl (by kernel_rfl) (fun _ _ _ h => h) (Or.inl ⟨by rfl, ?_⟩) hHeld ?_ ?_
            rotate_left
            · rintro w' ⟨s0, s1⟩
              go_simp
              with_reducible rfl
            rotate_left
            · simp only [Act.put, List.setIfInBounds_toArray, List.set_cons_zero, List.set_cons_succ, i64_w, i32_w]
              rfl
            refine take_ (i := 4) (N := some 147) (v := ?_) (a' := ?_) #[true, true, true, false, true, true, false, false, false, false] rfl rfl (by kernel_rfl) (fun _ _ _ h => h) (Or.inl ⟨by rfl, ?_⟩) hHeld ?_ ?_
            rotate_left
            · rintro w' ⟨s0, s1⟩
              go_simp
              with_reducible rfl
            rotate_left
            · simp only [Act.put, List.setIfInBounds_toArray, List.set_cons_zero, List.set_cons_succ, i64_w, i32_w]
              rfl
            refine take_ (i := 6) (N := some 149) (v := ?_) (a' := ?_) #[true, true, true, false, true, true, true, false, false, false] rfl rfl (by kernel_rfl) (fun _ _ _ h => h) (Or.inl ⟨by rfl, ?_⟩) hHeld ?_ ?_
            rotate_left
            · rintro w' ⟨s0, s1⟩
              go_simp
              with_reducible rfl
            rotate_left
            · simp only [Act.put, List.setIfInBounds_toArray, List.set_cons_zero, List.set_cons_succ, i64_w, i32_w]
              rfl
            refine one_ (i := 3) (N := some 146) #[true, true, true, true, true, true, true, false, false, false] rfl rfl (by kernel_rfl) (by decide) (fun K hK => ?_)
            refine goes_ Try.func19 (by kernel_rfl) rfl #[.pointer (some ⟨w1.heap.size, 0, none⟩), .string a.key] (by rfl) rfl rfl (by simp only [List.map_toArray, List.map_cons, List.map_nil]; rfl) ?_
            with_reducible refine ((xDrop (stays_X3 _ _ _ _ _ _ _ _ _) HDD.out a.key (by have := HS.out; omega) rfl)).mono ?_
            rintro e w5 ⟨rfl, h5⟩
            have H5 := Aside0.mk h5
            clear h5
            refine ⟨_, rfl, ?_⟩
            refine hK.out _ _ ⟨H5.out.there.1.2.cells.2.1, H5.out.there.1.1.2.cell⟩ (fun hHeld => ?_)
            clear hK K
            refine norm_ (a' := ?_) ?_ ?_
            rotate_left
            · show Act.put _ (some 146) _ = _
              simp only [Act.put, List.setIfInBounds_toArray, List.set_cons_zero, List.set_cons_succ, i64_w, i32_w]
              rfl
            refine one_ (i := 7) (N := some 150) #[true, true, true, true, true, true, true, true, false, false] rfl rfl (by kernel_rfl) (by decide) (fun K hK => ?_)
            refine goes_ Try.func32 (by kernel_rfl) rfl #[.pointer (some ⟨og, 0, none⟩), .string a.key] (by rfl) rfl rfl (by simp only [List.map_toArray, List.map_cons, List.map_nil]; rfl) ?_
            with_reducible refine ((rDrop H5.out.there.2 a.key (by have := HG.out.few; omega) HND.out H5.out.low.size)).mono ?_
            rintro e w6 ⟨rfl, v6, hx6, ht6, hv6⟩
            have H6 := Aside0.mk (OwnX.ref (stays_and (stays_XC _ _ _) (stays_XA _ _)) H5.out (X3.ne H5.out.there) HOG.out ht6 hx6 hv6)
            clear hx6 ht6 hv6
            refine ⟨_, rfl, ?_⟩
            refine hK.out _ _ ⟨H6.out.there.1.2.cells.2.1, H6.out.there.1.1.2.cell⟩ (fun hHeld => ?_)
            clear hK K
            refine norm_ (a' := ?_) ?_ ?_
            rotate_left
            · show Act.put _ (some 150) _ = _
              simp only [Act.put, List.setIfInBounds_toArray, List.set_cons_zero, List.set_cons_succ, i64_w, i32_w]
              rfl
            refine pure_ (i := 8) (N := some 151) (v := ?_) (a' := ?_) #[true, true, true, true, true, true, true, true, true, false] rfl rfl (by kernel_rfl) (fun _ _ _ h => h) (Or.inl ⟨by rfl, ?_⟩) ?_ ?_
            rotate_left
            · intro w'
              go_simp
              with_reducible rfl
            rotate_left
            · simp only [Act.put, List.setIfInBounds_toArray, List.set_cons_zero, List.set_cons_succ, i64_w, i32_w]
              rfl
            refine pure_ (i := 9) (N := some 9) (v := ?_) (a' := ?_) #[true, true, true, true, true, true, true, true, true, true] rfl rfl (by kernel_rfl) (fun _ _ _ h => h) (Or.inl ⟨by rfl, ?_⟩) ?_ ?_
            rotate_left
            · intro w'
              go_simp
              with_reducible rfl
            rotate_left
            · simp only [Act.put, List.setIfInBounds_toArray, List.set_cons_zero, List.set_cons_succ, i64_w, i32_w]
              rfl
            refine done_ (by kernel_rfl) ?_
            unfold onNormal
            have HOGN := HOG
            gi_wp2
            obtain ⟨A6, c6, e6, hl6, _⟩ := H6.out.there.2.form
            subst e6
            have H6D := Aside0.mk (H6.out.below (stays_X3 _ _ _ _ _ _ _ _ _) ((Below.refl _ _).drew))
            refine wpIn_wide.2 (wp_normal ?_)
            refine start_ (n := 20) (S := fun w' => w'.cell? ⟨ob, 0, none⟩ = some (.pointer (some ⟨og, 0, none⟩)) ∧ w'.cell? ⟨og, 1, none⟩ = some (.slice A6 (dropL a.key L).length c6)) (ds := []) #[false, false, false, false, false, false, false, false, false, false, false, false, false, false, false, false, false, false, false, false] (by kernel_rfl) rfl rfl ⟨H6D.out.there.1.1.2.cell, H6D.out.there.2.cells.2.1⟩ (fun hHeld => ?_)
            refine pure_ (i := 0) (N := some 152) (v := ?_) (a' := ?_) #[true, false, false, false, false, false, false, false, false, false, false, false, false, false, false, false, false, false, false, false] rfl rfl (by kernel_rfl) (fun _ _ _ h => h) (Or.inl ⟨by rfl, ?_⟩) ?_ ?_
            rotate_left
            · intro w'
              go_simp
              with_reducible rfl
            rotate_left
            · simp only [Act.put, List.setIfInBounds_toArray, List.set_cons_zero, List.set_cons_succ, i64_w, i32_w]
              rfl
            refine pure_ (i := 1) (N := some 153) (v := ?_) (a' := ?_) #[true, true, false, false, false, false, false, false, false, false, false, false, false, false, false, false, false, false, false, false] rfl rfl (by kernel_rfl) (fun _ _ _ h => h) (Or.inl ⟨by rfl, ?_⟩) ?_ ?_
            rotate_left
            · intro w'
              go_simp
              with_reducible rfl
            rotate_left
            · simp only [Act.put, List.setIfInBounds_toArray, List.set_cons_zero, List.set_cons_succ, i64_w, i32_w]
              rfl
            refine pure_ (i := 2) (N := some 154) (v := ?_) (a' := ?_) #[true, true, true, false, false, false, false, false, false, false, false, false, false, false, false, false, false, false, false, false] rfl rfl (by kernel_rfl) (fun _ _ _ h => h) (Or.inl ⟨by rfl, ?_⟩) ?_ ?_
            rotate_left
            · intro w'
              go_simp
              with_reducible rfl
            rotate_left
            · simp only [Act.put, List.setIfInBounds_toArray, List.set_cons_zero, List.set_cons_succ, i64_w, i32_w]
              rfl
            refine pure_ (i := 3) (N := some 155) (v := ?_) (a' := ?_) #[true, true, true, true, false, false, false, false, false, false, false, false, false, false, false, false, false, false, false, false] rfl rfl (by kernel_rfl) (fun _ _ _ h => h) (Or.inl ⟨by rfl, ?_⟩) ?_ ?_
            rotate_left
            · intro w'
              go_simp
              with_reducible rfl
            rotate_left
            · simp only [Act.put, List.setIfInBounds_toArray, List.set_cons_zero, List.set_cons_succ, i64_w, i32_w]
              rfl
            refine take_ (i := 5) (N := some 157) (v := ?_) (a' := ?_) #[true, true, true, true, false, true, false, false, false, false, false, false, false, false, false, false, false, false, false, false] rfl rfl (by kernel_rfl) (fun _ _ _ h => h) (Or.inl ⟨by rfl, ?_⟩) hHeld ?_ ?_
            rotate_left
            · rintro w' ⟨s0, s1⟩
              go_simp
              with_reducible rfl
            rotate_left
            · simp only [Act.put, List.setIfInBounds_toArray, List.set_cons_zero, List.set_cons_succ, i64_w, i32_w]
              rfl
            refine pure_ (i := 6) (N := some 158) (v := ?_) (a' := ?_) #[true, true, true, true, false, true, true, false, false, false, false, false, false, false, false, false, false, false, false, false] rfl rfl (by kernel_rfl) (fun _ _ _ h => h) (Or.inl ⟨by rfl, ?_⟩) ?_ ?_
            rotate_left
            · intro w'
              go_simp
              with_reducible rfl
            rotate_left
            · simp only [Act.put, List.setIfInBounds_toArray, List.set_cons_zero, List.set_cons_succ, i64_w, i32_w]
              rfl
            refine pure_ (i := 7) (N := some 159) (v := ?_) (a' := ?_) #[true, true, true, true, false, true, true, true, false, false, false, false, false, false, false, false, false, false, false, false] rfl rfl (by kernel_rfl) (fun _ _ _ h => h) (Or.inl ⟨by rfl, ?_⟩) ?_ ?_
            rotate_left
            · intro w'
              go_simp
              with_reducible rfl
            rotate_left
            · simp only [Act.put, List.setIfInBounds_toArray, List.set_cons_zero, List.set_cons_succ, i64_w, i32_w]
              rfl
            refine take_ (i := 8) (N := some 160) (v := ?_) (a' := ?_) #[true, true, true, true, false, true, true, true, true, false, false, false, false, false, false, false, false, false, false, false] rfl rfl (by kernel_rfl) (fun _ _ _ h => h) (Or.inl ⟨by rfl, ?_⟩) hHeld ?_ ?_
            rotate_left
            · rintro w' ⟨s0, s1⟩
              go_simp
              with_reducible rfl
            rotate_left
            · simp only [Act.put, List.setIfInBounds_toArray, List.set_cons_zero, List.set_cons_succ, i64_w, i32_w]
              rfl
            refine pure_ (i := 9) (N := some 161) (v := ?_) (a' := ?_) #[true, true, true, true, false, true, true, true, true, true, false, false, false, false, false, false, false, false, false, false] rfl rfl (by kernel_rfl) (fun _ _ _ h => h) (Or.inl ⟨by rfl, ?_⟩) ?_ ?_
            rotate_left
            · intro w'
              go_simp
              with_reducible rfl
            rotate_left
            · simp only [Act.put, List.setIfInBounds_toArray, List.set_cons_zero, List.set_cons_succ, i64_w, i32_w]
              rfl
            refine one_ (i := 4) (N := some 156) #[true, true, true, true, true, true, true, true, true, true, false, false, false, false, false, false, false, false, false, false] rfl rfl (by kernel_rfl) (by decide) (fun K hK => ?_)
            refine goes_ Try.func17 (by kernel_rfl) rfl #[.pointer (some ⟨w1.heap.size, 0, none⟩)] (by rfl) rfl rfl (by simp only [List.map_toArray, List.map_cons, List.map_nil]; rfl) ?_
            with_reducible refine ((xLen (stays_X3 _ _ _ _ _ _ _ _ _) H6D.out)).mono ?_
            rintro e w7 ⟨rfl, h7, _⟩
            have H7 := Aside0.mk h7
            clear h7
            refine ⟨_, rfl, ?_⟩
            refine hK.out _ _ ⟨H7.out.there.1.1.2.cell, H7.out.there.2.cells.2.1⟩ (fun hHeld => ?_)
            clear hK K
            refine norm_ (a' := ?_) ?_ ?_
            rotate_left
            · show Act.put _ (some 156) _ = _
              simp only [Act.put, List.setIfInBounds_toArray, List.set_cons_zero, List.set_cons_succ, i64_w, i32_w]
              rfl
            refine pure_ (i := 10) (N := some 162) (v := ?_) (a' := ?_) #[true, true, true, true, true, true, true, true, true, true, true, false, false, false, false, false, false, false, false, false] rfl rfl (by kernel_rfl) (fun _ _ _ h => h) (Or.inl ⟨by rfl, ?_⟩) ?_ ?_
            rotate_left
            · intro w'
              go_simp
              with_reducible rfl
            rotate_left
            · simp only [Act.put, List.setIfInBounds_toArray, List.set_cons_zero, List.set_cons_succ, i64_w, i32_w]
              rfl
            refine pure_ (i := 11) (N := some 163) (v := ?_) (a' := ?_) #[true, true, true, true, true, true, true, true, true, true, true, true, false, false, false, false, false, false, false, false] rfl rfl (by kernel_rfl) (fun _ _ _ h => h) (Or.inl ⟨by rfl, ?_⟩) ?_ ?_
            rotate_left
            · intro w'
              go_simp
              with_reducible rfl
            rotate_left
            · simp only [Act.put, List.setIfInBounds_toArray, List.set_cons_zero, List.set_cons_succ, i64_w, i32_w]
              rfl
            refine pure_ (i := 12) (N := some 164) (v := ?_) (a' := ?_) #[true, true, true, true, true, true, true, true, true, true, true, true, true, false, false, false, false, false, false, false] rfl rfl (by kernel_rfl) (fun _ _ _ h => h) (Or.inl ⟨by rfl, ?_⟩) ?_ ?_
            rotate_left
            · intro w'
              go_simp
              with_reducible rfl
            rotate_left
            · simp only [Act.put, List.setIfInBounds_toArray, List.set_cons_zero, List.set_cons_succ, i64_w, i32_w]
              rfl
            refine pure_ (i := 13) (N := some 165) (v := ?_) (a' := ?_) #[true, true, true, true, true, true, true, true, true, true, true, true, true, true, false, false, false, false, false, false] rfl rfl (by kernel_rfl) (fun _ _ _ h => h) (Or.inl ⟨by rfl, ?_⟩) ?_ ?_
            rotate_left
            · intro w'
              go_simp
              with_reducible rfl
            rotate_left
            · simp only [Act.put, List.setIfInBounds_toArray, List.set_cons_zero, List.set_cons_succ, i64_w, i32_w]
              rfl
            refine take_ (i := 15) (N := some 167) (v := ?_) (a' := ?_) #[true, true, true, true, true, true, true, true, true, true, true, true, true, true, false, true, false, false, false, false] rfl rfl (by kernel_rfl) (fun _ _ _ h => h) (Or.inl ⟨by rfl, ?_⟩) hHeld ?_ ?_
            rotate_left
            · rintro w' ⟨s0, s1⟩
              go_simp
              with_reducible rfl
            rotate_left
            · simp only [Act.put, List.setIfInBounds_toArray, List.set_cons_zero, List.set_cons_succ, i64_w, i32_w]
              rfl
            refine one_ (i := 14) (N := some 166) #[true, true, true, true, true, true, true, true, true, true, true, true, true, true, true, true, false, false, false, false] rfl rfl (by kernel_rfl) (by decide) (fun K hK => ?_)
            refine goes_ Try.func12 (by kernel_rfl) rfl #[.pointer (some ⟨w1.heap.size, 0, none⟩)] (by rfl) rfl rfl (by simp only [List.map_toArray, List.map_cons, List.map_nil]; rfl) ?_
            with_reducible refine ((yKeys H7.out (by have := HGM.out.few; omega))).mono ?_
            rintro e w8 ⟨A8, c8, rfl, ho8, hb8⟩
            have H8 := Aside0.mk (H7.out.below (stays_X3 _ _ _ _ _ _ _ _ _) hb8)
            have HO8 := Aside0.mk ho8
            clear ho8 hb8
            refine ⟨_, rfl, ?_⟩
            refine hK.out _ _ ⟨H8.out.there.1.1.2.cell, H8.out.there.2.cells.2.1⟩ (fun hHeld => ?_)
            clear hK K
            refine norm_ (a' := ?_) ?_ ?_
            rotate_left
            · show Act.put _ (some 166) _ = _
              simp only [Act.put, List.setIfInBounds_toArray, List.set_cons_zero, List.set_cons_succ, i64_w, i32_w]
              rfl
            refine one_ (i := 16) (N := some 168) #[true, true, true, true, true, true, true, true, true, true, true, true, true, true, true, true, true, false, false, false] rfl rfl (by kernel_rfl) (by decide) (fun K hK => ?_)
            refine goes_ Try.func34 (by kernel_rfl) rfl #[.pointer (some ⟨og, 0, none⟩)] (by rfl) rfl rfl (by simp only [List.map_toArray, List.map_cons, List.map_nil]; rfl) ?_
            with_reducible refine ((rKeys H8.out.there.2 (by have := HGM.out.few; omega))).mono ?_
            rintro e w9 ⟨v9, rfl, hr9, hb9⟩
            obtain ⟨A9, c9, e9, hl9, hC9⟩ := Kd.R_reads hr9
            rw [List.length_map] at e9 hl9 hC9
            subst e9
            have H9 := Aside0.mk (H8.out.below (stays_X3 _ _ _ _ _ _ _ _ _) hb9)
            have HL9 := Aside0.mk hl9
            have HC9 := Aside0.mk hC9
            have HC8 := Aside0.mk (Kd.C_below (row_reads HO8.out (List.length_map _)) hb9)
            have HL8 := Aside0.mk (row_cap HO8.out (List.length_map _))
            clear hr9 hb9 hl9 hC9
            refine ⟨_, rfl, ?_⟩
            refine hK.out _ _ ⟨H9.out.there.1.1.2.cell, H9.out.there.2.cells.2.1⟩ (fun hHeld => ?_)
            clear hK K
            refine norm_ (a' := ?_) ?_ ?_
            rotate_left
            · show Act.put _ (some 168) _ = _
              simp only [Act.put, List.setIfInBounds_toArray, List.set_cons_zero, List.set_cons_succ, i64_w, i32_w]
              rfl
            refine one_ (i := 17) (N := some 169) #[true, true, true, true, true, true, true, true, true, true, true, true, true, true, true, true, true, true, false, false] rfl rfl (by kernel_rfl) (by decide) (fun K hK => ?_)
            refine goes_ Try.func13 (by kernel_rfl) rfl #[.slice A8 (dropL a.key L).length c8, .slice A9 (dropL a.key L).length c9] (by rfl) rfl rfl (by simp only [List.map_toArray, List.map_cons, List.map_nil]; rfl) ?_
            with_reducible refine ((same_keys2 (dropL a.key L) (by have := HGM.out.few; omega) HL8.out HL9.out HC8.out HC9.out)).mono ?_
            rintro e wB ⟨rfl, nB, rfl⟩
            refine ⟨_, rfl, ?_⟩
            refine hK.out _ _ ⟨H9.out.there.1.1.2.cell, H9.out.there.2.cells.2.1⟩ (fun hHeld => ?_)
            clear hK K
            refine norm_ (a' := ?_) ?_ ?_
            rotate_left
            · show Act.put _ (some 169) _ = _
              simp only [Act.put, List.setIfInBounds_toArray, List.set_cons_zero, List.set_cons_succ, i64_w, i32_w]
              rfl
            refine pure_ (i := 18) (N := some 170) (v := ?_) (a' := ?_) #[true, true, true, true, true, true, true, true, true, true, true, true, true, true, true, true, true, true, true, false] rfl rfl (by kernel_rfl) (fun _ _ _ h => h) (Or.inl ⟨by rfl, ?_⟩) ?_ ?_
            rotate_left
            · intro w'
              go_simp
              with_reducible rfl
            rotate_left
            · simp only [Act.put, List.setIfInBounds_toArray, List.set_cons_zero, List.set_cons_succ, i64_w, i32_w]
              rfl
            refine pure_ (i := 19) (N := some 171) (v := ?_) (a' := ?_) #[true, true, true, true, true, true, true, true, true, true, true, true, true, true, true, true, true, true, true, true] rfl rfl (by kernel_rfl) (fun _ _ _ h => h) (Or.inl ⟨by rfl, ?_⟩) ?_ ?_
            rotate_left
            · intro w'
              go_simp
              with_reducible rfl
            rotate_left
            · simp only [Act.put, List.setIfInBounds_toArray, List.set_cons_zero, List.set_cons_succ, i64_w, i32_w]
              rfl
            refine done_ (by kernel_rfl) ?_
            unfold onNormal
            gi_wp2
            go_roundw
            case rel => exact ⟨i + 1, (dropL a.key L), og, _, (by first | exact int_step (by have := HL.out; omega) | rfl | simp), ⟨hi⟩, HGM, HOGN, ⟨scr_leave (H9.out.drewN (stays_X3 _ _ _ _ _ _ _ _ _) nB)⟩⟩
            case measure =>
              have := left_step (i := i) (n := l1.length) (by have := HL.out; omega) hi
              first
                | exact this
                | (rw [wrap_in (by omega) (by omega)] at this; exact this)
          | 4, _ =>
            have HGM : Aside0 (GoodS qm (i + 1) []) := ⟨⟨by simp, fun _ => by have := HQ0.out; simpa using this, fun _ => rfl, fun p hp => (List.not_mem_nil hp).elim⟩⟩
            have HPT := Aside0.mk (fun k => xClear (stays_X3 _ _ _ _ _ _ _ _ _) (HE.out.drewN (stays_X3 _ _ _ _ _ _ _ _ _) k))
            gi_wp2_with (first
              | (refine ⟨trivial, ?_⟩; gi_at_call 15; (refine CallsIn.mono (callsIn_wide.2 (PLruScript.nameplatekit_Pick.calls a.kind 5 4 _ HP.out)) ?_); rintro e w4 ⟨rfl, n4, rfl⟩)
              | (refine ⟨trivial, ?_⟩; gi_at_call 33; (with_reducible refine CallsIn.mono (callsIn_wide.2 (HPT.out _)) ?_); rintro e w5 ⟨⟨ve, rfl⟩, h5⟩; have H5 := Aside0.mk h5; clear h5)
              | (refine ⟨trivial, ?_⟩; gi_at_call 28; (with_reducible refine CallsIn.mono (callsIn_wide.2 (rNew m w5)) ?_); rintro e w6 ⟨rfl, hx6, hb6⟩; have HX6 := Aside0.mk hx6; have HB6 := Aside0.mk hb6; obtain ⟨⟨⟨k0, k1⟩, k2⟩, k3⟩ := (H5.out.below (stays_X3 _ _ _ _ _ _ _ _ _) hb6).there; have e4 := k1.cell; have f4 := k1.frozen; clear hx6 hb6 k0 k1 k2 k3))
            clear e4 f4
            have hx6 := HX6.out
            rw [hqm] at hx6
            have hH6 := scr_clear H5.out hx6 HB6.out H5.out.low.size HOB.out
            have HOGN : Aside0 (w.heap.size ≤ w5.heap.size) := ⟨H5.out.low.size⟩
            obtain ⟨W6, hW6⟩ : ∃ q, w6.setCell ⟨ob, 0, none⟩ (.pointer (some ⟨w5.heap.size, 0, none⟩)) = q := ⟨_, rfl⟩
            obtain ⟨oc, hoc⟩ : ∃ q, w5.heap.size = q := ⟨_, rfl⟩
            obtain ⟨M, hM⟩ : ∃ M : List KV, [] = M := ⟨_, rfl⟩
            obtain ⟨v6, hv6⟩ : ∃ q, Value.slice none 0 0 = q := ⟨_, rfl⟩
            rw [hW6, hoc, hM, hv6] at hH6
            rw [hoc] at HOGN
            rw [hM] at HGM
            rw [hW6]
            rw [hoc]
            have H6 := Aside0.mk hH6
            clear hH6 hx6 hW6 hoc hM hv6
            obtain ⟨A6, c6, e6, hl6, _⟩ := H6.out.there.2.form
            subst e6
            have H6D := Aside0.mk (H6.out.below (stays_X3 _ _ _ _ _ _ _ _ _) ((Below.refl _ _).drew))
            refine wpIn_wide.2 (wp_normal ?_)
            refine start_ (n := 20) (S := fun w' => w'.cell? ⟨ob, 0, none⟩ = some (.pointer (some ⟨oc, 0, none⟩)) ∧ w'.cell? ⟨oc, 1, none⟩ = some (.slice A6 M.length c6)) (ds := []) #[false, false, false, false, false, false, false, false, false, false, false, false, false, false, false, false, false, false, false, false] (by kernel_rfl) rfl rfl ⟨H6D.out.there.1.1.2.cell, H6D.out.there.2.cells.2.1⟩ (fun hHeld => ?_)
            refine pure_ (i := 0) (N := some 152) (v := ?_) (a' := ?_) #[true, false, false, false, false, false, false, false, false, false, false, false, false, false, false, false, false, false, false, false] rfl rfl (by kernel_rfl) (fun _ _ _ h => h) (Or.inl ⟨by rfl, ?_⟩) ?_ ?_
            rotate_left
            · intro w'
              go_simp
              with_reducible rfl
            rotate_left
            · simp only [Act.put, List.setIfInBounds_toArray, List.set_cons_zero, List.set_cons_succ, i64_w, i32_w]
              rfl
            refine pure_ (i := 1) (N := some 153) (v := ?_) (a' := ?_) #[true, true, false, false, false, false, false, false, false, false, false, false, false, false, false, false, false, false, false, false] rfl rfl (by kernel_rfl) (fun _ _ _ h => h) (Or.inl ⟨by rfl, ?_⟩) ?_ ?_
            rotate_left
            · intro w'
              go_simp
              with_reducible rfl
            rotate_left
            · simp only [Act.put, List.setIfInBounds_toArray, List.set_cons_zero, List.set_cons_succ, i64_w, i32_w]
              rfl
            refine pure_ (i := 2) (N := some 154) (v := ?_) (a' := ?_) #[true, true, true, false, false, false, false, false, false, false, false, false, false, false, false, false, false, false, false, false] rfl rfl (by kernel_rfl) (fun _ _ _ h => h) (Or.inl ⟨by rfl, ?_⟩) ?_ ?_
            rotate_left
            · intro w'
              go_simp
              with_reducible rfl
            rotate_left
            · simp only [Act.put, List.setIfInBounds_toArray, List.set_cons_zero, List.set_cons_succ, i64_w, i32_w]
              rfl
            refine pure_ (i := 3) (N := some 155) (v := ?_) (a' := ?_) #[true, true, true, true, false, false, false, false, false, false, false, false, false, false, false, false, false, false, false, false] rfl rfl (by kernel_rfl) (fun _ _ _ h => h) (Or.inl ⟨by rfl, ?_⟩) ?_ ?_
            rotate_left
            · intro w'
              go_simp
              with_reducible rfl
            rotate_left
            · simp only [Act.put, List.setIfInBounds_toArray, List.set_cons_zero, List.set_cons_succ, i64_w, i32_w]
              rfl
            refine take_ (i := 5) (N := some 157) (v := ?_) (a' := ?_) #[true, true, true, true, false, true, false, false, false, false, false, false, false, false, false, false, false, false, false, false] rfl rfl (by kernel_rfl) (fun _ _ _ h => h) (Or.inl ⟨by rfl, ?_⟩) hHeld ?_ ?_
            rotate_left
            · rintro w' ⟨s0, s1⟩
              go_simp
              with_reducible rfl
            rotate_left
            · simp only [Act.put, List.setIfInBounds_toArray, List.set_cons_zero, List.set_cons_succ, i64_w, i32_w]
              rfl
            refine pure_ (i := 6) (N := some 158) (v := ?_) (a' := ?_) #[true, true, true, true, false, true, true, false, false, false, false, false, false, false, false, false, false, false, false, false] rfl rfl (by kernel_rfl) (fun _ _ _ h => h) (Or.inl ⟨by rfl, ?_⟩) ?_ ?_
            rotate_left
            · intro w'
              go_simp
              with_reducible rfl
            rotate_left
            · simp only [Act.put, List.setIfInBounds_toArray, List.set_cons_zero, List.set_cons_succ, i64_w, i32_w]
              rfl
            refine pure_ (i := 7) (N := some 159) (v := ?_) (a' := ?_) #[true, true, true, true, false, true, true, true, false, false, false, false, false, false, false, false, false, false, false, false] rfl rfl (by kernel_rfl) (fun _ _ _ h => h) (Or.inl ⟨by rfl, ?_⟩) ?_ ?_
            rotate_left
            · intro w'
              go_simp
              with_reducible rfl
            rotate_left
            · simp only [Act.put, List.setIfInBounds_toArray, List.set_cons_zero, List.set_cons_succ, i64_w, i32_w]
              rfl
            refine take_ (i := 8) (N := some 160) (v := ?_) (a' := ?_) #[true, true, true, true, false, true, true, true, true, false, false, false, false, false, false, false, false, false, false, false] rfl rfl (by kernel_rfl) (fun _ _ _ h => h) (Or.inl ⟨by rfl, ?_⟩) hHeld ?_ ?_
            rotate_left
            · rintro w' ⟨s0, s1⟩
              go_simp
              with_reducible rfl
            rotate_left
            · simp only [Act.put, List.setIfInBounds_toArray, List.set_cons_zero, List.set_cons_succ, i64_w, i32_w]
              rfl
            refine pure_ (i := 9) (N := some 161) (v := ?_) (a' := ?_) #[true, true, true, true, false, true, true, true, true, true, false, false, false, false, false, false, false, false, false, false] rfl rfl (by kernel_rfl) (fun _ _ _ h => h) (Or.inl ⟨by rfl, ?_⟩) ?_ ?_
            rotate_left
            · intro w'
              go_simp
              with_reducible rfl
            rotate_left
            · simp only [Act.put, List.setIfInBounds_toArray, List.set_cons_zero, List.set_cons_succ, i64_w, i32_w]
              rfl
            refine one_ (i := 4) (N := some 156) #[true, true, true, true, true, true, true, true, true, true, false, false, false, false, false, false, false, false, false, false] rfl rfl (by kernel_rfl) (by decide) (fun K hK => ?_)
            refine goes_ Try.func17 (by kernel_rfl) rfl #[.pointer (some ⟨w1.heap.size, 0, none⟩)] (by rfl) rfl rfl (by simp only [List.map_toArray, List.map_cons, List.map_nil]; rfl) ?_
            with_reducible refine ((xLen (stays_X3 _ _ _ _ _ _ _ _ _) H6D.out)).mono ?_
            rintro e w7 ⟨rfl, h7, _⟩
            have H7 := Aside0.mk h7
            clear h7
            refine ⟨_, rfl, ?_⟩
            refine hK.out _ _ ⟨H7.out.there.1.1.2.cell, H7.out.there.2.cells.2.1⟩ (fun hHeld => ?_)
            clear hK K
            refine norm_ (a' := ?_) ?_ ?_
            rotate_left
            · show Act.put _ (some 156) _ = _
              simp only [Act.put, List.setIfInBounds_toArray, List.set_cons_zero, List.set_cons_succ, i64_w, i32_w]
              rfl
            refine pure_ (i := 10) (N := some 162) (v := ?_) (a' := ?_) #[true, true, true, true, true, true, true, true, true, true, true, false, false, false, false, false, false, false, false, false] rfl rfl (by kernel_rfl) (fun _ _ _ h => h) (Or.inl ⟨by rfl, ?_⟩) ?_ ?_
            rotate_left
            · intro w'
              go_simp
              with_reducible rfl
            rotate_left
            · simp only [Act.put, List.setIfInBounds_toArray, List.set_cons_zero, List.set_cons_succ, i64_w, i32_w]
              rfl
            refine pure_ (i := 11) (N := some 163) (v := ?_) (a' := ?_) #[true, true, true, true, true, true, true, true, true, true, true, true, false, false, false, false, false, false, false, false] rfl rfl (by kernel_rfl) (fun _ _ _ h => h) (Or.inl ⟨by rfl, ?_⟩) ?_ ?_
            rotate_left
            · intro w'
              go_simp
              with_reducible rfl
            rotate_left
            · simp only [Act.put, List.setIfInBounds_toArray, List.set_cons_zero, List.set_cons_succ, i64_w, i32_w]
              rfl
            refine pure_ (i := 12) (N := some 164) (v := ?_) (a' := ?_) #[true, true, true, true, true, true, true, true, true, true, true, true, true, false, false, false, false, false, false, false] rfl rfl (by kernel_rfl) (fun _ _ _ h => h) (Or.inl ⟨by rfl, ?_⟩) ?_ ?_
            rotate_left
            · intro w'
              go_simp
              with_reducible rfl
            rotate_left
            · simp only [Act.put, List.setIfInBounds_toArray, List.set_cons_zero, List.set_cons_succ, i64_w, i32_w]
              rfl
            refine pure_ (i := 13) (N := some 165) (v := ?_) (a' := ?_) #[true, true, true, true, true, true, true, true, true, true, true, true, true, true, false, false, false, false, false, false] rfl rfl (by kernel_rfl) (fun _ _ _ h => h) (Or.inl ⟨by rfl, ?_⟩) ?_ ?_
            rotate_left
            · intro w'
              go_simp
              with_reducible rfl
            rotate_left
            · simp only [Act.put, List.setIfInBounds_toArray, List.set_cons_zero, List.set_cons_succ, i64_w, i32_w]
              rfl
            refine take_ (i := 15) (N := some 167) (v := ?_) (a' := ?_) #[true, true, true, true, true, true, true, true, true, true, true, true, true, true, false, true, false, false, false, false] rfl rfl (by kernel_rfl) (fun _ _ _ h => h) (Or.inl ⟨by rfl, ?_⟩) hHeld ?_ ?_
            rotate_left
            · rintro w' ⟨s0, s1⟩
              go_simp
              with_reducible rfl
            rotate_left
            · simp only [Act.put, List.setIfInBounds_toArray, List.set_cons_zero, List.set_cons_succ, i64_w, i32_w]
              rfl
            refine one_ (i := 14) (N := some 166) #[true, true, true, true, true, true, true, true, true, true, true, true, true, true, true, true, false, false, false, false] rfl rfl (by kernel_rfl) (by decide) (fun K hK => ?_)
            refine goes_ Try.func12 (by kernel_rfl) rfl #[.pointer (some ⟨w1.heap.size, 0, none⟩)] (by rfl) rfl rfl (by simp only [List.map_toArray, List.map_cons, List.map_nil]; rfl) ?_
            with_reducible refine ((yKeys H7.out (by have := HGM.out.few; omega))).mono ?_
            rintro e w8 ⟨A8, c8, rfl, ho8, hb8⟩
            have H8 := Aside0.mk (H7.out.below (stays_X3 _ _ _ _ _ _ _ _ _) hb8)
            have HO8 := Aside0.mk ho8
            clear ho8 hb8
            refine ⟨_, rfl, ?_⟩
            refine hK.out _ _ ⟨H8.out.there.1.1.2.cell, H8.out.there.2.cells.2.1⟩ (fun hHeld => ?_)
            clear hK K
            refine norm_ (a' := ?_) ?_ ?_
            rotate_left
            · show Act.put _ (some 166) _ = _
              simp only [Act.put, List.setIfInBounds_toArray, List.set_cons_zero, List.set_cons_succ, i64_w, i32_w]
              rfl
            refine one_ (i := 16) (N := some 168) #[true, true, true, true, true, true, true, true, true, true, true, true, true, true, true, true, true, false, false, false] rfl rfl (by kernel_rfl) (by decide) (fun K hK => ?_)
            refine goes_ Try.func34 (by kernel_rfl) rfl #[.pointer (some ⟨oc, 0, none⟩)] (by rfl) rfl rfl (by simp only [List.map_toArray, List.map_cons, List.map_nil]; rfl) ?_
            with_reducible refine ((rKeys H8.out.there.2 (by have := HGM.out.few; omega))).mono ?_
            rintro e w9 ⟨v9, rfl, hr9, hb9⟩
            obtain ⟨A9, c9, e9, hl9, hC9⟩ := Kd.R_reads hr9
            rw [List.length_map] at e9 hl9 hC9
            subst e9
            have H9 := Aside0.mk (H8.out.below (stays_X3 _ _ _ _ _ _ _ _ _) hb9)
            have HL9 := Aside0.mk hl9
            have HC9 := Aside0.mk hC9
            have HC8 := Aside0.mk (Kd.C_below (row_reads HO8.out (List.length_map _)) hb9)
            have HL8 := Aside0.mk (row_cap HO8.out (List.length_map _))
            clear hr9 hb9 hl9 hC9
            refine ⟨_, rfl, ?_⟩
            refine hK.out _ _ ⟨H9.out.there.1.1.2.cell, H9.out.there.2.cells.2.1⟩ (fun hHeld => ?_)
            clear hK K
            refine norm_ (a' := ?_) ?_ ?_
            rotate_left
            · show Act.put _ (some 168) _ = _
              simp only [Act.put, List.setIfInBounds_toArray, List.set_cons_zero, List.set_cons_succ, i64_w, i32_w]
              rfl
            refine one_ (i := 17) (N := some 169) #[true, true, true, true, true, true, true, true, true, true, true, true, true, true, true, true, true, true, false, false] rfl rfl (by kernel_rfl) (by decide) (fun K hK => ?_)
            refine goes_ Try.func13 (by kernel_rfl) rfl #[.slice A8 M.length c8, .slice A9 M.length c9] (by rfl) rfl rfl (by simp only [List.map_toArray, List.map_cons, List.map_nil]; rfl) ?_
            with_reducible refine ((same_keys2 M (by have := HGM.out.few; omega) HL8.out HL9.out HC8.out HC9.out)).mono ?_
            rintro e wB ⟨rfl, nB, rfl⟩
            refine ⟨_, rfl, ?_⟩
            refine hK.out _ _ ⟨H9.out.there.1.1.2.cell, H9.out.there.2.cells.2.1⟩ (fun hHeld => ?_)
            clear hK K
            refine norm_ (a' := ?_) ?_ ?_
            rotate_left
            · show Act.put _ (some 169) _ = _
              simp only [Act.put, List.setIfInBounds_toArray, List.set_cons_zero, List.set_cons_succ, i64_w, i32_w]
              rfl
            refine pure_ (i := 18) (N := some 170) (v := ?_) (a' := ?_) #[true, true, true, true, true, true, true, true, true, true, true, true, true, true, true, true, true, true, true, false] rfl rfl (by kernel_rfl) (fun _ _ _ h => h) (Or.inl ⟨by rfl, ?_⟩) ?_ ?_
            rotate_left
            · intro w'
              go_simp
              with_reducible rfl
            rotate_left
            · simp only [Act.put, List.setIfInBounds_toArray, List.set_cons_zero, List.set_cons_succ, i64_w, i32_w]
              rfl
            refine pure_ (i := 19) (N := some 171) (v := ?_) (a' := ?_) #[true, true, true, true, true, true, true, true, true, true, true, true, true, true, true, true, true, true, true, true] rfl rfl (by kernel_rfl) (fun _ _ _ h => h) (Or.inl ⟨by rfl, ?_⟩) ?_ ?_
            rotate_left
            · intro w'
              go_simp
              with_reducible rfl
            rotate_left
            · simp only [Act.put, List.setIfInBounds_toArray, List.set_cons_zero, List.set_cons_succ, i64_w, i32_w]
              rfl
            refine done_ (by kernel_rfl) ?_
            unfold onNormal
            gi_wp2
            go_roundw
            case rel => exact ⟨i + 1, M, oc, _, (by first | exact int_step (by have := HL.out; omega) | rfl | simp), ⟨hi⟩, HGM, HOGN, ⟨scr_leave (H9.out.drewN (stays_X3 _ _ _ _ _ _ _ _ _) nB)⟩⟩
            case measure =>
              have := left_step (i := i) (n := l1.length) (by have := HL.out; omega) hi
              first
                | exact this
                | (rw [wrap_in (by omega) (by omega)] at this; exact this)
      · obtain ⟨⟨k0, k1⟩, k3⟩ := HO.out.there
        obtain ⟨A6, c6, e6, hl6, _⟩ := k3.form
        subst e6
        have e2 := k0.cell
        have f2 := k0.frozen
        have e4 := k1.cell
        have hfn := run_func_not
        clear k0 k1 k3
        gi_wp2_with (first
          | (refine ⟨trivial, ?_⟩; gi_at_call 18; (with_reducible refine CallsIn.mono (All_calls (n - 1) (some ⟨w1.heap.size, 0, none⟩) _) ?_); rintro e w9 ⟨rfl, rfl⟩))
        obtain ⟨wA, hwA⟩ : ∃ q, (wr.alloc (.cells #[.pointer (some ⟨w1.heap.size, 0, none⟩)] 24)).alloc (.cells #[.int .i64 0] 3) = q := ⟨_, rfl⟩
        obtain ⟨hzA, hbx, hbn, hbA⟩ := scr_range hwA
        rw [hwA]
        clear hwA e2 f2 e4 hfn
        have hA := HO.out.below (stays_X2 _ _ _ _ _ _ _) hbA
        have hfew : L.length ≤ 200 := by have := HG.out.few; have := HI.out; omega
        have hGl : ∀ k, G2 w.heap.size ob og (.slice A6 L.length c6) k → k < wr.heap.size := by
          obtain ⟨_, _, _, _, _, _, _, g6⟩ := HO.out
          exact fun k hk => (g6 k hk).1
        have hseq := all1_stops (n - 1) (by omega) wr.heap.size (some ⟨w1.heap.size, 0, none⟩) L (by omega) wA (by omega) hbx (fun W hW => hA.nodes (by omega) W hW)
        have HX := Aside0.mk hA.there
        have HLOW := Aside0.mk hA.low
        have HWR := Aside0.mk HO.out.low.size
        have HGL := Aside0.mk hGl
        have HZA := Aside0.mk hzA
        have HF := Aside0.mk hfew
        clear hA hGl hzA hbx hbA HO
        refine' wpIn_rangeFunc_ownG rfl h1 (gf := 38) (lb := #[.pointer (some ⟨wr.heap.size, 0, none⟩)]) rfl trivial (enters_of Try.func38 (by kernel_rfl) rfl) hseq (fun a b => a.trans b) (fun W l o o' _ hl hc _ => KpC.put W l o o' hl hc) (Below.refl _ _) (fun _ => rfl)
          (fun pre W => Boxed W (wr.heap.size + 1) 3 (.int .i64 (pre.length : Int)) ∧ Turn (fun k => k = wr.heap.size + 1) wA W)
          (fun c pre _ => c = .ret ∧ ¬ pre <+: L)
          (OwnFrom.and (fun s W W' row hs hg hr => hs.kept hg (fun e => by have := (hr _ e.symm).1; have := HZA.out; omega)) (ownFrom_turn (Nat.le_refl _)))
          (fun _ _ _ _ _ hs _ _ => hs)
          ⟨hbn, Turn.refl _ _⟩ _ ?assign ?body ?done ?stop
        case assign =>
          intro l x W K hK
          gi_wp2
          exact hK
        case body =>
          rintro l pre ⟨xk, xv⟩ W ⟨hv, ht⟩ hlt
          unfold vl
          simp only []
          obtain ⟨⟨k0, k1⟩, k3⟩ := scr_at HX.out ht (fun k hk => by have := HGL.out k hk; have := HZA.out; omega)
          have e2 := k0.cell
          have f2 := k0.frozen
          have e4 := k1.cell
          have e3 := k3.cells.2.1
          obtain ⟨A7, c7, e67, _, hC⟩ := k3.form
          injection e67 with e671 _ e673
          subst e671
          subst e673
          obtain ⟨adw, rfl, x0, x1⟩ := at_I hC (pre.length : Int) (by omega) (by omega)
          rw [Int.toNat_natCast] at x0 x1
          obtain ⟨yk, yv, hy⟩ : ∃ yk yv, rd_I L (pre.length : Int) = (yk, yv) := ⟨_, _, rfl⟩
          rw [hy] at x0 x1
          have e7 := hv.cell
          have f7 := hv.frozen
          have q1 : (pre.length : Int) < (L.length : Int) := by omega
          have q2 : ¬ (L.length : Int) ≤ (pre.length : Int) := by omega
          have q3 : decide ((pre.length : Int) ≥ (L.length : Int)) = false := decide_eq_false (by omega)
          have HV := Aside0.mk hv
          have HT := Aside0.mk ht
          have HY : Aside0 (pre ++ [(xk, xv)] <+: L → (xk, xv) = (yk, yv)) := ⟨fun hp => by rw [← hy]; exact scr_pass hp⟩
          clear hv ht k0 k1 k3 hC hy hseq
          have hlt : pre.length < L.length := hlt
          by_cases c1 : yk = xk
          · subst c1
            by_cases c2 : yv = xv
            · subst c2
              gi_wp2
              refine wpIn_region_still_tail 30 (by kernel_rfl) (by kernel_rfl) (by kernel_rfl) ?_
              simp only [List.take_succ_cons, List.take_zero, List.drop_succ_cons, List.drop_zero]
              repeat still_step
              try refine wpStill_nil ?_
              change wpListIn _ _ _ _ _ _ _ W.drew
              gi_wp2
              have hsz := HT.out.size
              have hz := HZA.out
              have hF := HF.out
              have hl1 : (pre ++ [(yk, yv)]).length = pre.length + 1 := by rw [List.length_append]; rfl
              refine ⟨keeps_set, ⟨by simp, fun k cs T fz hk hkc => ?_⟩, ?_, ?_⟩
              · show (W.setCell ⟨wr.heap.size + 1, 0, none⟩ (.int .i64 ((pre.length : Int) + 1))).heap[k]? = _
                rw [Below.heap_setCell _ _ _ _ (by simp only; omega)]
                exact hkc
              · rw [hl1]
                exact HV.out.set (.int .i64 ((pre.length : Int) + 1))
              · exact (HT.out.trans (Turn.setCell (F := fun k => k = wr.heap.size + 1) _ (a := ⟨wr.heap.size + 1, 0, none⟩) rfl _)).drewN' 1
            · have HN := Aside0.mk c2
              have hb3 : (yv == xv) = false := beq_eq_false_iff_ne.2 c2
              have hb5 : (yv != xv) = true := bne_iff_ne.2 c2
              gi_wp2
              refine wpIn_region_still_tail 30 (by kernel_rfl) (by kernel_rfl) (by kernel_rfl) ?_
              simp only [List.take_succ_cons, List.take_zero, List.drop_succ_cons, List.drop_zero]
              repeat still_step
              try refine wpStill_nil ?_
              change wpListIn _ _ _ _ _ _ _ W.drew
              gi_wp2
              exact ⟨keeps_set, rfl, fun hp => HN.out (congrArg Prod.snd (HY.out hp)).symm⟩
          · have hb2 : (yk.toList == xk.toList) = false := toList_ne c1
            have hb5 : (yk.toList != xk.toList) = true := by rw [bne, hb2]; rfl
            have HN := Aside0.mk c1
            clear c1
            gi_wp2
            refine wpIn_region_still_tail 30 (by kernel_rfl) (by kernel_rfl) (by kernel_rfl) (St.out ?_)
            simp only [List.take_succ_cons, List.take_zero, List.drop_succ_cons, List.drop_zero]
            iterate 30 (refine st_step (fun K hK => ?_); go_simp; refine hK _ ?_; clear hK K)
            refine st_nil ?_
            change wpListIn _ _ _ _ _ _ _ W.drew
            gi_wp2
            exact ⟨keeps_set, rfl, fun hp => HN.out (congrArg Prod.fst (HY.out hp)).symm⟩
        case done =>
          rintro D ys W hD hys ⟨hv, ht⟩ hK
          subst hys
          obtain ⟨⟨k0, k1⟩, k3⟩ := scr_at HX.out ht (fun k hk => by have := HGL.out k hk; have := HZA.out; omega)
          have e2 := k0.cell
          have f2 := k0.frozen
          have e4 := k1.cell
          have e3 := k3.cells.2.1
          have e7 := hv.cell
          have HK2 := Aside0.mk k0
          have HT := Aside0.mk ht
          have HKD := Aside0.mk hK
          have HDD := Aside0.mk hD
          clear hseq hv ht k0 k1 k3 hK hD
          gi_wp2
          gi_region
          gi_wp2
          exact scr_end (k := 1) (HLOW.out.trans (HT.out.below (fun k hk => by rw [hk]; have := HWR.out; omega) HLOW.out.size)) HK2.out (Nat.le_refl _) (Nat.le_trans HLOW.out.size HDD.out) HKD.out rfl
        case stop =>
          rintro D c pre W _ hp ⟨_, hnp⟩ _
          exact absurd hp hnp
theorem LruScript_calls (m : Int) (A1 : Option Addr) (c1 : Nat) (l1 : List Act) (w : World) (_hc : l1.length ≤ c1) (hr : Kd.C kA w A1 l1.length l1) :
    Calls Try.prog 7 #[.int .i64 m, .slice A1 l1.length c1] w fun e W' => e = .returned (.bool true) ∧ Below w.heap.size w W' := callsIn_wide.1 (LruScript_in 5 (Nat.le_refl _) m A1 c1 l1 w hr)
end Go.Proofs.Ytfmaoaigljjhgaa.Lru
