/- The law LruSnap, walked: what is gone through is the list as it was at the beginning, whatever is done meanwhile. -/
import Derived.Test.YtfmaoaigljjhgaaLruC
import Derived.Test.YtfmaoaigljjhgaaLruRowS
import Derived.Test.YtfmaoaigljjhgaaLruTwo
import Derived.Test.YtfmaoaigljjhgaaLru9
import Derived.Test.YtfmaoaigljjhgaaLruStill
import Derived.Shelf.Abstract
namespace Go.Proofs.Ytfmaoaigljjhgaa.Lru
open Go Go.RowKit Go.Maps Go.Proofs.YtfmaoaigljjhgaaW.PrintWords

theorem pick_in (k : Int) (m : Nat) (h1 : 1 ≤ m) (h2 : m ≤ 1000) : ∃ r : Nat, PLruScript.nameplatekit_Pick.f k (m : Int) = some (r : Int) ∧ r < m := by
  unfold PLruScript.nameplatekit_Pick.f
  rw [if_neg (by omega), if_neg (by omega)]
  have a1 : Int.tmod k (m : Int) < (m : Int) := Int.tmod_lt_of_pos k (by omega)
  have a2 : -(m : Int) < Int.tmod k (m : Int) := Int.lt_tmod_of_pos k (by omega)
  generalize Int.tmod k (m : Int) = t at a1 a2
  by_cases c : t < 0
  · rw [if_pos c]
    refine ⟨(t + m).toNat, ?_, by omega⟩
    have : wrap64 (t + m) = t + m := by unfold wrap64; omega
    rw [this, Int.toNat_of_nonneg (by omega)]
  · rw [if_neg c]
    exact ⟨t.toNat, by rw [Int.toNat_of_nonneg (by omega)], by omega⟩
/-- What the puts of the keys leave: each value is the number of its key. -/
structure SnapL (ks : List ByteArray) (i : Nat) (M : List KV) : Prop where
  few : M.length ≤ 60
  each : ∀ p ∈ M, ∃ j : Nat, p.2 = (j : Int) ∧ j < i ∧ ks[j]? = some p.1
  short : ∀ p ∈ M, p.1.size ≤ 100
theorem SnapL.put {ks : List ByteArray} {i : Nat} {M : List KV} (h : SnapL ks i M) {s : ByteArray} (hs : ks[i]? = some s) (hl : s.size ≤ 100) : ∃ M' o q, putR (60 : Int) s (i : Int) M = (M', o, q, 0) ∧ SnapL ks (i + 1) M' := by
  obtain ⟨o, q, e⟩ := putR_take (n := 60) (by omega) s (i : Int) h.few
  refine ⟨_, o, q, e, ?_, fun p hp => ?_, fun p hp => ?_⟩
  · rw [List.length_take]
    omega
  · rcases List.mem_cons.1 (List.mem_of_mem_take hp) with rfl | hp
    · exact ⟨i, rfl, Nat.lt_succ_self _, hs⟩
    · obtain ⟨j, h1, h2, h3⟩ := h.each p (List.mem_filter.1 hp).1
      exact ⟨j, h1, Nat.lt_succ_of_lt h2, h3⟩
  · rcases List.mem_cons.1 (List.mem_of_mem_take hp) with rfl | hp
    · exact hl
    · exact h.short p (List.mem_filter.1 hp).1
/-- The boxes of what the body names. -/
def XB3 (t : Nat) (A0 : Option Addr) (m c0 : Nat) (a1 : Int) (W : World) : Prop := Boxed W t 31 (.slice A0 m c0) ∧ Boxed W (t + 1) 3 (.int .i64 a1) ∧ Boxed W (t + 1 + 1) 4 (.bool false)
def GB3 (t : Nat) (k : Nat) : Prop := k = t ∨ k = t + 1 ∨ k = t + 1 + 1
theorem stays_XB3 (t : Nat) (A0 : Option Addr) (m c0 : Nat) (a1 : Int) : Stays (XB3 t A0 m c0 a1) (GB3 t) := fun _ _ h hx => ⟨(h t (.inl rfl)).trans hx.1, (h (t + 1) (.inr (.inl rfl))).trans hx.2.1, (h (t + 1 + 1) (.inr (.inr rfl))).trans hx.2.2⟩
theorem snap_first {w w1 : World} {A0 : Option Addr} {m c0 : Nat} {a1 : Int} (h : Below (((w.alloc (.cells #[.slice A0 m c0] 31)).alloc (.cells #[.int .i64 a1] 3)).alloc (.cells #[.bool false] 4)).heap.size (((w.alloc (.cells #[.slice A0 m c0] 31)).alloc (.cells #[.int .i64 a1] 3)).alloc (.cells #[.bool false] 4)) w1) :
    XB3 w.heap.size A0 m c0 a1 w1 ∧ Below w.heap.size w w1 ∧ (∀ k, GB3 w.heap.size k → k < w1.heap.size) := by
  have z1 : ∀ (v : World) (o : Obj), (v.alloc o).heap.size = v.heap.size + 1 := fun v o => by simp
  have k0 : Boxed (((w.alloc (.cells #[.slice A0 m c0] 31)).alloc (.cells #[.int .i64 a1] 3)).alloc (.cells #[.bool false] 4)) w.heap.size 31 (.slice A0 m c0) := ((Boxed.new w _ _).alloc _).alloc _
  have k1 : Boxed (((w.alloc (.cells #[.slice A0 m c0] 31)).alloc (.cells #[.int .i64 a1] 3)).alloc (.cells #[.bool false] 4)) (w.heap.size + 1) 3 (.int .i64 a1) := by
    have := (Boxed.new (w.alloc (.cells #[.slice A0 m c0] 31)) 3 (.int .i64 a1)).alloc (.cells #[.bool false] 4)
    rw [z1] at this
    exact this
  have k2 : Boxed (((w.alloc (.cells #[.slice A0 m c0] 31)).alloc (.cells #[.int .i64 a1] 3)).alloc (.cells #[.bool false] 4)) (w.heap.size + 1 + 1) 4 (.bool false) := by
    have := Boxed.new ((w.alloc (.cells #[.slice A0 m c0] 31)).alloc (.cells #[.int .i64 a1] 3)) 4 (.bool false)
    rw [z1, z1] at this
    exact this
  have hb : Below w.heap.size w (((w.alloc (.cells #[.slice A0 m c0] 31)).alloc (.cells #[.int .i64 a1] 3)).alloc (.cells #[.bool false] 4)) := (((Below.refl _ _).alloc (Nat.le_refl _) _).alloc (by rw [z1]; omega) _).alloc (by rw [z1, z1]; omega) _
  have hs := h.size
  rw [z1, z1, z1] at hs
  refine ⟨⟨(h.block _ k0.lt).trans k0, (h.block _ k1.lt).trans k1, (h.block _ k2.lt).trans k2⟩, hb.trans (h.mono hb.size), ?_⟩
  rintro k (rfl | rfl | rfl) <;> omega
theorem results_cell {fn : Func} {i : Tmp} (h : fn.results = #[.cell i 4]) (tmps : Array Value) (w : World) (p : Addr) (v : Value) (ha : tmps.getD i undef = .pointer (some p)) (hc : w.cell? p = some v) : (results fn tmps).run Try.prog w = .ok v w := by
  rw [Array.getD_eq_getD_getElem?] at ha
  simp [results, h, ha, asAddr, loadVar, isAgg, run_underlying Try.underlying4, hc]
theorem OwnX.bsize {X : World → Prop} {G : Nat → Prop} {w0 w : World} {b : Nat} {most : Int} {L : List KV} (h : OwnX X G w0 w b most L) : b < w.heap.size := by
  obtain ⟨mb, E, g1, _⟩ := h
  exact g1.lt (.inl rfl)
def XB4 (t : Nat) (A0 : Option Addr) (m c0 : Nat) (a1 : Int) (lb b : Nat) (W : World) : Prop := XB3 t A0 m c0 a1 W ∧ Boxed W lb 24 (.pointer (some ⟨b, 0, none⟩))
def GB4 (t lb : Nat) (k : Nat) : Prop := GB3 t k ∨ k = lb
theorem stays_XB4 (t : Nat) (A0 : Option Addr) (m c0 : Nat) (a1 : Int) (lb b : Nat) : Stays (XB4 t A0 m c0 a1 lb b) (GB4 t lb) := fun _ _ h hx => ⟨stays_XB3 t A0 m c0 a1 _ _ (fun k hk => h k (.inl hk)) hx.1, (h lb (.inr rfl)).trans hx.2⟩
theorem snap_boxed {w w2 : World} {A0 : Option Addr} {m c0 t b : Nat} {a1 : Int} (h : OwnX (XB3 t A0 m c0 a1) (GB3 t) w w2 b 60 []) :
    OwnX (XB4 t A0 m c0 a1 w2.heap.size b) (GB4 t w2.heap.size) w (w2.alloc (.cells #[.pointer (some ⟨b, 0, none⟩)] 24)) b 60 [] := by
  have hb : Below w2.heap.size w2 (w2.alloc (.cells #[.pointer (some ⟨b, 0, none⟩)] 24)) := (Below.refl _ _).alloc (Nat.le_refl _) _
  have h0 := h
  obtain ⟨mb, E, g1, g2, g3, g4, g5, g6⟩ := h
  refine ⟨mb, E, g1.below hb, g2, g3, g4.trans (hb.mono g4.size), ⟨stays_XB3 _ _ _ _ _ w2 _ (fun k hk => hb.block k (g6 k hk).1) g5, Boxed.new w2 _ _⟩, ?_⟩
  rintro k (hk | rfl)
  · exact ⟨Nat.lt_of_lt_of_le (g6 k hk).1 hb.size, (g6 k hk).2⟩
  · exact ⟨by simp, fun hf => by have := g1.lt hf; omega⟩
def XB5 (t : Nat) (A0 : Option Addr) (m c0 : Nat) (a1 : Int) (lb b wk base : Nat) (v5 : Value) (ks : List ByteArray) (W : World) : Prop := XB4 t A0 m c0 a1 lb b W ∧ Boxed W wk 31 v5 ∧ W.ownsRow base 9 1 v5 ks.length (ks.map Value.string)
def GB5 (t lb wk : Nat) (v5 : Value) (k : Nat) : Prop := GB4 t lb k ∨ k = wk ∨ v5.ownBlock = some k
theorem stays_XB5 (t : Nat) (A0 : Option Addr) (m c0 : Nat) (a1 : Int) (lb b wk base : Nat) (v5 : Value) (ks : List ByteArray) : Stays (XB5 t A0 m c0 a1 lb b wk base v5 ks) (GB5 t lb wk v5) :=
  fun _ _ h hx => ⟨stays_XB4 t A0 m c0 a1 lb b _ _ (fun k hk => h k (.inl hk)) hx.1, (h wk (.inr (.inl rfl))).trans hx.2.1, own_move hx.2.2 (fun k hk => h k (.inr (.inr hk)))⟩
theorem snap_was {w wr w5 : World} {A0 A5 : Option Addr} {m c0 c5 t lb b : Nat} {a1 : Int} {M : List KV} (h : OwnX (XB4 t A0 m c0 a1 lb b) (GB4 t lb) w wr b 60 M)
    (ho : w5.ownsRow wr.heap.size 9 1 (.slice A5 M.length c5) M.length ((M.map Prod.fst).map Value.string)) (hb5 : Below wr.heap.size wr w5) :
    OwnX (XB5 t A0 m c0 a1 lb b w5.heap.size wr.heap.size (.slice A5 M.length c5) (M.map Prod.fst)) (GB5 t lb w5.heap.size (.slice A5 M.length c5)) w (w5.alloc (.cells #[.slice A5 M.length c5] 31)) b 60 M := by
  have hb : Below w5.heap.size w5 (w5.alloc (.cells #[.slice A5 M.length c5] 31)) := (Below.refl _ _).alloc (Nat.le_refl _) _
  have hz : (w5.alloc (.cells #[.slice A5 M.length c5] 31)).heap.size = w5.heap.size + 1 := by simp
  have hbb := hb5.trans (hb.mono hb5.size)
  obtain ⟨mb, E, g1, g2, g3, g4, g5, g6⟩ := h
  refine ⟨mb, E, g1.below hbb, g2, g3, g4.trans (hbb.mono g4.size), ⟨stays_XB4 _ _ _ _ _ _ _ wr _ (fun k hk => hbb.block k (g6 k hk).1) g5, Boxed.new w5 _ _, ?_⟩, ?_⟩
  · rw [List.length_map]
    exact own_move ho (fun k hk => hb.block k (own_lt ho k hk))
  · rintro k (hk | rfl | hk)
    · exact ⟨Nat.lt_of_lt_of_le (g6 k hk).1 hbb.size, (g6 k hk).2⟩
    · exact ⟨by omega, fun hf => by have := g1.lt hf; have := hb5.size; omega⟩
    · have h1 := own_lt ho k hk
      have h2 := own_base ho k hk
      exact ⟨by omega, fun hf => by have := g1.lt hf; omega⟩
theorem OwnX.set {X : World → Prop} {G : Nat → Prop} {w0 w : World} {b : Nat} {most : Int} {L : List KV} (h : OwnX X G w0 w b most L) {a : Addr} (u : Value) (hG : G a.block) (hw : w0.heap.size ≤ a.block) {Y : World → Prop} (hY : Y (w.setCell a u)) : OwnX Y G w0 (w.setCell a u) b most L := by
  obtain ⟨mb, E, h1, h2, h3, h4, h5, h6⟩ := h
  have ht : Turn (fun k => k = a.block) w (w.setCell a u) := Turn.setCell (F := fun k => k = a.block) _ (a := a) rfl _
  have hL : Lru (w.setCell a u) b mb most E := h1.keep fun k hk => Below.heap_setCell w a u k (fun e => (h6 a.block hG).2 (e ▸ hk))
  exact ⟨mb, E, hL, h2, h3, h4.trans (ht.below (fun k hk => by omega) h4.size), hY, fun k hk => ⟨Nat.lt_of_lt_of_le (h6 k hk).1 ht.size, (h6 k hk).2⟩⟩
/-- What the body of the range holds: the boxes, the row of keys as it was, and how far it has come. -/
def XS (t : Nat) (A0 : Option Addr) (m c0 r lb b wk base nb : Nat) (v5 : Value) (ks : List ByteArray) (k : Nat) (W : World) : Prop := XB5 t A0 m c0 (r : Int) lb b wk base v5 ks W ∧ Boxed W nb 3 (.int .i64 (k : Int))
def GS (t lb wk nb : Nat) (v5 : Value) (k : Nat) : Prop := GB5 t lb wk v5 k ∨ k = nb
theorem stays_XS (t : Nat) (A0 : Option Addr) (m c0 r lb b wk base nb : Nat) (v5 : Value) (ks : List ByteArray) (k : Nat) : Stays (XS t A0 m c0 r lb b wk base nb v5 ks k) (GS t lb wk nb v5) :=
  fun _ _ h hx => ⟨stays_XB5 t A0 m c0 r lb b wk base v5 ks _ _ (fun k hk => h k (.inl hk)) hx.1, (h nb (.inr rfl)).trans hx.2⟩
theorem OwnX.lblt {t m c0 lb b b' : Nat} {A0 : Option Addr} {a1 : Int} {w0 w : World} {most : Int} {L : List KV} (h : OwnX (XB4 t A0 m c0 a1 lb b) (GB4 t lb) w0 w b' most L) : lb < w.heap.size := h.there.2.lt
theorem snap_range {w w5 : World} {A0 : Option Addr} {m c0 r lb b n6 base : Nat} {a1 : Int} {v5 : Value} {ks : List ByteArray} {M : List KV}
    (h : OwnX (XB5 w.heap.size A0 m c0 a1 lb b w5.heap.size base v5 ks) (GB5 w.heap.size lb w5.heap.size v5) w (w5.alloc (.cells #[v5] 31)) b 60 M) (h1 : w.heap.size + 3 ≤ lb) (h2 : lb < base) (h3 : base ≤ w5.heap.size) {wA : World}
    (hwA : ((((w5.alloc (.cells #[v5] 31)).drewN n6).setCell ⟨w.heap.size + 1, 0, none⟩ (.int .i64 (r : Int))).alloc (.cells #[.pointer (some ⟨b, 0, none⟩)] 24)).alloc (.cells #[.int .i64 0] 3) = wA) :
    wA.heap.size = w5.heap.size + 3 ∧ wA.cell? ⟨w5.heap.size + 1, 0, none⟩ = some (.pointer (some ⟨b, 0, none⟩)) ∧
      OwnX (XS w.heap.size A0 m c0 r lb b w5.heap.size base (w5.heap.size + 1 + 1) v5 ks 0) (GS w.heap.size lb w5.heap.size (w5.heap.size + 1 + 1) v5) w wA b 60 M := by
  have h4 := h.drewN (stays_XB5 _ _ _ _ _ _ _ _ _ _ _) n6
  obtain ⟨⟨⟨k0, k1, k2⟩, k4⟩, k5, k6⟩ := h4.there
  obtain ⟨wB, hwB⟩ : ∃ q, (w5.alloc (.cells #[v5] 31)).drewN n6 = q := ⟨_, rfl⟩
  have hzB : wB.heap.size = w5.heap.size + 1 := by rw [← hwB]; simp
  rw [hwB] at hwA h4 k0 k1 k2 k4 k5 k6
  have h7 := h4.set (a := ⟨w.heap.size + 1, 0, none⟩) (.int .i64 (r : Int)) (.inl (.inl (.inr (.inl rfl)))) (by simp only; omega) (Y := XB5 w.heap.size A0 m c0 r lb b w5.heap.size base v5 ks)
    ⟨⟨⟨k0.other (by omega) _, k1.set _, k2.other (by omega) _⟩, k4.other (by omega) _⟩, k5.other (by omega) _, own_move k6 (fun k hk => Below.heap_setCell _ _ _ _ (by have := own_base k6 k hk; simp only; omega))⟩
  obtain ⟨wC, hwC⟩ : ∃ q, wB.setCell ⟨w.heap.size + 1, 0, none⟩ (.int .i64 (r : Int)) = q := ⟨_, rfl⟩
  have hzC : wC.heap.size = w5.heap.size + 1 := by rw [← hwC]; simpa using hzB
  rw [hwC] at hwA h7
  have hb : Below wC.heap.size wC wA := by rw [← hwA]; exact ((Below.refl _ _).alloc (Nat.le_refl _) _).alloc (by simp) _
  have hzA : wA.heap.size = w5.heap.size + 3 := by rw [← hwA]; simp [hzC]
  have b1 : Boxed wA (w5.heap.size + 1) 24 (.pointer (some ⟨b, 0, none⟩)) := by
    rw [← hwA, ← hzC]
    exact (Boxed.new wC _ _).alloc _
  have b2 : Boxed wA (w5.heap.size + 1 + 1) 3 (.int .i64 0) := by
    rw [← hwA]
    have := Boxed.new (wC.alloc (.cells #[.pointer (some ⟨b, 0, none⟩)] 24)) 3 (.int .i64 0)
    simp only [World.size_alloc, hzC] at this
    exact this
  refine ⟨hzA, b1.cell, ?_⟩
  obtain ⟨mb, E, g1, g2, g3, g4, g5, g6⟩ := h7
  refine ⟨mb, E, g1.below hb, g2, g3, g4.trans (hb.mono g4.size), ⟨stays_XB5 _ _ _ _ _ _ _ _ _ _ _ wC _ (fun k hk => hb.block k (g6 k hk).1) g5, b2⟩, ?_⟩
  rintro k (hk | rfl)
  · exact ⟨Nat.lt_of_lt_of_le (g6 k hk).1 hb.size, (g6 k hk).2⟩
  · exact ⟨by omega, fun hf => by have := g1.lt hf; omega⟩
theorem snap_none (l0 : List ByteArray) : SnapL l0 0 [] := ⟨by simp, fun p hp => (List.not_mem_nil hp).elim, fun p hp => (List.not_mem_nil hp).elim⟩
def snapI (B : Nat) (Xk : Nat → World → Prop) (G : Nat → Prop) (w : World) (b r : Nat) (pre : List KV) (W : World) : Prop := pre.length ≤ r ∧ ∃ L, L.length ≤ 60 ∧ (∀ p ∈ L, p.1.size ≤ 100) ∧ OwnB B (Xk pre.length) G w W b 60 L
def snapIx (B : Nat) (Xk : Nat → World → Prop) (G : Nat → Prop) (w : World) (b r : Nat) (M : List KV) (c : Code) (pre : List KV) (W : World) : Prop := (c = .ret ∧ ¬ pre <+: M) ∨ (c = .exit 2 ∧ ∃ L, OwnB B (Xk r) G w W b 60 L)
theorem snapI_own {B : Nat} {Xk : Nat → World → Prop} {G : Nat → Prop} {w : World} {b r : Nat} (hS : ∀ k, Stays (Xk k) G) (hG : ∀ k, G k → k < B) : OwnFrom B (snapI B Xk G w b r) := by
  rintro pre W W' row ⟨h1, L, h2, h3, h4⟩ hg hr
  exact ⟨h1, L, h2, h3, OwnB.from_ (Xs := fun _ : Unit => Xk pre.length) (Ms := fun _ => L) (fun _ => hS _) hG () W W' row h4 hg hr⟩
theorem snapIx_own {B : Nat} {Xk : Nat → World → Prop} {G : Nat → Prop} {w : World} {b r : Nat} {M : List KV} (hS : ∀ k, Stays (Xk k) G) (hG : ∀ k, G k → k < B) (c : Code) : OwnFrom B (snapIx B Xk G w b r M c) := by
  rintro pre W W' row (h | ⟨h1, L, h4⟩) hg hr
  · exact .inl h
  · exact .inr ⟨h1, L, OwnB.from_ (Xs := fun _ : Unit => Xk r) (Ms := fun _ => L) (fun _ => hS _) hG () W W' row h4 hg hr⟩
theorem toList_ne {s t : ByteArray} (h : ¬ s = t) : (s.toList == t.toList) = false := by
  rw [beq_eq_false_iff_ne]
  intro e
  rw [ByteArray.toList_eq, ByteArray.toList_eq] at e
  apply h
  cases s
  cases t
  congr 1
  exact Array.toList_inj.1 e
theorem wrap_i (n : Int) : IntKind.i64.wrap n = wrap64 n := by unfold wrap64; exact IntKind.wrap_i64 n
theorem rd_short {M : List KV} (h : ∀ p ∈ M, p.1.size ≤ 100) {q : Nat} (hq : q < M.length) : (rdOf ByteArray.empty (M.map Prod.fst) (q : Int)).size ≤ 100 := by
  have hq2 : q < (M.map Prod.fst).length := by rw [List.length_map]; exact hq
  have e : rdOf ByteArray.empty (M.map Prod.fst) (q : Int) = (M.map Prod.fst)[q] := by
    unfold rdOf
    rw [Int.toNat_natCast, List.getD_eq_getElem?_getD, List.getElem?_eq_getElem hq2]
    rfl
  obtain ⟨p, hp, he⟩ := List.mem_map.1 (List.getElem_mem hq2)
  rw [e, ← he]
  exact h p hp
theorem KeepsFrom.of_below {B : Nat} {A C : World} (h : Below A.heap.size A C) : KeepsFrom B A C := ⟨h.size, fun k _ _ hk _ => (h.block k (lt_of_cells hk)).trans hk⟩
theorem snap_step {B : Nat} {w W w7 : World} {A0 : Option Addr} {m c0 r lb b wk base nb i j : Nat} {v5 : Value} {ks : List ByteArray} {L : List KV} (h : OwnB B (XS w.heap.size A0 m c0 r lb b wk base nb v5 ks i) (GS w.heap.size lb wk nb v5) w w7 b 60 L)
    (hk : KpL b 60 B W w7) (hf : KeepsFrom B W w7) (hnb : nb < B) (h3 : w.heap.size + 3 ≤ lb) (h4 : lb < base) (h5 : base ≤ wk) (h6 : wk < nb) (hv : ∀ k, v5.ownBlock = some k → k ≠ nb) :
    OwnB B (XS w.heap.size A0 m c0 r lb b wk base nb v5 ks j) (GS w.heap.size lb wk nb v5) w (w7.setCell ⟨nb, 0, none⟩ (.int .i64 (j : Int))) b 60 L ∧ KpL b 60 B W (w7.setCell ⟨nb, 0, none⟩ (.int .i64 (j : Int))) ∧ KeepsFrom B W (w7.setCell ⟨nb, 0, none⟩ (.int .i64 (j : Int))) := by
  obtain ⟨⟨⟨⟨k0, k1, k2⟩, k4⟩, k5, k6⟩, k7⟩ := h.there
  obtain ⟨g1, g2, g3⟩ := h.set (a := ⟨nb, 0, none⟩) (.int .i64 (j : Int)) (.inr rfl) hnb (by simp only; omega) (Y := XS w.heap.size A0 m c0 r lb b wk base nb v5 ks j)
    ⟨⟨⟨⟨k0.other (by omega) _, k1.other (by omega) _, k2.other (by omega) _⟩, k4.other (by omega) _⟩, k5.other (by omega) _, own_move k6 (fun k hk => Below.heap_setCell _ _ _ _ (hv k hk))⟩, k7.set _⟩
  exact ⟨g1, hk.trans g2, hf.trans g3⟩
theorem snap_sub {s u : ByteArray} {v : Int} {L : List KV} (hs : s.size ≤ 100) (h : ∀ p ∈ L, p.1.size ≤ 100) : ∀ p ∈ (putL s v (dropL u L)).take 60, p.1.size ≤ 100 := by
  intro p hp
  rcases List.mem_cons.1 (List.mem_of_mem_take hp) with rfl | hp
  · exact hs
  · exact h p (List.mem_filter.1 (List.mem_filter.1 hp).1).1
/-- What is gone through passes the body's checks. -/
theorem snap_pass {ks : List ByteArray} {i : Nat} {M pre : List KV} {x : KV} (h : SnapL ks i M) (hp : pre ++ [x] <+: M) : x.1 = rdOf ByteArray.empty (M.map Prod.fst) (pre.length : Int) ∧ ∃ j : Nat, x.2 = (j : Int) ∧ j < i ∧ ks[j]? = some x.1 := by
  obtain ⟨t, rfl⟩ := hp
  refine ⟨?_, h.each x (by simp)⟩
  unfold rdOf
  rw [Int.toNat_natCast, List.getD_eq_getElem?_getD]
  simp
theorem snap_end {w W : World} {n D t : Nat} {b0 : Value} {tmps : Array Value} (hlow : Below w.heap.size w W) (hk : Boxed W t 4 b0) (ht : w.heap.size ≤ t) (hD : w.heap.size ≤ D) (hK : W.heap[D]? = some (.deferred (some []))) (h4 : tmps.getD 4 undef = .pointer (some ⟨t, 0, none⟩)) :
    bodyPostM Fence.wide n Try.prog Try.f5 (fun e W' => e = .returned (.bool true) ∧ Below w.heap.size w W') .ret { tmps := tmps, defers := [{ target := .collected D, args := #[] }] } (W.setCell ⟨t, 0, none⟩ (.bool true)) := by
  have hK' := (KeepsOthers.setCell W ⟨t, 0, none⟩ (.bool true)).same D _ hK rfl
  have hne : some t ≠ some D := fun e => by
    have h1 : W.heap[t]? = _ := hk
    rw [Option.some.inj e, hK] at h1
    cases h1
  refine ⟨by simp, .inl ⟨_, _, rfl, run_takeDeferred hK', ?_⟩⟩
  exact ⟨_, results_cell (i := 4) (by kernel_rfl) _ _ ⟨t, 0, none⟩ (.bool true) h4 ((hk.set (.bool true)).kept (grownBy_putObj' _ D _) hne).cell, rfl, (hlow.setCell (p := ⟨t, 0, none⟩) ht (.bool true)).trans (belowK_b (w := w) (Nat.le_refl _) _ D _ _ hD hK' rfl rfl)⟩
attribute [local go_sem] Oper.semAt_some
set_option maxHeartbeats 8000000 in
set_option maxRecDepth 100000 in
theorem LruSnap_in (n : Nat) (hn : 5 ≤ n) (A0 : Option Addr) (c0 : Nat) (l0 : List ByteArray) (a1 : Int) (w : World) (hr : Kd.C Kd.string w A0 l0.length l0) :
    CallsIn Fence.wide n Try.prog 5 #[.slice A0 l0.length c0, .int .i64 a1] w fun e W' => e = .returned (.bool true) ∧ Below w.heap.size w W' := by
  have h1 : 1 ≤ n := by omega
  have HR := Aside0.mk hr
  clear hr
  refine callsIn_of_wp_marks Try.func5 rfl trivial ?_ rfl
  simp only [Try.ntmps5, List.size_toArray, List.length_cons, List.length_nil, Nat.reduceAdd, Nat.reduceSub, Array.replicate_succ, Array.replicate_zero, List.push_toArray, List.append_toArray, List.nil_append, List.cons_append]
  have hz1 : ∀ (v : World) (o : Obj), (v.alloc o).heap.size = v.heap.size + 1 := fun v o => by simp
  by_cases hlen : (l0.length : Int) > 60
  · gi_wp2_with (first
      | (refine ⟨trivial, ?_⟩; gi_at_call 9; (with_reducible refine CallsIn.mono (callsIn_wide.2 (lives_calls _)) ?_); rintro e w1 ⟨rfl, hb1⟩; obtain ⟨hx1, hb2, hg2⟩ := snap_first hb1; have HX1 := Aside0.mk hx1; have HB1 := Aside0.mk hb2; have HG1 := Aside0.mk hg2; obtain ⟨k0, k1, k2⟩ := hx1; have e0 := k0.cell; have e1 := k1.cell; have e2 := k2.cell; have f2 := k2.frozen; clear hb1 hb2 hg2 k0 k1 k2))
    exact ⟨_, results_cell (i := 4) (by kernel_rfl) _ _ ⟨w.heap.size + 1 + 1, 0, none⟩ (.bool true) rfl (HX1.out.2.2.set (.bool true)).cell, rfl, HB1.out.setCell (p := ⟨w.heap.size + 1 + 1, 0, none⟩) (by simp only; omega) (.bool true)⟩
  · gi_wp2_with (first
      | (refine ⟨trivial, ?_⟩; gi_at_call 9; (with_reducible refine CallsIn.mono (callsIn_wide.2 (lives_calls _)) ?_); rintro e w1 ⟨rfl, hb1⟩; obtain ⟨hx1, hb2, hg2⟩ := snap_first hb1; have HX1 := Aside0.mk hx1; have HB1 := Aside0.mk hb2; have HG1 := Aside0.mk hg2; obtain ⟨k0, k1, k2⟩ := hx1; have e0 := k0.cell; have e1 := k1.cell; have e2 := k2.cell; clear hb1 hb2 hg2 k0 k1 k2)
      | (refine ⟨trivial, ?_⟩; gi_at_call 10; (with_reducible refine CallsIn.mono (callsIn_wide.2 (xNew (w0 := w) (X := XB3 w.heap.size A0 l0.length c0 a1) (G := GB3 w.heap.size) (stays_XB3 _ _ _ _ _) HX1.out HG1.out HB1.out 60 (q := 60) rfl)) ?_); rintro e w2 ⟨rfl, h2⟩; have H0 := Aside0.mk h2; clear h2 e0 e1 e2))
    have HL := Aside0.mk hlen
    have HST := Aside0.mk (snap_boxed H0.out)
    obtain ⟨lb, hlb⟩ : ∃ q, w2.heap.size = q := ⟨_, rfl⟩
    have hlb3 : w.heap.size + 3 ≤ w2.heap.size := by have := HG1.out (w.heap.size + 1 + 1) (.inr (.inr rfl)); have := H0.out.bsize; omega
    rw [hlb] at HST hlb3 ⊢
    clear hlb
    gi_loopw [6] (fun v6 wr => ∃ (i : Nat) (M : List KV), v6 = .int .i64 (i : Int) ∧ Aside0 (i ≤ l0.length) ∧ Aside0 (SnapL l0 i M) ∧ Aside0 (OwnX (XB4 w.heap.size A0 l0.length c0 a1 lb w1.heap.size) (GB4 w.heap.size lb) w wr w1.heap.size 60 M))
      (fun v6 _ => l0.length - (intOf v6).toNat)
    case atStart => exact ⟨0, [], rfl, ⟨Nat.zero_le _⟩, ⟨snap_none l0⟩, HST⟩
    case round =>
      clear HST
      obtain ⟨i, M, rfl, HI, HM, HO⟩ := hrel
      have hI := HI.out
      obtain ⟨⟨k0, k1, k2⟩, k4⟩ := HO.out.there
      have e0 := k0.cell
      have e1 := k1.cell
      have e2 := k2.cell
      have f2 := k2.frozen
      have e4 := k4.cell
      clear k0 k1 k2 k4
      by_cases hi : i < l0.length
      · obtain ⟨ad, e5, x0⟩ := Kd.at_string (Kd.C_below HR.out HO.out.low) (i : Int) (by omega) (by omega)
        subst e5
        rw [Int.toNat_natCast] at x0
        have hsn : l0[i]? = some (rdOf ByteArray.empty l0 (i : Int)) := by
          unfold rdOf
          rw [Int.toNat_natCast, List.getD_eq_getElem?_getD, List.getElem?_eq_getElem hi]
          rfl
        obtain ⟨s, hs⟩ : ∃ s, rdOf ByteArray.empty l0 (i : Int) = s := ⟨_, rfl⟩
        rw [hs] at x0 hsn
        have q1 : (i : Int) < (l0.length : Int) := by omega
        have HSN := Aside0.mk hsn
        clear hs hsn
        by_cases hsz : (s.size : Int) > 100
        · gi_wp2
          exact ⟨_, results_cell (i := 4) (by kernel_rfl) _ _ ⟨w.heap.size + 1 + 1, 0, none⟩ (.bool true) rfl (HO.out.there.1.2.2.set (.bool true)).cell, rfl, HO.out.low.setCell (p := ⟨w.heap.size + 1 + 1, 0, none⟩) (by simp only; omega) (.bool true)⟩
        · obtain ⟨M', o, q, hp, hM'⟩ := HM.out.put HSN.out (by omega)
          have HP := Aside0.mk (xPut (stays_XB4 _ _ _ _ _ _ _) (HO.out.below (stays_XB4 _ _ _ _ _ _ _) ((Below.refl _ _).drew)) (by omega) s (by omega) (i : Int) (by have := HM.out.few; omega) (fun p hp => by have := HM.out.short p hp; omega) hp)
          unfold vl at HP
          have HM2 := Aside0.mk hM'
          clear hp hM'
          gi_wp2
          refine wpIn_wide.2 ?_
          go_still_tail 6, (by kernel_rfl)
          change wpList _ _ _ _ _ wr.drew
          go_wp2_with (first
            | (go_at_call 11; (with_reducible refine HP.out.mono ?_); rintro e w3 ⟨rfl, h3⟩; have H3 := Aside0.mk h3; clear h3))
          gi_wp2
          go_roundw
          case rel =>
            exact ⟨i + 1, M', (by first | rfl | simp), ⟨hi⟩, HM2, H3⟩
          case measure =>
            have := left_step (i := i) (n := l0.length) (by omega) hi
            rw [wrap_in (by omega) (by omega)] at this
            exact this
      · have HK := Aside0.mk (yKeys HO.out (by have := HM.out.few; omega))
        obtain ⟨r, hp, hr⟩ := pick_in a1 (M.length + 1) (by omega) (by have := HM.out.few; omega)
        rw [Int.natCast_add] at hp
        have HP := Aside0.mk hp
        have HRR := Aside0.mk hr
        have HFEW := HM.out.few
        have hfn := run_func_not
        clear hp hr
        gi_wp2_with (first
          | (refine ⟨trivial, ?_⟩; gi_at_call 12; (with_reducible refine CallsIn.mono (callsIn_wide.2 HK.out) ?_); rintro e w5 ⟨A5, c5, rfl, ho5, hb5⟩; have H5 := Aside0.mk (snap_was HO.out ho5 hb5); have HVB := Aside0.mk (fun k hk => own_lt ho5 k hk); obtain ⟨⟨⟨k0, k1, k2⟩, k4⟩, k5, k6⟩ := H5.out.there; have e0 := k0.cell; have e1 := k1.cell; have e2 := k2.cell; have e4 := k4.cell; have e5 := k5.cell; have f1 := k1.frozen; have hb5s := hb5.size; clear ho5 hb5 k0 k1 k2 k4 k5 k6)
          | (refine ⟨trivial, ?_⟩; gi_at_call 15; (refine CallsIn.mono (callsIn_wide.2 (PLruScript.nameplatekit_Pick.calls a1 ((M.length : Int) + 1) r _ HP.out)) ?_); rintro e w6 ⟨rfl, n6, rfl⟩)
          | (refine ⟨trivial, ?_⟩; gi_at_call 18; (with_reducible refine CallsIn.mono (All_calls (n - 1) (some ⟨w1.heap.size, 0, none⟩) _) ?_); rintro e w9 ⟨rfl, rfl⟩))
        obtain ⟨wA, hwA⟩ : ∃ q, ((((w5.alloc (.cells #[.slice A5 M.length c5] 31)).drewN n6).setCell ⟨w.heap.size + 1, 0, none⟩ (.int .i64 (r : Int))).alloc (.cells #[.pointer (some ⟨w1.heap.size, 0, none⟩)] 24)).alloc (.cells #[.int .i64 0] 3) = q := ⟨_, rfl⟩
        obtain ⟨hzA, hbx, hA⟩ := snap_range H5.out hlb3 (HO.out.lblt) hb5s hwA
        rw [hwA]
        obtain ⟨mbA, EA, hmbA, hbA, hLA, hrestA⟩ := hA.bound
        clear hrestA
        have hseq := all2_stops (n - 1) (by omega) (w5.heap.size + 1) (some ⟨w1.heap.size, 0, none⟩) M (by omega) wA (by omega) hbx w1.heap.size mbA 60 EA hmbA hLA (fun W hW => hA.nodes (by omega) W hW)
        have hO := hA.bound
        have hGA : ∀ k, GS w.heap.size lb w5.heap.size (w5.heap.size + 1 + 1) (.slice A5 M.length c5) k → k < wA.heap.size := by
          obtain ⟨_, _, _, _, _, _, _, _, _, g6⟩ := hO
          exact fun k hk => (g6 k hk).1
        have HA := Aside0.mk hO
        have HZA := Aside0.mk hzA
        have HLB := Aside0.mk hlb3
        have HLW := Aside0.mk (HO.out.lblt)
        have H5S := Aside0.mk hb5s
        have HFW := Aside0.mk HFEW
        clear hwA hA hLA hO hzA H5 e0 e1 e2 e4 e5 f1 HK hfn HO H0 HX1 hbx hlb3 hb5s
        refine' wpIn_rangeFunc_ownG rfl h1 (gf := 38) (lb := #[.pointer (some ⟨w5.heap.size + 1, 0, none⟩)]) rfl trivial (enters_of Try.func38 (by kernel_rfl) rfl) hseq (fun a b => a.trans b) (fun W l o o' hB hl hc _ => KpL.put W l o o' hB hl hc) (Below.refl _ _) (fun _ => rfl)
          (snapI wA.heap.size (XS w.heap.size A0 l0.length c0 r lb w1.heap.size w5.heap.size wr.heap.size (w5.heap.size + 1 + 1) (.slice A5 M.length c5) (M.map Prod.fst)) (GS w.heap.size lb w5.heap.size (w5.heap.size + 1 + 1) (.slice A5 M.length c5)) w w1.heap.size r)
          (snapIx wA.heap.size (XS w.heap.size A0 l0.length c0 r lb w1.heap.size w5.heap.size wr.heap.size (w5.heap.size + 1 + 1) (.slice A5 M.length c5) (M.map Prod.fst)) (GS w.heap.size lb w5.heap.size (w5.heap.size + 1 + 1) (.slice A5 M.length c5)) w w1.heap.size r M)
          (snapI_own (fun _ => stays_XS _ _ _ _ _ _ _ _ _ _ _ _ _) hGA) (snapIx_own (fun _ => stays_XS _ _ _ _ _ _ _ _ _ _ _ _ _) hGA)
          ⟨Nat.zero_le _, M, HM.out.few, HM.out.short, HA.out⟩ _ ?assign ?body ?done ?stop
        case assign =>
          intro l x W K hK
          gi_wp2
          exact hK
        case body =>
          rintro l pre ⟨xk, xv⟩ W ⟨hle, L, hL60, hLs, hO⟩ hlt
          unfold vl
          simp only []
          have hpass := fun hp => snap_pass (x := (xk, xv)) HM.out (pre := pre) hp
          obtain ⟨⟨⟨⟨k0, k1, k2⟩, k4⟩, k5, k6⟩, k7⟩ := hO.there
          rw [List.length_map] at k6
          have hrow := row_reads k6 (List.length_map _)
          obtain ⟨adw, rfl, z0⟩ := Kd.at_string hrow (pre.length : Int) (by omega) (by omega)
          rw [Int.toNat_natCast] at z0
          obtain ⟨s, hs⟩ : ∃ s, rdOf ByteArray.empty (M.map Prod.fst) (pre.length : Int) = s := ⟨_, rfl⟩
          rw [hs] at z0 hpass
          have e0 := k0.cell
          have e1 := k1.cell
          have e2 := k2.cell
          have f2 := k2.frozen
          have e4 := k4.cell
          have e5 := k5.cell
          have e7 := k7.cell
          have f7 := k7.frozen
          have HPASS := Aside0.mk hpass
          have HROW := Aside0.mk hrow
          have HO := Aside0.mk hO
          have HLT := Aside0.mk hlt
          have HLE := Aside0.mk hle
          clear hpass hrow k0 k1 k2 k4 k5 k6 k7 hO hseq hs
          by_cases hb : pre.length = r
          · have HBR := Aside0.mk hb
            have hbi : (pre.length : Int) = (r : Int) := by omega
            clear hb hlt hle
            gi_wp2
            exact ⟨KeepsFrom.refl _ _, .inr ⟨rfl, L, by have h := HO.out; rw [HBR.out] at h; exact h⟩⟩
          · have hbi : ¬ (pre.length : Int) = (r : Int) := by omega
            have HBR : Aside0 (pre.length < r) := ⟨by omega⟩
            have q1 : (pre.length : Int) < (M.length : Int) := by omega
            clear hle hlt hb
            by_cases c1 : xk = s
            · subst c1
              by_cases c2 : xv < 0
              · gi_wp2
                exact ⟨(KeepsOthers.setCell _ _ _).from _, .inl ⟨rfl, fun hp => by obtain ⟨g1, j, g2, g3, g4⟩ := HPASS.out hp; omega⟩⟩
              · by_cases c3 : xv ≥ (l0.length : Int)
                · gi_wp2
                  exact ⟨(KeepsOthers.setCell _ _ _).from _, .inl ⟨rfl, fun hp => by obtain ⟨g1, j, g2, g3, g4⟩ := HPASS.out hp; have := HI.out; omega⟩⟩
                · obtain ⟨q, rfl⟩ : ∃ q : Nat, (q : Int) = xv := ⟨xv.toNat, by omega⟩
                  obtain ⟨ad0, rfl, y0⟩ := Kd.at_string (Kd.C_below HR.out HO.out.low) (q : Int) (by omega) (by omega)
                  rw [Int.toNat_natCast] at y0
                  have hsn : l0[q]? = some (rdOf ByteArray.empty l0 (q : Int)) := by
                    unfold rdOf
                    rw [Int.toNat_natCast, List.getD_eq_getElem?_getD, List.getElem?_eq_getElem (by omega)]
                    rfl
                  obtain ⟨t, ht⟩ : ∃ t, rdOf ByteArray.empty l0 (q : Int) = t := ⟨_, rfl⟩
                  rw [ht] at y0 hsn
                  clear ht
                  by_cases c4 : t = xk
                  · subst c4
                    obtain ⟨q2, hq2⟩ : ∃ q2 : Nat, (M.length : Int) - 1 - (pre.length : Int) = (q2 : Int) := ⟨M.length - 1 - pre.length, by omega⟩
                    have hw2 : IntKind.i64.wrap (IntKind.i64.wrap ((M.length : Int) - 1) - (pre.length : Int)) = (q2 : Int) := by
                      rw [wrap_i, wrap_i]
                      rw [wrap_in (n := (M.length : Int) - 1) (by omega) (by omega), wrap_in (by omega) (by omega)]
                      exact hq2
                    obtain ⟨_, e9, z2⟩ := Kd.at_string HROW.out (q2 : Int) (by omega) (by omega)
                    obtain rfl := Option.some.inj e9
                    rw [Int.toNat_natCast] at z2
                    obtain ⟨u, hu⟩ : ∃ u, rdOf ByteArray.empty (M.map Prod.fst) (q2 : Int) = u := ⟨_, rfl⟩
                    rw [hu] at z2
                    have husz : u.size ≤ 100 := by rw [← hu]; exact rd_short HM.out.short (by omega)
                    have HQ2 : Aside0 (q2 < M.length) := ⟨by omega⟩
                    have q3 : (q2 : Int) < (M.length : Int) := by omega
                    have HD := Aside0.mk (bDrop (stays_XS _ _ _ _ _ _ _ _ _ _ _ _ _) (HO.out.below (stays_XS _ _ _ _ _ _ _ _ _ _ _ _ _) ((Below.refl _ _).drew)) u (by omega))
                    obtain ⟨o2, g2, hput⟩ := putR_take (n := 60) (by omega) ⟨#[109, 111, 114, 101]⟩ 7 (L := dropL u L) (Nat.le_trans (dropL_length u L) hL60)
                    have HPUT := Aside0.mk hput
                    have HL60 := Aside0.mk hL60
                    have HLS := Aside0.mk hLs
                    clear hu husz hsn e9 hput hL60 hLs
                    gi_wp2
                    refine wpIn_region_still_tail 9 (by kernel_rfl) (by kernel_rfl) (by kernel_rfl) ?_
                    simp only [List.take_succ_cons, List.take_zero, List.drop_succ_cons, List.drop_zero]
                    repeat still_step
                    try refine wpStill_nil ?_
                    change wpListIn _ _ _ _ _ _ _ W.drew
                    gi_wp2_with (first
                      | (refine ⟨trivial, fun hd => by simp [Fence.wide] at hd, ?_⟩; gi_at_call 19; (with_reducible refine CallsIn.mono (callsIn_round HD.out) ?_); rintro e w6 ⟨rfl, h6, hk6, hf6⟩; have H6 := Aside0.mk h6; have HK6 := Aside0.mk hk6; have HF6 := Aside0.mk hf6; have e4 := h6.there.1.1.2.cell; have hP6 := (bPut (stays_XS _ _ _ _ _ _ _ _ _ _ _ _ _) h6 (by omega) ⟨#[109, 111, 114, 101]⟩ (by decide) 7 (Nat.le_trans (dropL_length u L) (by have := HL60.out; omega)) (fun p hp => Nat.le_trans (HLS.out p (List.mem_filter.1 hp).1) (by omega)) HPUT.out); unfold vl at hP6; have HP6 := Aside0.mk hP6; clear h6 hk6 hf6 hP6)
                      | (refine ⟨trivial, fun hd => by simp [Fence.wide] at hd, ?_⟩; gi_at_call 11; (with_reducible refine CallsIn.mono (callsIn_round HP6.out) ?_); rintro e w7 ⟨rfl, h7, hk7, hf7⟩; have H7 := Aside0.mk h7; have HK7 := Aside0.mk hk7; have HF7 := Aside0.mk hf7; have e7 := h7.there.2.cell; have f7 := h7.there.2.frozen; clear h7 hk7 hf7))
                    have hz := HZA.out
                    have hdrew : Below W.heap.size W W.drew := (Below.refl _ _).drew
                    obtain ⟨r1, r2, r3⟩ := snap_step (j := pre.length + 1) H7.out ((KpL.of_below hdrew).trans (HK6.out.trans HK7.out)) ((KeepsFrom.of_below hdrew).trans (HF6.out.trans HF7.out)) (by omega) HLB.out HLW.out H5S.out (by omega) (fun k hk => by have := HVB.out k hk; omega)
                    have hl1 : (pre ++ [(t, (q : Int))]).length = pre.length + 1 := by rw [List.length_append]; rfl
                    refine ⟨r3, r2, by rw [hl1]; exact HBR.out, _, ?_, snap_sub (s := ⟨#[109, 111, 114, 101]⟩) (by decide) HLS.out, by rw [hl1]; exact r1⟩
                    rw [List.length_take]
                    omega
                  · have hb2 := toList_ne c4
                    have HT := Aside0.mk hsn
                    have HNE := Aside0.mk c4
                    clear c4 hsn
                    gi_wp2
                    exact ⟨(KeepsOthers.setCell _ _ _).from _, .inl ⟨rfl, fun hp => by obtain ⟨g1, j, g2, g3, g4⟩ := HPASS.out hp; obtain rfl : q = j := (by omega); exact HNE.out (by rw [HT.out] at g4; exact Option.some.inj g4)⟩⟩
            · have hb2 := toList_ne c1
              have HNE := Aside0.mk c1
              clear c1
              gi_wp2
              exact ⟨(KeepsOthers.setCell _ _ _).from _, .inl ⟨rfl, fun hp => by obtain ⟨g1, j, g2, g3, g4⟩ := HPASS.out hp; exact HNE.out g1⟩⟩
        case done =>
          rintro D ys W hD hys ⟨hle, L, hL60, hLs, hO⟩ hK
          subst hys
          have hrr : ys.length = r := by have := HRR.out; omega
          obtain ⟨⟨⟨⟨k0, k1, k2⟩, k4⟩, k5, k6⟩, k7⟩ := hO.there
          rw [hrr] at k7
          have e1 := k1.cell
          have e2 := k2.cell
          have f2 := k2.frozen
          have e7 := k7.cell
          have HO := Aside0.mk hO
          have HK2 := Aside0.mk k2
          have HDD := Aside0.mk hD
          have HKD := Aside0.mk hK
          clear hseq hO k0 k1 k2 k4 k5 k6 k7 hK hD
          gi_wp2
          exact snap_end HO.out.low HK2.out (by omega) (by have := HA.out.low.size; have := HDD.out; omega) HKD.out rfl
        case stop =>
          rintro D c pre W hD hp hx hK
          rcases hx with ⟨rfl, hnp⟩ | ⟨rfl, L, hO⟩
          · exact absurd hp hnp
          · obtain ⟨⟨⟨⟨k0, k1, k2⟩, k4⟩, k5, k6⟩, k7⟩ := hO.there
            have e1 := k1.cell
            have e2 := k2.cell
            have f2 := k2.frozen
            have e7 := k7.cell
            have HO := Aside0.mk hO
            have HK2 := Aside0.mk k2
            have HDD := Aside0.mk hD
            have HKD := Aside0.mk hK
            clear hseq hO k0 k1 k2 k4 k5 k6 k7 hK hD
            gi_wp2
            exact snap_end HO.out.low HK2.out (by omega) (by have := HA.out.low.size; have := HDD.out; omega) HKD.out rfl
theorem LruSnap_calls (A0 : Option Addr) (c0 : Nat) (l0 : List ByteArray) (a1 : Int) (w : World) (_hc : l0.length ≤ c0) (hr : Kd.C Kd.string w A0 l0.length l0) :
    Calls Try.prog 5 #[.slice A0 l0.length c0, .int .i64 a1] w fun e W' => e = .returned (.bool true) ∧ Below w.heap.size w W' := callsIn_wide.1 (LruSnap_in 5 (Nat.le_refl _) A0 c0 l0 a1 w hr)
end Go.Proofs.Ytfmaoaigljjhgaa.Lru
