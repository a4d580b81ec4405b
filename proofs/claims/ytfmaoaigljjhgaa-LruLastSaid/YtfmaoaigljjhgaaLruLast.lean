/- The law LruLast, walked: of any keys that were put or got, the last ones are there, in that order. -/
import Derived.Test.YtfmaoaigljjhgaaLruLast1
import Derived.Test.YtfmaoaigljjhgaaLruTwo
namespace Go.Proofs.Ytfmaoaigljjhgaa.Lru
open Go Go.RowKit Go.Maps Go.Proofs.YtfmaoaigljjhgaaW.PrintWords

/-- The row of keys, and the map of values, of the law's own. -/
def XL (v6 : Value) (mv i base : Nat) (L : List KV) (w : World) : Prop := w.ownsRow base 9 1 v6 L.length ((L.map Prod.fst).map Value.string) ∧ Vals w mv i L
def GL (v6 : Value) (mv : Nat) (k : Nat) : Prop := v6.ownBlock = some k ∨ k = mv
theorem stays_XL (v6 : Value) (mv i base : Nat) (L : List KV) : Stays (XL v6 mv i base L) (GL v6 mv) :=
  fun _ _ h hx => ⟨own_move hx.1 (fun k hk => h k (.inl hk)), hx.2.kept (h mv (.inr rfl))⟩
def XA (s9 : Nat) (a : Act) (w : World) : Prop := w.heap[s9]? = some (.cells #[.int .i64 a.kind, .string a.key, .int .i64 a.v] 27 (0, 0))
theorem stays_XA (s9 : Nat) (a : Act) : Stays (XA s9 a) (fun k => k = s9) := fun _ _ h hx => (h s9 rfl).trans hx
structure GoodL (n i : Nat) (L : List KV) : Prop where
  nodup : (L.map Prod.fst).Nodup
  room : L.length ≤ n
  few : L.length ≤ i
  short : ∀ q ∈ L, q.1.size ≤ 100
theorem XL.reads {v6 : Value} {mv i base : Nat} {L : List KV} {w : World} (h : XL v6 mv i base L w) : Kd.R Kd.string 9 w base (fun k => v6.ownBlock = some k) v6 (L.map Prod.fst) :=
  Kd.R_of_own (enc := Value.string) (h1 := fun _ => rfl) (by rw [List.length_map]; exact h.1) (fun _ hk => hk)
theorem pick_two (k : Int) : ∃ r, PLruScript.nameplatekit_Pick.f k 2 = some r ∧ (r = 0 ∨ r = 1) := by
  unfold PLruScript.nameplatekit_Pick.f
  rw [if_neg (by decide), if_neg (by decide)]
  have h1 : Int.tmod k 2 = 0 ∨ Int.tmod k 2 = 1 ∨ Int.tmod k 2 = -1 := by
    by_cases hk : 0 ≤ k
    · have e : Int.tmod k 2 = k % 2 := Int.tmod_eq_emod_of_nonneg hk
      omega
    · have e : Int.tmod k 2 = -(Int.tmod (-k) 2) := by
        rw [Int.neg_tmod, Int.neg_neg]
      have e2 : Int.tmod (-k) 2 = (-k) % 2 := Int.tmod_eq_emod_of_nonneg (by omega)
      omega
  rcases h1 with e | e | e
  · rw [e, if_neg (by decide)]
    exact ⟨_, rfl, .inl rfl⟩
  · rw [e, if_neg (by decide)]
    exact ⟨_, rfl, .inr rfl⟩
  · rw [e, if_pos (by decide)]
    refine ⟨_, rfl, .inr ?_⟩
    decide +kernel
theorem int_step2' {i : Nat} (h : (i : Int) ≤ 1000) : Value.int .i64 (wrap64 ((i : Int) + 1)) = .int .i64 ((i + 1 : Nat) : Int) := by
  have h9 : wrap64 ((i : Int) + 1) = (i : Int) + 1 := by unfold wrap64; omega
  rw [h9]
  rfl
set_option maxHeartbeats 8000000 in
set_option maxRecDepth 100000 in
theorem LruLast_out (a0 : Int) (A1 : Option Addr) (c1 : Nat) (l1 : List Act) (w : World) (hout : (l1.length : Int) > 200 ∨ a0 < 1 ∨ a0 > 100) :
    Calls Try.prog 4 #[.int .i64 a0, .slice A1 l1.length c1] w fun e w' => e = .returned (.bool true) ∧ Below w.heap.size w w' := by
  have hlives := lives_calls w
  have key : ((l1.length : Int) > 200) ∨ (¬ (l1.length : Int) > 200 ∧ a0 < 1) ∨ (¬ (l1.length : Int) > 200 ∧ ¬ a0 < 1 ∧ a0 > 100) := by omega
  clear hout
  rcases key with d1 | ⟨d1, d2⟩ | ⟨d1, d2, d3⟩
  all_goals
    go_enter Try.func4, Try.ntmps4
    go_wp2_with (go_at_call 9; (with_reducible refine hlives.mono ?_); rintro e w1 ⟨rfl, hb1⟩)
    go_ret
    exact ⟨rfl, hb1⟩
theorem own_lit (W : World) (s : ByteArray) : (W.alloc (.cells #[.string s] 9)).ownsRow W.heap.size 9 1 (.slice (some ⟨W.heap.size, 0, none⟩) 1 1) 1 [Value.string s] :=
  ⟨by simp, .inr ⟨W.heap.size, 1, #[.string s], rfl, Nat.le_refl _, Below_new W _, Nat.le_refl _, by unfold maxLen; decide, rfl, rfl⟩⟩
theorem XL.C {A : Option Addr} {m c mv i base : Nat} {L : List KV} {w : World} (h : XL (.slice A m c) mv i base L w) : m = L.length ∧ L.length ≤ c ∧ Kd.C Kd.string w A L.length (L.map Prod.fst) := by
  obtain ⟨A', c', e, hl, hC⟩ := Kd.R_reads h.reads
  rw [List.length_map] at e hl hC
  injection e with e1 e2 e3
  subst e1
  subst e3
  exact ⟨e2, hl, hC⟩
theorem XL.form {v6 : Value} {mv i base : Nat} {L : List KV} {w : World} (h : XL v6 mv i base L w) : ∃ A c, v6 = .slice A L.length c := by
  obtain ⟨A', c', e, _⟩ := Kd.R_reads h.reads
  rw [List.length_map] at e
  exact ⟨A', c', e⟩
theorem XA.cells {s9 : Nat} {a : Act} {w : World} (h : XA s9 a w) : w.cell? ⟨s9, 0, none⟩ = some (.int .i64 a.kind) ∧ w.cell? ⟨s9, 1, none⟩ = some (.string a.key) ∧ w.cell? ⟨s9, 2, none⟩ = some (.int .i64 a.v) ∧ s9 < w.heap.size := by
  have h' : w.heap[s9]? = _ := h
  exact ⟨by simp [World.cell?, h'], by simp [World.cell?, h'], by simp [World.cell?, h'], (Array.getElem?_eq_some_iff.1 h').1⟩
theorem take_one (xs : List ByteArray) {j : Nat} (h : j < xs.length) : xs.take (j + 1) = xs.take j ++ [rdOf ByteArray.empty xs (j : Int)] := by
  rw [List.take_succ_eq_append_getElem h]
  congr 2
  unfold rdOf
  rw [Int.toNat_natCast, List.getD_eq_getElem?_getD, List.getElem?_eq_getElem h]
  rfl
theorem without_same {s : ByteArray} {xs : List ByteArray} : without s (xs ++ [s]) = without s xs := by
  unfold without
  rw [List.filter_append]
  simp
theorem without_other {s x : ByteArray} {xs : List ByteArray} (h : ¬ x = s) : s :: without s (xs ++ [x]) = (s :: without s xs) ++ [x] := by
  unfold without
  rw [List.filter_append, List.cons_append]
  congr 2
  simp [h]
theorem without_length (s : ByteArray) (xs : List ByteArray) : (without s xs).length ≤ xs.length := List.length_filter_le _ _
/-- The row of keys as it was, and the map of values already told anew. -/
def XO (v6 : Value) (mv i base : Nat) (Lo L : List KV) (w : World) : Prop := w.ownsRow base 9 1 v6 Lo.length ((Lo.map Prod.fst).map Value.string) ∧ Vals w mv i L
theorem stays_XO (v6 : Value) (mv i base s9 : Nat) (Lo L : List KV) (a : Act) : Stays (fun W => XO v6 mv i base Lo L W ∧ XA s9 a W) (fun k => GL v6 mv k ∨ k = s9) :=
  stays_and (fun _ _ h hx => ⟨own_move hx.1 (fun k hk => h k (.inl hk)), hx.2.kept (h mv (.inr rfl))⟩) (stays_XA s9 a)
theorem Vals.more {w : World} {mv i : Nat} {L : List KV} (h : Vals w mv i L) : Vals w mv (i + 1) L := by
  obtain ⟨D, h1, h2⟩ := h
  exact ⟨D, h1.mono (Nat.le_succ _), h2⟩
theorem last_got {w w5 : World} {b n mv i s9 : Nat} {v6 : Value} {L L' : List KV} {a : Act} (h : OwnX (fun W => XL v6 mv i w.heap.size L W ∧ XA s9 a W) (fun k => GL v6 mv k ∨ k = s9) w w5 b (n : Int) L') (hs : ∀ p ∈ L', p ∈ L) :
    OwnX (fun W => XO v6 mv (i + 1) w.heap.size L L' W ∧ XA s9 a W) (fun k => GL v6 mv k ∨ k = s9) w w5 b (n : Int) L' :=
  h.held ⟨⟨h.there.1.1, (h.there.1.2.sub hs).more⟩, h.there.2⟩ (fun _ _ _ _ h3 => h3)
theorem last_store {w w5 : World} {b n mv i s9 : Nat} {v6 : Value} {L L' : List KV} {a : Act} (h : OwnX (fun W => XL v6 mv i w.heap.size L W ∧ XA s9 a W) (fun k => GL v6 mv k ∨ k = s9) w w5 b (n : Int) L') (hmv : w.heap.size ≤ mv)
    (hs : a.key.size ≤ maxLen) (hv : (Lit.int .i64 a.v).wf = true) (hi : i < maxLen) (hM : ∀ p ∈ L', p = (a.key, a.v) ∨ (p ∈ L ∧ p.1 ≠ a.key)) :
    ∃ w6, (Instr.mapUpdate VM (.map (some mv)) (.string a.key) (.int .i64 a.v)).run Try.prog w5 = .ok () w6 ∧ OwnX (fun W => XO v6 mv (i + 1) w.heap.size L L' W ∧ XA s9 a W) (fun k => GL v6 mv k ∨ k = s9) w w6 b (n : Int) L' := by
  obtain ⟨mb, E, g1, g2, g3, g4, g5, g6⟩ := h
  obtain ⟨w6, hrun, hvals, hg, hz⟩ := g5.1.2.store a.key hs a.v hv hi hM
  have hblk : ∀ k, k < w5.heap.size → k ≠ mv → w6.heap[k]? = w5.heap[k]? := fun k hk hne => hg.block k hk (fun e => hne (Option.some.inj e))
  have hmf := (g6 mv (.inl (.inr rfl))).2
  have hmap : ∃ es c, w5.heap[mv]? = some (.map es c) := by
    obtain ⟨D, ⟨es, c, hh, _⟩, _⟩ := g5.1.2
    exact ⟨es, c, hh⟩
  obtain ⟨es, c, hmap⟩ := hmap
  refine ⟨w6, hrun, mb, E, g1.keep (fun k hk => hblk k (g1.lt hk) (fun e => hmf (e ▸ hk))), g2, g3, g4.grown hg g4.size (fun k hk => by have := Option.some.inj hk; omega), ⟨⟨own_move g5.1.1 (fun k hk => hblk k (own_lt g5.1.1 k hk) (fun e => ?_)), hvals⟩, ?_⟩, fun k hk => by rw [hz]; exact g6 k hk⟩
  · obtain ⟨cells, hc⟩ := own_typed g5.1.1 k hk
    rw [e, hmap] at hc
    cases hc
  · have hx : w5.heap[s9]? = _ := g5.2
    refine (hblk s9 (Array.getElem?_eq_some_iff.1 hx).1 (fun e => ?_)).trans hx
    rw [e, hmap] at hx
    cases hx
theorem C_front {w : World} {A : Option Addr} {n m : Nat} {ys : List ByteArray} {z : ByteArray} (h : Kd.C Kd.string w A n (ys ++ [z])) (hm : ys.length = m) : Kd.C Kd.string w A m ys := by
  obtain ⟨h1, h2, h3⟩ := h
  rw [List.length_append, List.length_singleton] at h1
  refine ⟨hm, by omega, fun hp => ?_⟩
  obtain ⟨ad, e, h4⟩ := h3 (by omega)
  exact ⟨ad, e, fun j p hj => h4 j p (by rw [List.getElem?_append_left (List.getElem?_eq_some_iff.1 hj).1]; exact hj)⟩
theorem row_C {w : World} {base m c : Nat} {A : Option Addr} {ks : List ByteArray} (h : w.ownsRow base 9 1 (.slice A m c) m (ks.map Value.string)) (hk : ks.length = m) : Kd.C Kd.string w A m ks := by
  have hR : Kd.R Kd.string 9 w base (fun _ => True) (.slice A m c) ks := Kd.R_of_own (enc := Value.string) (h1 := fun _ => rfl) (by rw [hk]; exact h) (fun _ _ => trivial)
  obtain ⟨A', c', e, hl, hC⟩ := Kd.R_reads hR
  injection e with e1 e2 e3
  subst e1
  rw [← e2] at hC
  exact hC
theorem not_without {s : ByteArray} {xs : List ByteArray} : s ∉ without s xs := fun hm => by
  have := (List.mem_filter.1 hm).2
  simp at this
theorem put_mem {s : ByteArray} {v : Int} {L : List KV} : ∀ p ∈ putL s v L, p = (s, v) ∨ (p ∈ L ∧ p.1 ≠ s) := by
  intro p hp
  unfold putL at hp
  rcases List.mem_cons.1 hp with rfl | hp
  · exact .inl rfl
  · have h := List.mem_filter.1 hp
    exact .inr ⟨h.1, by simpa using h.2⟩
section
variable {ops : Array Oper} {rest : List Oper} {o : Oper} {a : Go.Act} {Q : Exit → Go.Act → World → Prop}
theorem wp_upd (w : World) (hg : o.guard = none) (m x v : Operand) (hop : o.op = Op.mapUpdate VM m x v) {mv : Nat} {s : ByteArray} {k : Int} (hm : a.eval m = .map (some mv)) (hx : a.eval x = .string s) (hv : a.eval v = .int .i64 k) {w' : World}
    (hrun : (Instr.mapUpdate VM (.map (some mv)) (.string s) (.int .i64 k)).run Try.prog w = .ok () w') (hK : wpList Try.prog ops Q rest (a.put o.dst undef) w') : wpList Try.prog ops Q (o :: rest) a w := by
  refine wpList_plain hg fun K' hK' => ?_
  unfold Oper.wp
  simp [execOp, hop, hm, hx, hv, hrun, Result.andThen]
  exact hK' _ _ hK
end
theorem good_put {n i : Nat} {L : List KV} {s : ByteArray} (v : Int) (h : GoodL n i L) (hs : s.size ≤ 100) (hst : hasL s L = true ∨ L.length < n) : GoodL n (i + 1) (putL s v L) := by
  have e : (putL s v L).map Prod.fst = s :: without s (L.map Prod.fst) := by
    unfold putL
    rw [List.map_cons, keys_drop]
  have h0 := dropL_length s L
  have hl : (putL s v L).length = (dropL s L).length + 1 := by
    unfold putL
    rw [List.length_cons]
  refine ⟨?_, ?_, ?_, fun q hq => ?_⟩
  · rw [e, List.nodup_cons]
    exact ⟨not_without, List.Nodup.sublist List.filter_sublist h.nodup⟩
  · rcases hst with c | c
    · have := drop_has_length h.nodup c
      have := h.room
      omega
    · omega
  · have := h.few
    omega
  · rcases put_mem q hq with rfl | ⟨hq, _⟩
    · exact hs
    · exact h.short q hq
theorem rd_last {K : List KV} {z : KV} : rdOf ByteArray.empty ((K ++ [z]).map Prod.fst) (K.length : Int) = z.1 := by
  unfold rdOf
  rw [Int.toNat_natCast, List.map_append, List.getD_eq_getElem?_getD, List.getElem?_append_right (by rw [List.length_map]; exact Nat.le_refl _), List.length_map, Nat.sub_self]
  rfl
theorem row_cap {w : World} {base m c : Nat} {A : Option Addr} {ks : List ByteArray} (h : w.ownsRow base 9 1 (.slice A m c) m (ks.map Value.string)) (hk : ks.length = m) : m ≤ c := by
  have hR : Kd.R Kd.string 9 w base (fun _ => True) (.slice A m c) ks := Kd.R_of_own (enc := Value.string) (h1 := fun _ => rfl) (by rw [hk]; exact h) (fun _ _ => trivial)
  obtain ⟨A', c', e, hl, hC⟩ := Kd.R_reads hR
  injection e with e1 e2 e3
  omega
theorem goes_out {s : ByteArray} {K L : List KV} {z : KV} (e : L = K ++ [z]) (h : hasL s L = false) : s ∉ K.map Prod.fst := fun hm => by
  have : hasL s L = true := has_keys.2 (by rw [e, List.map_append]; exact List.mem_append_left _ hm)
  rw [h] at this
  cases this
theorem goes_mem {s : ByteArray} {v : Int} {K L : List KV} {z : KV} (e : L = K ++ [z]) (h : hasL s L = false) : ∀ p ∈ (s, v) :: K, p = (s, v) ∨ (p ∈ L ∧ p.1 ≠ s) := by
  intro p hp
  rcases List.mem_cons.1 hp with rfl | hp
  · exact .inl rfl
  · exact .inr ⟨by rw [e]; exact List.mem_append_left _ hp, fun q => goes_out e h (q ▸ List.mem_map_of_mem (f := Prod.fst) hp)⟩
theorem goes_good {n i : Nat} {s : ByteArray} (v : Int) {K L : List KV} {z : KV} (g : GoodL n i L) (hs : s.size ≤ 100) (e : L = K ++ [z]) (h : hasL s L = false) : GoodL n (i + 1) ((s, v) :: K) := by
  have hl : L.length = K.length + 1 := by rw [e, List.length_append, List.length_singleton]
  have hn := g.nodup
  rw [e, List.map_append] at hn
  refine ⟨?_, ?_, ?_, fun q hq => ?_⟩
  · rw [List.map_cons, List.nodup_cons]
    exact ⟨goes_out e h, List.Nodup.sublist (List.sublist_append_left _ _) hn⟩
  · have := g.room
    rw [List.length_cons]
    omega
  · have := g.few
    rw [List.length_cons]
    omega
  · rcases List.mem_cons.1 hq with rfl | hq
    · exact hs
    · exact g.short q (by rw [e]; exact List.mem_append_left _ hq)
theorem goes_keys {s : ByteArray} {v : Int} {K L : List KV} {z : KV} (e : L = K ++ [z]) (h : hasL s L = false) : ((s, v) :: K).map Prod.fst = s :: without s (K.map Prod.fst) := by rw [List.map_cons, without_none (goes_out e h)]
theorem put_keys {s : ByteArray} {v : Int} {L : List KV} : (putL s v L).map Prod.fst = s :: without s (L.map Prod.fst) := by
  unfold putL
  rw [List.map_cons, keys_drop]
theorem last_next {w w5 w9 : World} {b n mv i s9 : Nat} {v6 v8 : Value} {L L' : List KV} {a : Act} (h : OwnX (fun W => XO v6 mv i w.heap.size L L' W ∧ XA s9 a W) (fun k => GL v6 mv k ∨ k = s9) w w5 b (n : Int) L') (hb : Below w5.heap.size w5 w9)
    (hR : Kd.R Kd.string 9 w9 w5.heap.size (fun _ => True) v8 (L'.map Prod.fst)) : OwnX (XL v8 mv i w.heap.size L') (GL v8 mv) w w9 b (n : Int) L' := by
  obtain ⟨mb, E, g1, g2, g3, g4, g5, g6⟩ := h
  have ho := Kd.own_of_R (enc := Value.string) (h1 := fun _ => rfl) hR
  rw [List.length_map] at ho
  have hv := g5.1.2.kept (w' := w9) (hb.block mv (g6 mv (.inl (.inr rfl))).1)
  refine ⟨mb, E, g1.below hb, g2, g3, g4.trans (hb.mono g4.size), ⟨own_weaken ho g4.size, hv⟩, ?_⟩
  rintro k (hk | hk)
  · have h1 := own_base ho k hk
    have h2 := own_lt ho k hk
    exact ⟨h2, fun hf => by have := g1.lt hf; omega⟩
  · exact ⟨Nat.lt_of_lt_of_le (g6 k (.inl (.inr hk))).1 hb.size, (g6 k (.inl (.inr hk))).2⟩
theorem same_keys2 (L : List KV) (hl : L.length ≤ 1000) {A5 A6 : Option Addr} {c5 c6 : Nat} {w : World} (h5 : L.length ≤ c5) (h6 : L.length ≤ c6) (C5 : Kd.C Kd.string w A5 L.length (L.map Prod.fst)) (C6 : Kd.C Kd.string w A6 L.length (L.map Prod.fst)) :
    Calls Try.prog 13 #[.slice A5 L.length c5, .slice A6 L.length c6] w fun e w' => e = .returned (.bool true) ∧ Drawn0 w w' := by
  have e : (L.map Prod.fst).length = L.length := List.length_map _
  have := PLruScript.nameplatekit_Same_string.calls 2000 A5 c5 (L.map Prod.fst) A6 c6 (L.map Prod.fst) true w (by rw [e]; exact C5) (by rw [e]; exact h5) (by rw [e]; exact C6) (by rw [e]; exact h6) (same_self _ (by rw [e]; exact hl))
  rw [e] at this
  exact this
theorem xKeys {X : World → Prop} {G : Nat → Prop} {w0 w : World} {b : Nat} {most : Int} {L : List KV} (h : OwnX X G w0 w b most L) (hE : L.length ≤ 100000) :
    Calls Try.prog 12 #[.pointer (some ⟨b, 0, none⟩)] w fun e w' => ∃ A cp, e = .returned (.slice A L.length cp) ∧ L.length ≤ cp ∧ Kd.C Kd.string w' A L.length (L.map Prod.fst) ∧ Below w.heap.size w w' := by
  obtain ⟨mb, E, h1, h2, _⟩ := h
  have := lKeys h1 (by rw [← kv_length, h2]; exact hE)
  rw [h2] at this
  refine this.mono ?_
  rintro e w' ⟨v, rfl, hr, hb⟩
  obtain ⟨A, cp, rfl, hl, hC⟩ := Kd.R_reads hr
  rw [List.length_map] at hl hC
  exact ⟨A, cp, by rw [List.length_map], hl, hC, hb⟩
theorem get_length (s : ByteArray) {L : List KV} (h : (L.map Prod.fst).Nodup) : (getL s L).length ≤ L.length := by
  by_cases c : hasL s L = true
  · have h1 := keys_get c
    have h2 := congrArg List.length h1
    rw [List.length_map, List.length_cons, ← keys_drop, List.length_map] at h2
    have := drop_has_length h c
    omega
  · unfold getL
    cases hf : L.find? (fun p => decide (p.1 = s)) with
    | none => exact Nat.le_refl _
    | some p =>
      have h3 := List.find?_some (p := fun p : KV => decide (p.1 = s)) hf
      have h4 : p.1 = s := by simpa using h3
      exact absurd (has_keys.2 (h4 ▸ List.mem_map_of_mem (f := Prod.fst) (List.mem_of_find?_eq_some hf))) c
theorem last_start {w w2 : World} {b n : Nat} (h : OwnX (fun _ => True) (fun _ => False) w w2 b (n : Int) []) : OwnX (XL (.slice none 0 0) w2.heap.size 0 w.heap.size []) (GL (.slice none 0 0) w2.heap.size) w (w2.alloc (.map #[] 0)) b (n : Int) [] := by
  obtain ⟨mb, E, g1, g2, g3, g4, g5, g6⟩ := h
  have hb : Below w2.heap.size w2 (w2.alloc (.map #[] 0)) := (Below.refl _ _).alloc (Nat.le_refl _) _
  refine ⟨mb, E, g1.below hb, g2, g3, g4.trans (hb.mono g4.size), ⟨World.ownsRow_nil _ _ _ _, Vals.made w2⟩, ?_⟩
  rintro k (hk | hk)
  · simp [Value.ownBlock] at hk
  · subst hk
    exact ⟨by simp, fun hf => by have := g1.lt hf; omega⟩
/-- The act, in a cell of its own. -/
theorem last_enter {w wr : World} {b n mv i : Nat} {v6 : Value} {L : List KV} {a : Act} (h : OwnX (XL v6 mv i w.heap.size L) (GL v6 mv) w wr b (n : Int) L) :
    OwnX (fun W => XL v6 mv i w.heap.size L W ∧ XA wr.heap.size a W) (fun k => GL v6 mv k ∨ k = wr.heap.size) w (wr.alloc (.cells #[.int .i64 a.kind, .string a.key, .int .i64 a.v] 27)) b (n : Int) L := by
  obtain ⟨mb, E, g1, g2, g3, g4, g5, g6⟩ := h
  have hb : Below wr.heap.size wr (wr.alloc (.cells #[.int .i64 a.kind, .string a.key, .int .i64 a.v] 27)) := (Below.refl _ _).alloc (Nat.le_refl _) _
  refine ⟨mb, E, g1.below hb, g2, g3, g4.trans (hb.mono g4.size), ⟨stays_XL _ _ _ _ _ wr _ (fun k hk => hb.block k (g6 k hk).1) g5, Below_new wr _⟩, ?_⟩
  rintro k (hk | hk)
  · exact ⟨Nat.lt_of_lt_of_le (g6 k hk).1 hb.size, (g6 k hk).2⟩
  · subst hk
    exact ⟨by simp, fun hf => by have := g1.lt hf; omega⟩
theorem stays_last (v6 : Value) (mv i base s9 : Nat) (L : List KV) (a : Act) : Stays (fun W => XL v6 mv i base L W ∧ XA s9 a W) (fun k => GL v6 mv k ∨ k = s9) := stays_and (stays_XL v6 mv i base L) (stays_XA s9 a)
/-- Without the act's cell. -/
theorem last_leave {w wr : World} {b n mv i j s9 : Nat} {v6 : Value} {L : List KV} {a : Act} (h : OwnX (fun W => XL v6 mv i w.heap.size L W ∧ XA s9 a W) (fun k => GL v6 mv k ∨ k = s9) w wr b (n : Int) L) (hij : i ≤ j) : OwnX (XL v6 mv j w.heap.size L) (GL v6 mv) w wr b (n : Int) L := by
  refine h.held ⟨h.there.1.1, ?_⟩ (fun mb E _ _ h3 k hk => h3 k (.inl hk))
  obtain ⟨D, h1, h2⟩ := h.there.1.2
  exact ⟨D, h1.mono hij, h2⟩
set_option maxHeartbeats 8000000 in
set_option maxRecDepth 100000 in
theorem LruLast_in (n : Nat) (hn : 1 ≤ n) (hn2 : n ≤ 100) (A1 : Option Addr) (c1 : Nat) (l1 : List Act) (w : World) (hr : Kd.C kA w A1 l1.length l1) (hl : l1.length ≤ 200) (hwf : ∀ q ∈ l1, (Lit.int .i64 q.v).wf = true) :
    Calls Try.prog 4 #[.int .i64 (n : Int), .slice A1 l1.length c1] w fun e w' => e = .returned (.bool true) ∧ Below w.heap.size w w' := by
  have hlives := lives_calls w
  have d1 : ¬ (l1.length : Int) > 200 := by omega
  have d2 : ¬ (n : Int) < 1 := by omega
  have d3 : ¬ (n : Int) > 100 := by omega
  have HR := Aside0.mk hr
  have HL := Aside0.mk hl
  have H1 := Aside0.mk hn
  have H2 := Aside0.mk hn2
  have HW := Aside0.mk hwf
  clear hr hl hn hn2 hwf
  have hmm := @run_makeMap Try.prog
  go_enter Try.func4, Try.ntmps4
  go_wp2_with (first
    | (go_at_call 9; (with_reducible refine hlives.mono ?_); rintro e w1 ⟨rfl, hb1⟩; have HB1 := Aside0.mk hb1; clear hb1)
    | (go_at_call 10; (with_reducible refine (xNew (w0 := w) (X := fun _ => True) (G := fun _ => False) stays_true trivial (fun k hk => hk.elim) HB1.out (n : Int) (q := (n : Int)) (if_pos (by have := H1.out; omega))).mono ?_); rintro e w2 ⟨rfl, h2⟩; have H0 := Aside0.mk h2; clear h2))
  have hst := last_start H0.out
  have HST := Aside0.mk hst
  have HMV0 : Aside0 (w.heap.size ≤ w2.heap.size) := ⟨H0.out.low.size⟩
  have hg : GoodL n 0 [] := ⟨List.nodup_nil, by simp, by simp, fun q hq => by cases hq⟩
  have HG0 := Aside0.mk hg
  obtain ⟨mv, hmv⟩ : ∃ mv, w2.heap.size = mv := ⟨_, rfl⟩
  rw [hmv] at HST HMV0 ⊢
  clear hst hg hmv hmm hlives d1 d2 d3 H0
  go_loopg [6, 8] l1.length (fun kq v6 v8 w' => ∃ (i : Nat) (L : List KV), v8 = .int .i64 (i : Int) ∧ Aside0 (i + kq = l1.length) ∧ Aside0 (GoodL n i L) ∧ Aside0 (OwnX (XL v6 mv i w.heap.size L) (GL v6 mv) w w' w1.heap.size (n : Int) L))
  case atStart => exact ⟨0, [], rfl, ⟨by omega⟩, HG0, HST⟩
  case round =>
    clear HST HG0
    obtain ⟨i, L, rfl, HK, HG, HO⟩ := hrel
    obtain ⟨g0, rfl⟩ : ∃ g, g = gk := ⟨_, rfl⟩
    have hK := HK.out
    obtain ⟨A6, c6, rfl⟩ := HO.out.there.form
    by_cases hi : i < l1.length
    · obtain ⟨ad, e5, x0, x1, x2⟩ := at_A (Kd.C_below HR.out HO.out.low) (i : Int) (by omega) (by omega)
      subst e5
      rw [Int.toNat_natCast] at x0 x1 x2
      obtain ⟨a, ha⟩ : ∃ a, rd_A l1 (i : Int) = a := ⟨_, rfl⟩
      rw [ha] at x0 x1 x2
      have q1 : (i : Int) < (l1.length : Int) := by omega
      have HE := Aside0.mk (last_enter (a := a) HO.out)
      have HV : Aside0 ((Lit.int .i64 a.v).wf = true) := ⟨HW.out a (by rw [← ha]; unfold rd_A; rw [Int.toNat_natCast, List.getD_eq_getElem?_getD, List.getElem?_eq_getElem hi]; exact List.getElem_mem _)⟩
      clear ha
      by_cases hs : (a.key.size : Int) > 100
      · go_wp2
        go_ret
        exact ⟨rfl, HE.out.low⟩
      · have HS : Aside0 (a.key.size ≤ 100) := ⟨by omega⟩
        have hs2 : decide ((a.key.size : Int) > 100) = false := decide_eq_false hs
        clear hs
        obtain ⟨y, there, hlk⟩ : ∃ y t, lookL a.key L = (y, t) := ⟨_, _, rfl⟩
        have HLK := Aside0.mk (xLook (stays_last _ _ _ _ _ _ _) HE.out a.key (by have := HS.out; omega) hlk)
        have HLQ := Aside0.mk hlk
        clear hlk
        unfold vl at HLK
        have HD := Aside0.mk (fun m => HE.out.drewN (stays_last _ _ _ _ _ _ _) m)
        obtain ⟨r, hp, hr01⟩ := pick_two a.kind
        have HP := Aside0.mk hp
        clear hp
        rcases hr01 with rfl | rfl
        · by_cases hst : hasL a.key L = true ∨ L.length < n
          · have HPT := Aside0.mk (fun m => xPut (stays_last _ _ _ _ _ _ _) (HD.out m) (by omega) a.key (by have := HS.out; omega) a.v (by have h2 := HG.out.few; have h3 := HL.out; omega) (fun q hq => by have := HG.out.short q hq; omega) (put_stays H1.out a.key a.v HG.out.nodup HG.out.room hst))
            unfold vl at HPT
            have hfull : there = true ∨ (there = false ∧ ¬ (L.length : Int) = (n : Int)) := by
              have e := look_has a.key L
              rw [HLQ.out] at e
              rcases hst with h | h
              · rw [h] at e
                exact .inl e
              · cases there with
                | true => exact .inl rfl
                | false => exact .inr ⟨rfl, by omega⟩
            have HGL : Aside0 (GoodL n (i + 1) (putL a.key a.v L)) := ⟨good_put a.v HG.out HS.out hst⟩
            clear hst
            rcases hfull with rfl | ⟨rfl, hfull⟩
            all_goals
              go_wp2_with (first
                | (go_at_call 14; (with_reducible refine HLK.out.mono ?_); rintro e w3 ⟨rfl, _, n3, rfl⟩)
                | (go_at_call 15; (with_reducible refine (PLruScript.nameplatekit_Pick.calls a.kind 2 0 _ HP.out).mono ?_); rintro e w4 ⟨rfl, n4, rfl⟩)
                | (go_at_call 11; (with_reducible refine (HPT.out _).mono ?_); rintro e w5p ⟨rfl, h5⟩; obtain ⟨k50, k51, k52, k5s⟩ := h5.there.2.cells; obtain ⟨w5, hmu, h6⟩ := last_store h5 HMV0.out (by have := HS.out; unfold maxLen; omega) HV.out (by have h2 := HK.out; have h3 := HL.out; unfold maxLen; omega) put_mem; have H5 := Aside0.mk h6; have K5 := Aside0.mk h6.there.2.cells.2.1; have K5S := Aside0.mk h6.there.2.cells.2.2.2; clear h5 h6)
                | (at_mapUpdate; refine wp_upd _ rfl _ _ _ rfl rfl rfl rfl hmu ?_; clear hmu k50 k51 k52; have kk5 := K5.out))
              clear kk5
              have HC5 := Aside0.mk (row_C H5.out.there.1.1 (List.length_map _))
              have HKL : Aside0 ((L.map Prod.fst).length = L.length) := ⟨List.length_map _⟩
              have HKN : Aside0 ((putL a.key a.v L).map Prod.fst = a.key :: without a.key (L.map Prod.fst)) := ⟨put_keys⟩
              have HMS : Aside0 (L.length ≤ 1000) := ⟨by have h2 := HG.out.few; have h3 := HL.out; omega⟩
              obtain ⟨wq, hwq⟩ : ∃ wq, wr.heap.size = wq := ⟨_, rfl⟩
              rw [hwq] at K5 K5S H5 ⊢
              have hR0 : Kd.R Kd.string 9 (w5.alloc (.cells #[.string a.key] 9)) w5.heap.size (fun _ => True) (.slice (some ⟨w5.heap.size, 0, none⟩) 1 1) [a.key] := Kd.R_of_own (enc := Value.string) (h1 := fun _ => rfl) (own_lit w5 a.key) (fun _ _ => trivial)
              have HR0 := Aside0.mk hR0
              have HB0 := Aside0.mk ((Below.refl w5.heap.size w5).alloc (Nat.le_refl _) (.cells #[.string a.key] 9))
              clear hR0
              go_loopg [18, 19] L.length (fun kq v18 v19 w' => ∃ j : Nat, v19 = .int .i64 (j : Int) ∧ Aside0 (j + kq = L.length) ∧ Aside0 (Kd.R Kd.string 9 w' w5.heap.size (fun _ => True) v18 (a.key :: without a.key ((L.map Prod.fst).take j))) ∧ Aside0 (Below w5.heap.size w5 w'))
              case atStart => exact ⟨0, rfl, ⟨by omega⟩, HR0, HB0⟩
              case round =>
                clear HR0 HB0
                obtain ⟨j, rfl, HJ, HN, HB⟩ := hrel
                have hJ := HJ.out
                by_cases hj : j < L.length
                · obtain ⟨ad2, e5, z0⟩ := Kd.at_string (Kd.C_below HC5.out HB.out) (j : Int) (by omega) (by omega)
                  (first | subst e5 | obtain rfl := Option.some.inj e5)
                  rw [Int.toNat_natCast] at z0
                  have hsn := take_one (L.map Prod.fst) (j := j) (by rw [HKL.out]; exact hj)
                  obtain ⟨s, hs⟩ : ∃ s, rdOf ByteArray.empty (L.map Prod.fst) (j : Int) = s := ⟨_, rfl⟩
                  rw [hs] at z0 hsn
                  have z1 : wr.cell? ⟨wq, 1, none⟩ = some (.string a.key) := (HB.out.cell (p := ⟨wq, 1, none⟩) K5S.out).trans K5.out
                  have q3 : (j : Int) < (L.length : Int) := by omega
                  have HSN := Aside0.mk hsn
                  clear hsn hs
                  by_cases hsk : s = a.key
                  · subst hsk
                    go_wp2
                    go_region
                    go_wp2
                    go_roundg (gk - 1)
                    case measure => omega
                    case rel =>
                      have hj9 : (j : Int) ≤ 1000 := by have h1 := HMS.out; omega
                      refine ⟨j + 1, (by first | exact int_step2' hj9 | rfl | simp), ⟨by omega⟩, ⟨?_⟩, ⟨by repeat (first | apply pw_below_drewN | apply below_drew1 | exact HB.out)⟩⟩
                      rw [HSN.out, without_same]
                      (with_reducible repeat (first | apply Kd.R_drewN | apply Kd.R_drew))
                      exact HN.out
                  · have hb2 : (s.toList == a.key.toList) = false := by
                      rw [beq_eq_false_iff_ne]
                      intro e
                      rw [ByteArray.toList_eq, ByteArray.toList_eq] at e
                      apply hsk
                      cases s
                      cases hk : a.key
                      rw [hk] at e
                      congr 1
                      exact Array.toList_inj.1 e
                    have HSK := Aside0.mk hsk
                    have HNS : Aside0 ((a.key :: without a.key ((L.map Prod.fst).take j)).length ≤ 100000) := ⟨by have h1 := without_length a.key ((L.map Prod.fst).take j); have h2 := HMS.out; rw [List.length_take, HKL.out] at h1; rw [List.length_cons]; omega⟩
                    clear hsk
                    go_wp2
                    go_region
                    go_wp2_with (first | (at_builtin; change wpList _ _ _ _ _ (wr.drew.alloc (.cells #[.string s] 9)); refine Kd.R_append Kd.string w5.heap.size rfl (.tmp 159) (.tmp 164) 31 9 (.string ⟨#[]⟩) 16 rfl Try.underlying31 info_str rfl (by decide) (by omega) u18 (a.key :: without a.key ((L.map Prod.fst).take j)) s [.string s] (fun _ => True) (fun _ => False) rfl rfl ?aP (fun _ hk => hk.elim) ?aF ?aO (Below.refl _ _) ?aS ?aL ?_; (case aP => exact rfl); (case aF => exact (fun _ _ => trivial)); (case aO => exact (by (with_reducible repeat (first | apply Kd.R_alloc | apply Kd.R_drewN | apply Kd.R_drew)); exact HN.out)); (case aS => exact HB.out.size); (case aL => have := HNS.out; omega); intro v7 w6 ho hb hg hat; have HO6 := Aside0.mk ho; have HH6 := Aside0.mk hb; clear ho hg hb hat))
                    go_roundg (gk - 1)
                    case measure => omega
                    case rel =>
                      have hj9 : (j : Int) ≤ 1000 := by have h1 := HMS.out; omega
                      refine ⟨j + 1, (by first | exact int_step2' hj9 | rfl | simp), ⟨by omega⟩, ⟨?_⟩, ⟨HB.out.trans ?_⟩⟩
                      · rw [HSN.out, without_other HSK.out]
                        exact HO6.out
                      · have h7 : Below w5.heap.size wr.drew w6 := HH6.out
                        exact ((Below.refl _ wr).drew).trans h7
                · have hN := HN.out
                  rw [List.take_of_length_le (by rw [HKL.out]; omega), ← HKN.out] at hN
                  obtain ⟨A8, c8, e8, hl8, hC8⟩ := Kd.R_reads hN
                  rw [List.length_map] at e8 hl8 hC8
                  subst e8
                  have HN8 := Aside0.mk hN
                  have HL8 := Aside0.mk hl8
                  have HC8 := Aside0.mk hC8
                  have HKX := Aside0.mk (xKeys (H5.out.below (stays_XO _ _ _ _ _ _ _ _) HB.out) (by have h2 := HGL.out.few; have h3 := HL.out; omega))
                  clear hN hl8 hC8
                  go_wp2_with (first
                    | (go_at_call 12; (with_reducible refine HKX.out.mono ?_); rintro e w8 ⟨A9, c9, rfl, hl9, hC9, hb9⟩; have HL9 := Aside0.mk hl9; have HC9 := Aside0.mk hC9; have HB9 := Aside0.mk hb9; clear hl9 hC9 hb9)
                    | (go_at_call 13; (with_reducible refine (same_keys2 ((putL a.key a.v L)) (by have h2 := HGL.out.few; have h3 := HL.out; omega) HL9.out HL8.out HC9.out (Kd.C_below HC8.out HB9.out)).mono ?_); rintro e w9 ⟨rfl, n9, rfl⟩))
                  go_roundg (g0 - 1)
                  case measure => omega
                  case rel =>
                    have hi9 : (i : Int) ≤ 1000 := by have := HL.out; omega
                    refine ⟨i + 1, (putL a.key a.v L), (by first | exact int_step2' hi9 | rfl | simp), ⟨by omega⟩, HGL, ⟨?_⟩⟩
                    refine last_next H5.out (HB.out.trans ?_) (Kd.R_step HN8.out ?_)
                    · exact (pw_below_drewN HB9.out _).mono HB.out.size
                    · exact fun k _ hk => HB9.out.block k hk
          · obtain ⟨K, z, hLK, hput⟩ := put_goes H1.out a.key a.v (L := L) (by have := HG.out.room; omega) (by simpa using fun e => hst (.inl e))
            obtain ⟨Lq, hLq⟩ : ∃ q, (a.key, a.v) :: K = q := ⟨_, rfl⟩
            rw [hLq] at hput
            have HLQQ := Aside0.mk hLq
            have HPT := Aside0.mk (fun m => xPut (stays_last _ _ _ _ _ _ _) (HD.out m) (by omega) a.key (by have := HS.out; omega) a.v (by have h2 := HG.out.few; have h3 := HL.out; omega) (fun q hq => by have := HG.out.short q hq; omega) hput)
            unfold vl at HPT
            obtain rfl : there = false := by
              have e := look_has a.key L
              rw [HLQ.out] at e
              cases there with
              | true => exact absurd (.inl e.symm) hst
              | false => rfl
            have hl : L.length = n := by have := HG.out.room; omega
            have hl2 : L.length = K.length + 1 := by rw [hLK, List.length_append, List.length_singleton]
            have hfull : (K.length : Int) + 1 = (n : Int) := by omega
            have HLK1 := Aside0.mk hLK
            have HNO : Aside0 (hasL a.key L = false) := ⟨by simpa using fun e => hst (.inl e)⟩
            have HL2 := Aside0.mk hl2
            have HK1 : Aside0 (K.length = n - 1) := ⟨by omega⟩
            obtain ⟨ad2, rfl, _⟩ := Kd.at_string (row_C HO.out.there.1 (List.length_map _)) (0 : Int) (by omega) (by omega)
            have hcap : ¬ (c6 : Int) < (n : Int) - 1 := by have := row_cap HO.out.there.1 (List.length_map _); omega
            rw [hl2]
            clear hst hLK hput hl hl2 hLq
            go_wp2_with (first
              | (go_at_call 14; (with_reducible refine HLK.out.mono ?_); rintro e w3 ⟨rfl, _, n3, rfl⟩)
              | (go_at_call 15; (with_reducible refine (PLruScript.nameplatekit_Pick.calls a.kind 2 0 _ HP.out).mono ?_); rintro e w4 ⟨rfl, n4, rfl⟩)
              | (go_at_call 11; (with_reducible refine (HPT.out _).mono ?_); rintro e w5p ⟨rfl, h5⟩; obtain ⟨k50, k51, k52, k5s⟩ := h5.there.2.cells; obtain ⟨_, e9, z0⟩ := Kd.at_string (row_C h5.there.1.1 (List.length_map _)) (K.length : Int) (by omega) (by have := HL2.out; omega); obtain rfl := Option.some.inj e9; rw [Int.toNat_natCast, HLK1.out, rd_last, HK1.out] at z0; obtain ⟨w5, hmu, h6⟩ := last_store h5 HMV0.out (by have := HS.out; unfold maxLen; omega) HV.out (by have h2 := HK.out; have h3 := HL.out; unfold maxLen; omega) (by rw [← HLQQ.out]; exact goes_mem HLK1.out HNO.out); have H5 := Aside0.mk h6; have K5 := Aside0.mk h6.there.2.cells.2.1; have K5S := Aside0.mk h6.there.2.cells.2.2.2; clear h5 h6 e9)
              | (at_mapUpdate; refine wp_upd _ rfl _ _ _ rfl rfl rfl rfl hmu ?_; clear hmu k50 k51 k52 z0; have kk5 := K5.out))
            clear kk5
            have HC5 : Aside0 (Kd.C Kd.string w5 (some ad2) (n - 1) (K.map Prod.fst)) := ⟨by
              have h := row_C H5.out.there.1.1 (List.length_map _)
              rw [show L.map Prod.fst = K.map Prod.fst ++ [z.1] from by rw [HLK1.out]; simp] at h
              exact C_front h ((List.length_map _).trans HK1.out)⟩
            have HKL : Aside0 ((K.map Prod.fst).length = n - 1) := ⟨(List.length_map _).trans HK1.out⟩
            have HGL : Aside0 (GoodL n (i + 1) Lq) := ⟨by rw [← HLQQ.out]; exact goes_good a.v HG.out HS.out HLK1.out HNO.out⟩
            have HKN : Aside0 (Lq.map Prod.fst = a.key :: without a.key (K.map Prod.fst)) := ⟨by rw [← HLQQ.out]; exact goes_keys HLK1.out HNO.out⟩
            have HMS : Aside0 (n - 1 ≤ 1000) := ⟨by have h2 := H2.out; omega⟩
            obtain ⟨wq, hwq⟩ : ∃ wq, wr.heap.size = wq := ⟨_, rfl⟩
            rw [hwq] at K5 K5S H5 ⊢
            have hR0 : Kd.R Kd.string 9 (w5.alloc (.cells #[.string a.key] 9)) w5.heap.size (fun _ => True) (.slice (some ⟨w5.heap.size, 0, none⟩) 1 1) [a.key] := Kd.R_of_own (enc := Value.string) (h1 := fun _ => rfl) (own_lit w5 a.key) (fun _ _ => trivial)
            have HR0 := Aside0.mk hR0
            have HB0 := Aside0.mk ((Below.refl w5.heap.size w5).alloc (Nat.le_refl _) (.cells #[.string a.key] 9))
            clear hR0
            go_loopg [18, 19] (n - 1) (fun kq v18 v19 w' => ∃ j : Nat, v19 = .int .i64 (j : Int) ∧ Aside0 (j + kq = (n - 1)) ∧ Aside0 (Kd.R Kd.string 9 w' w5.heap.size (fun _ => True) v18 (a.key :: without a.key ((K.map Prod.fst).take j))) ∧ Aside0 (Below w5.heap.size w5 w'))
            case atStart => exact ⟨0, rfl, ⟨by omega⟩, HR0, HB0⟩
            case round =>
              clear HR0 HB0
              obtain ⟨j, rfl, HJ, HN, HB⟩ := hrel
              have hJ := HJ.out
              by_cases hj : j < (n - 1)
              · obtain ⟨ad2, e5, z0⟩ := Kd.at_string (Kd.C_below HC5.out HB.out) (j : Int) (by omega) (by omega)
                (first | subst e5 | obtain rfl := Option.some.inj e5)
                rw [Int.toNat_natCast] at z0
                have hsn := take_one (K.map Prod.fst) (j := j) (by rw [HKL.out]; exact hj)
                obtain ⟨s, hs⟩ : ∃ s, rdOf ByteArray.empty (K.map Prod.fst) (j : Int) = s := ⟨_, rfl⟩
                rw [hs] at z0 hsn
                have z1 : wr.cell? ⟨wq, 1, none⟩ = some (.string a.key) := (HB.out.cell (p := ⟨wq, 1, none⟩) K5S.out).trans K5.out
                have q3 : (j : Int) < ((n - 1) : Int) := by omega
                have HSN := Aside0.mk hsn
                clear hsn hs
                by_cases hsk : s = a.key
                · subst hsk
                  go_wp2
                  go_region
                  go_wp2
                  go_roundg (gk - 1)
                  case measure => omega
                  case rel =>
                    have hj9 : (j : Int) ≤ 1000 := by have h1 := HMS.out; omega
                    refine ⟨j + 1, (by first | exact int_step2' hj9 | rfl | simp), ⟨by omega⟩, ⟨?_⟩, ⟨by repeat (first | apply pw_below_drewN | apply below_drew1 | exact HB.out)⟩⟩
                    rw [HSN.out, without_same]
                    (with_reducible repeat (first | apply Kd.R_drewN | apply Kd.R_drew))
                    exact HN.out
                · have hb2 : (s.toList == a.key.toList) = false := by
                    rw [beq_eq_false_iff_ne]
                    intro e
                    rw [ByteArray.toList_eq, ByteArray.toList_eq] at e
                    apply hsk
                    cases s
                    cases hk : a.key
                    rw [hk] at e
                    congr 1
                    exact Array.toList_inj.1 e
                  have HSK := Aside0.mk hsk
                  have HNS : Aside0 ((a.key :: without a.key ((K.map Prod.fst).take j)).length ≤ 100000) := ⟨by have h1 := without_length a.key ((K.map Prod.fst).take j); have h2 := HMS.out; rw [List.length_take, HKL.out] at h1; rw [List.length_cons]; omega⟩
                  clear hsk
                  go_wp2
                  go_region
                  go_wp2_with (first | (at_builtin; change wpList _ _ _ _ _ (wr.drew.alloc (.cells #[.string s] 9)); refine Kd.R_append Kd.string w5.heap.size rfl (.tmp 159) (.tmp 164) 31 9 (.string ⟨#[]⟩) 16 rfl Try.underlying31 info_str rfl (by decide) (by omega) u18 (a.key :: without a.key ((K.map Prod.fst).take j)) s [.string s] (fun _ => True) (fun _ => False) rfl rfl ?aP (fun _ hk => hk.elim) ?aF ?aO (Below.refl _ _) ?aS ?aL ?_; (case aP => exact rfl); (case aF => exact (fun _ _ => trivial)); (case aO => exact (by (with_reducible repeat (first | apply Kd.R_alloc | apply Kd.R_drewN | apply Kd.R_drew)); exact HN.out)); (case aS => exact HB.out.size); (case aL => have := HNS.out; omega); intro v7 w6 ho hb hg hat; have HO6 := Aside0.mk ho; have HH6 := Aside0.mk hb; clear ho hg hb hat))
                  go_roundg (gk - 1)
                  case measure => omega
                  case rel =>
                    have hj9 : (j : Int) ≤ 1000 := by have h1 := HMS.out; omega
                    refine ⟨j + 1, (by first | exact int_step2' hj9 | rfl | simp), ⟨by omega⟩, ⟨?_⟩, ⟨HB.out.trans ?_⟩⟩
                    · rw [HSN.out, without_other HSK.out]
                      exact HO6.out
                    · have h7 : Below w5.heap.size wr.drew w6 := HH6.out
                      exact ((Below.refl _ wr).drew).trans h7
              · have hN := HN.out
                rw [List.take_of_length_le (by rw [HKL.out]; omega), ← HKN.out] at hN
                obtain ⟨A8, c8, e8, hl8, hC8⟩ := Kd.R_reads hN
                rw [List.length_map] at e8 hl8 hC8
                subst e8
                have HN8 := Aside0.mk hN
                have HL8 := Aside0.mk hl8
                have HC8 := Aside0.mk hC8
                have HKX := Aside0.mk (xKeys (H5.out.below (stays_XO _ _ _ _ _ _ _ _) HB.out) (by have h2 := HGL.out.few; have h3 := HL.out; omega))
                clear hN hl8 hC8
                go_wp2_with (first
                  | (go_at_call 12; (with_reducible refine HKX.out.mono ?_); rintro e w8 ⟨A9, c9, rfl, hl9, hC9, hb9⟩; have HL9 := Aside0.mk hl9; have HC9 := Aside0.mk hC9; have HB9 := Aside0.mk hb9; clear hl9 hC9 hb9)
                  | (go_at_call 13; (with_reducible refine (same_keys2 (Lq) (by have h2 := HGL.out.few; have h3 := HL.out; omega) HL9.out HL8.out HC9.out (Kd.C_below HC8.out HB9.out)).mono ?_); rintro e w9 ⟨rfl, n9, rfl⟩))
                go_roundg (g0 - 1)
                case measure => omega
                case rel =>
                  have hi9 : (i : Int) ≤ 1000 := by have := HL.out; omega
                  refine ⟨i + 1, Lq, (by first | exact int_step2' hi9 | rfl | simp), ⟨by omega⟩, HGL, ⟨?_⟩⟩
                  refine last_next H5.out (HB.out.trans ?_) (Kd.R_step HN8.out ?_)
                  · exact (pw_below_drewN HB9.out _).mono HB.out.size
                  · exact fun k _ hk => HB9.out.block k hk
        · cases there with
          | false =>
            go_wp2_with (first
              | (go_at_call 14; (with_reducible refine HLK.out.mono ?_); rintro e w3 ⟨rfl, _, n3, rfl⟩)
              | (go_at_call 15; (with_reducible refine (PLruScript.nameplatekit_Pick.calls a.kind 2 1 _ HP.out).mono ?_); rintro e w4 ⟨rfl, n4, rfl⟩))
            go_roundg (g0 - 1)
            case measure => omega
            case rel =>
              have hi9 : (i : Int) ≤ 1000 := by have := HL.out; omega
              exact ⟨i + 1, L, (by first | exact int_step2' hi9 | rfl | simp), ⟨by omega⟩, ⟨HG.out.nodup, HG.out.room, Nat.le_succ_of_le HG.out.few, HG.out.short⟩, ⟨last_leave (HD.out _) (Nat.le_succ _)⟩⟩
          | true =>
            have HGT := Aside0.mk (fun m => xGet (stays_last _ _ _ _ _ _ _) (HD.out m) a.key (by have := HS.out; omega) HLQ.out)
            have HMEM := Aside0.mk (look_mem HLQ.out)
            unfold vl at HGT
            go_wp2_with (first
              | (go_at_call 14; (with_reducible refine HLK.out.mono ?_); rintro e w3 ⟨rfl, _, n3, rfl⟩)
              | (go_at_call 15; (with_reducible refine (PLruScript.nameplatekit_Pick.calls a.kind 2 1 _ HP.out).mono ?_); rintro e w4 ⟨rfl, n4, rfl⟩)
              | (go_at_call 16; (with_reducible refine (HGT.out _).mono ?_); rintro e w5 ⟨rfl, h5⟩; have H5 := Aside0.mk (last_got h5 (get_sub (s := a.key) (L := L))); obtain ⟨k50, k51, k52, k5s⟩ := h5.there.2.cells; have hval : (Instr.lookup 37 (.map (some mv)) (.string a.key) false).run Try.prog w5 = .ok (.int .i64 y) w5 := h5.there.1.2.look a.key (by have := HS.out; unfold maxLen; omega) HMEM.out; have K5 := Aside0.mk k51; have K5S := Aside0.mk k5s; clear h5 k5s))
            clear hval k50 k51 k52
            have HC5 := Aside0.mk (row_C H5.out.there.1.1 (List.length_map _))
            have HKL : Aside0 ((L.map Prod.fst).length = L.length) := ⟨List.length_map _⟩
            have HGL : Aside0 (GoodL n (i + 1) (getL a.key L)) := ⟨by
              have h1 := get_length a.key HG.out.nodup
              refine ⟨?_, Nat.le_trans h1 HG.out.room, Nat.le_succ_of_le (Nat.le_trans h1 HG.out.few), fun q hq => HG.out.short q (get_sub q hq)⟩
              rw [keys_get (has_keys.2 (List.mem_map_of_mem (f := Prod.fst) HMEM.out)), List.nodup_cons]
              exact ⟨not_without, List.Nodup.sublist List.filter_sublist HG.out.nodup⟩⟩
            have HKN : Aside0 ((getL a.key L).map Prod.fst = a.key :: without a.key (L.map Prod.fst)) := ⟨keys_get (has_keys.2 (List.mem_map_of_mem (f := Prod.fst) HMEM.out))⟩
            have HMS : Aside0 (L.length ≤ 1000) := ⟨by have h2 := HG.out.few; have h3 := HL.out; omega⟩
            obtain ⟨wq, hwq⟩ : ∃ wq, wr.heap.size = wq := ⟨_, rfl⟩
            rw [hwq] at K5 K5S H5 ⊢
            have hR0 : Kd.R Kd.string 9 (w5.alloc (.cells #[.string a.key] 9)) w5.heap.size (fun _ => True) (.slice (some ⟨w5.heap.size, 0, none⟩) 1 1) [a.key] := Kd.R_of_own (enc := Value.string) (h1 := fun _ => rfl) (own_lit w5 a.key) (fun _ _ => trivial)
            have HR0 := Aside0.mk hR0
            have HB0 := Aside0.mk ((Below.refl w5.heap.size w5).alloc (Nat.le_refl _) (.cells #[.string a.key] 9))
            clear hR0
            go_loopg [18, 19] L.length (fun kq v18 v19 w' => ∃ j : Nat, v19 = .int .i64 (j : Int) ∧ Aside0 (j + kq = L.length) ∧ Aside0 (Kd.R Kd.string 9 w' w5.heap.size (fun _ => True) v18 (a.key :: without a.key ((L.map Prod.fst).take j))) ∧ Aside0 (Below w5.heap.size w5 w'))
            case atStart => exact ⟨0, rfl, ⟨by omega⟩, HR0, HB0⟩
            case round =>
              clear HR0 HB0
              obtain ⟨j, rfl, HJ, HN, HB⟩ := hrel
              have hJ := HJ.out
              by_cases hj : j < L.length
              · obtain ⟨ad2, e5, z0⟩ := Kd.at_string (Kd.C_below HC5.out HB.out) (j : Int) (by omega) (by omega)
                (first | subst e5 | obtain rfl := Option.some.inj e5)
                rw [Int.toNat_natCast] at z0
                have hsn := take_one (L.map Prod.fst) (j := j) (by rw [HKL.out]; exact hj)
                obtain ⟨s, hs⟩ : ∃ s, rdOf ByteArray.empty (L.map Prod.fst) (j : Int) = s := ⟨_, rfl⟩
                rw [hs] at z0 hsn
                have z1 : wr.cell? ⟨wq, 1, none⟩ = some (.string a.key) := (HB.out.cell (p := ⟨wq, 1, none⟩) K5S.out).trans K5.out
                have q3 : (j : Int) < (L.length : Int) := by omega
                have HSN := Aside0.mk hsn
                clear hsn hs
                by_cases hsk : s = a.key
                · subst hsk
                  go_wp2
                  go_region
                  go_wp2
                  go_roundg (gk - 1)
                  case measure => omega
                  case rel =>
                    have hj9 : (j : Int) ≤ 1000 := by have h1 := HMS.out; omega
                    refine ⟨j + 1, (by first | exact int_step2' hj9 | rfl | simp), ⟨by omega⟩, ⟨?_⟩, ⟨by repeat (first | apply pw_below_drewN | apply below_drew1 | exact HB.out)⟩⟩
                    rw [HSN.out, without_same]
                    (with_reducible repeat (first | apply Kd.R_drewN | apply Kd.R_drew))
                    exact HN.out
                · have hb2 : (s.toList == a.key.toList) = false := by
                    rw [beq_eq_false_iff_ne]
                    intro e
                    rw [ByteArray.toList_eq, ByteArray.toList_eq] at e
                    apply hsk
                    cases s
                    cases hk : a.key
                    rw [hk] at e
                    congr 1
                    exact Array.toList_inj.1 e
                  have HSK := Aside0.mk hsk
                  have HNS : Aside0 ((a.key :: without a.key ((L.map Prod.fst).take j)).length ≤ 100000) := ⟨by have h1 := without_length a.key ((L.map Prod.fst).take j); have h2 := HMS.out; rw [List.length_take, HKL.out] at h1; rw [List.length_cons]; omega⟩
                  clear hsk
                  go_wp2
                  go_region
                  go_wp2_with (first | (at_builtin; change wpList _ _ _ _ _ (wr.drew.alloc (.cells #[.string s] 9)); refine Kd.R_append Kd.string w5.heap.size rfl (.tmp 159) (.tmp 164) 31 9 (.string ⟨#[]⟩) 16 rfl Try.underlying31 info_str rfl (by decide) (by omega) u18 (a.key :: without a.key ((L.map Prod.fst).take j)) s [.string s] (fun _ => True) (fun _ => False) rfl rfl ?aP (fun _ hk => hk.elim) ?aF ?aO (Below.refl _ _) ?aS ?aL ?_; (case aP => exact rfl); (case aF => exact (fun _ _ => trivial)); (case aO => exact (by (with_reducible repeat (first | apply Kd.R_alloc | apply Kd.R_drewN | apply Kd.R_drew)); exact HN.out)); (case aS => exact HB.out.size); (case aL => have := HNS.out; omega); intro v7 w6 ho hb hg hat; have HO6 := Aside0.mk ho; have HH6 := Aside0.mk hb; clear ho hg hb hat))
                  go_roundg (gk - 1)
                  case measure => omega
                  case rel =>
                    have hj9 : (j : Int) ≤ 1000 := by have h1 := HMS.out; omega
                    refine ⟨j + 1, (by first | exact int_step2' hj9 | rfl | simp), ⟨by omega⟩, ⟨?_⟩, ⟨HB.out.trans ?_⟩⟩
                    · rw [HSN.out, without_other HSK.out]
                      exact HO6.out
                    · have h7 : Below w5.heap.size wr.drew w6 := HH6.out
                      exact ((Below.refl _ wr).drew).trans h7
              · have hN := HN.out
                rw [List.take_of_length_le (by rw [HKL.out]; omega), ← HKN.out] at hN
                obtain ⟨A8, c8, e8, hl8, hC8⟩ := Kd.R_reads hN
                rw [List.length_map] at e8 hl8 hC8
                subst e8
                have HN8 := Aside0.mk hN
                have HL8 := Aside0.mk hl8
                have HC8 := Aside0.mk hC8
                have HKX := Aside0.mk (xKeys (H5.out.below (stays_XO _ _ _ _ _ _ _ _) HB.out) (by have h2 := HGL.out.few; have h3 := HL.out; omega))
                clear hN hl8 hC8
                go_wp2_with (first
                  | (go_at_call 12; (with_reducible refine HKX.out.mono ?_); rintro e w8 ⟨A9, c9, rfl, hl9, hC9, hb9⟩; have HL9 := Aside0.mk hl9; have HC9 := Aside0.mk hC9; have HB9 := Aside0.mk hb9; clear hl9 hC9 hb9)
                  | (go_at_call 13; (with_reducible refine (same_keys2 ((getL a.key L)) (by have h2 := HGL.out.few; have h3 := HL.out; omega) HL9.out HL8.out HC9.out (Kd.C_below HC8.out HB9.out)).mono ?_); rintro e w9 ⟨rfl, n9, rfl⟩))
                go_roundg (g0 - 1)
                case measure => omega
                case rel =>
                  have hi9 : (i : Int) ≤ 1000 := by have := HL.out; omega
                  refine ⟨i + 1, (getL a.key L), (by first | exact int_step2' hi9 | rfl | simp), ⟨by omega⟩, HGL, ⟨?_⟩⟩
                  refine last_next H5.out (HB.out.trans ?_) (Kd.R_step HN8.out ?_)
                  · exact (pw_below_drewN HB9.out _).mono HB.out.size
                  · exact fun k _ hk => HB9.out.block k hk
    · -- END
      have hlow := HO.out.low
      have hroom := HG.out.room
      have HLN0 := Aside0.mk (xLen (stays_XL _ _ _ _ _) HO.out)
      have HLN := Aside0.mk (fun m => xLen (stays_XL _ _ _ _ _) (HO.out.drewN (stays_XL _ _ _ _ _) m))
      go_wp2_with (first
        | (go_at_call 17; (with_reducible refine HLN0.out.mono ?_); rintro e w3 ⟨rfl, _, n3, rfl⟩)
        | (go_at_call 17; (with_reducible refine (HLN.out _).mono ?_); rintro e w4 ⟨rfl, _, n4, rfl⟩))
      go_ret
      exact ⟨rfl, pw_below_drewN hlow _⟩
theorem LruLast_calls (a0 : Int) (A1 : Option Addr) (c1 : Nat) (l1 : List Act) (w : World) (_hc : l1.length ≤ c1) (hr : Kd.C kA w A1 l1.length l1 ∧ ∀ q ∈ l1, (Lit.int .i64 q.v).wf = true) :
    Calls Try.prog 4 #[.int .i64 a0, .slice A1 l1.length c1] w fun e w' => e = .returned (.bool true) ∧ Below w.heap.size w w' := by
  by_cases hout : (l1.length : Int) > 200 ∨ a0 < 1 ∨ a0 > 100
  · exact LruLast_out a0 A1 c1 l1 w hout
  · obtain ⟨n, rfl⟩ : ∃ n : Nat, (n : Int) = a0 := ⟨a0.toNat, by omega⟩
    exact LruLast_in n (by omega) (by omega) A1 c1 l1 w hr.1 (by omega) hr.2
end Go.Proofs.Ytfmaoaigljjhgaa.Lru
