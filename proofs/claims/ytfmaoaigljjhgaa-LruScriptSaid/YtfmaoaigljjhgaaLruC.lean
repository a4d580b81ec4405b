/- What an lru list's All goes through while the list itself turns: the nodes' row is none of the list's blocks. -/
import Derived.Test.YtfmaoaigljjhgaaLruX
namespace Go.Proofs.Ytfmaoaigljjhgaa.Lru
open Go Go.RowKit Go.Maps Go.Proofs.YtfmaoaigljjhgaaW.PrintWords

theorem nd_rg {k b : Nat} (h : nd k = rg b) : False := by
  have := congrArg Addr.off h
  simp [nd, rg] at this
theorem nd_inj {k l : Nat} (h : nd k = nd l) : k = l := congrArg Addr.block h
theorem ring_same {w : World} {b : Nat} : ∀ (E E' : List Ent) (p : Addr), Links w (p :: (E.map (fun e => nd e.blk) ++ [rg b])) → Links w (p :: (E'.map (fun e => nd e.blk) ++ [rg b])) → E.map (·.blk) = E'.map (·.blk)
  | [], [], _, _, _ => rfl
  | [], e :: E', p, h, h' => by
    have h1 : w.cell? (fa p 2) = some (.pointer (some (rg b))) := h.1.1
    have h2 : w.cell? (fa p 2) = some (.pointer (some (nd e.blk))) := h'.1.1
    rw [h1] at h2
    injection h2 with h2
    injection h2 with h2
    injection h2 with h2
    exact (nd_rg h2.symm).elim
  | e :: E, [], p, h, h' => by
    have h1 : w.cell? (fa p 2) = some (.pointer (some (nd e.blk))) := h.1.1
    have h2 : w.cell? (fa p 2) = some (.pointer (some (rg b))) := h'.1.1
    rw [h1] at h2
    injection h2 with h2
    injection h2 with h2
    injection h2 with h2
    exact (nd_rg h2).elim
  | e :: E, e' :: E', p, h, h' => by
    have h1 : w.cell? (fa p 2) = some (.pointer (some (nd e.blk))) := h.1.1
    have h2 : w.cell? (fa p 2) = some (.pointer (some (nd e'.blk))) := h'.1.1
    rw [h1] at h2
    injection h2 with h2
    injection h2 with h2
    injection h2 with h2
    have ih := ring_same (w := w) (b := b) E E' (nd e.blk) h.2 (by rw [h2]; exact h'.2)
    rw [List.map_cons, List.map_cons, ih, nd_inj h2]
/-- The blocks of a list are told by the world. -/
theorem foot_same {w : World} {b mb mb' : Nat} {most most' : Int} {E E' : List Ent} (h : Lru w b mb most E) (h' : Lru w b mb' most' E') : mb = mb' ∧ ∀ k, foot b mb E k ↔ foot b mb' E' k := by
  have hb := ring_same E E' (rg b) h.links h'.links
  obtain ⟨_, _, _, _, g⟩ := h.head
  obtain ⟨_, _, _, _, g'⟩ := h'.head
  have hm : mb = mb' := by
    rw [g] at g'
    simp at g'
    exact g'.2.1
  refine ⟨hm, fun k => ?_⟩
  have hk : (∃ e ∈ E, e.blk = k) ↔ ∃ e ∈ E', e.blk = k := by
    have e1 : (∃ e ∈ E, e.blk = k) ↔ k ∈ E.map (·.blk) := List.mem_map.symm
    have e2 : (∃ e ∈ E', e.blk = k) ↔ k ∈ E'.map (·.blk) := List.mem_map.symm
    rw [e1, e2, hb]
  unfold foot
  rw [hm, hk]
/-- The list may turn; rows from a block on that are none of its blocks stay what they are. -/
def KpL (b : Nat) (most : Int) (B : Nat) (A C : World) : Prop :=
  A.heap.size ≤ C.heap.size ∧ ∀ mb E, mb < B → Lru A b mb most E → ∃ E', Lru C b mb most E' ∧ More A b mb E mb E' ∧ ∀ (k : Nat) (cs : Array Value) (T : TypeId) (fz : Nat × Nat), B ≤ k → A.heap[k]? = some (.cells cs T fz) → ¬ foot b mb E k → C.heap[k]? = some (.cells cs T fz)
theorem lt_of_cells {w : World} {k : Nat} {o : Obj} (h : w.heap[k]? = some o) : k < w.heap.size := (Array.getElem?_eq_some_iff.1 h).1
theorem KpL.trans {b B : Nat} {most : Int} {a c d : World} (h : KpL b most B a c) (k : KpL b most B c d) : KpL b most B a d := by
  refine ⟨Nat.le_trans h.1 k.1, fun mb E hmb hL => ?_⟩
  obtain ⟨E1, h1, h2, h3⟩ := h.2 mb E hmb hL
  obtain ⟨E2, k1, k2, k3⟩ := k.2 mb E1 hmb h1
  refine ⟨E2, k1, fun j hj => ?_, fun j cs T fz hB hj hf => k3 j cs T fz hB (h3 j cs T fz hB hj hf) fun hf1 => ?_⟩
  · rcases k2 j hj with hj | hj
    · exact h2 j hj
    · exact .inr (Nat.le_trans h.1 hj)
  · rcases h2 j hf1 with hj1 | hj1
    · exact hf hj1
    · have := lt_of_cells hj
      omega
theorem Lru.solid {w : World} {b mb : Nat} {most : Int} {E : List Ent} (h : Lru w b mb most E) {k : Nat} (hk : foot b mb E k) (hne : k ≠ mb) : ∃ cs T fz, w.heap[k]? = some (.cells cs T fz) := by
  rcases hk with rfl | rfl | ⟨e, he, rfl⟩
  · obtain ⟨_, _, _, _, hh⟩ := h.head
    exact ⟨_, _, _, hh⟩
  · exact absurd rfl hne
  · obtain ⟨_, _, hh⟩ := h.nodes e he
    exact ⟨_, _, _, hh⟩
theorem KpL.put {b B : Nat} {most : Int} (W : World) (l : Nat) (o o' : Obj) (hB : B ≤ l) (h : W.heap[l]? = some o) (hc : o.isCells = false) : KpL b most B W (W.putObj l o') := by
  refine ⟨by simp, fun mb E hmb hL => ⟨E, hL.keep fun k hk => World.putObj_heap_other fun e => ?_, fun k hk => .inl hk, fun k cs T fz _ hk _ => ?_⟩⟩
  · subst e
    obtain ⟨cs, T, fz, hh⟩ := hL.solid hk (by omega)
    rw [h] at hh
    injection hh with hh
    subst hh
    cases hc
  · rw [World.putObj_heap_other (fun e => ?_)]
    · exact hk
    · subst e
      rw [h] at hk
      injection hk with hk
      subst hk
      cases hc
theorem KpL.of_turn {b B mb : Nat} {most : Int} {A C : World} {E E' : List Ent} {F : Nat → Prop} (h : Lru A b mb most E) (h' : Lru C b mb most E') (ht : Turn F A C) (hm : More A b mb E mb E') (hF : ∀ k, F k → foot b mb E k ∨ k < B) : KpL b most B A C := by
  refine ⟨ht.size, fun mb2 E2 hmb hL => ?_⟩
  obtain ⟨rfl, hff⟩ := foot_same h hL
  refine ⟨E', h', fun k hk => (hm k hk).elim (fun h => .inl ((hff k).1 h)) .inr, fun k cs T fz hB hk hnf => ?_⟩
  rw [ht.block k (lt_of_cells hk) (fun hf => ?_)]
  · exact hk
  · rcases hF k hf with h1 | h1
    · exact hnf ((hff k).1 h1)
    · omega
theorem KpL.of_below {b B : Nat} {most : Int} {A C : World} (h : Below A.heap.size A C) : KpL b most B A C :=
  ⟨h.size, fun _ E _ hL => ⟨E, hL.below h, fun _ hk => .inl hk, fun k _ _ _ _ hk _ => (h.block k (lt_of_cells hk)).trans hk⟩⟩
theorem R_listed {w w' : World} {v : Value} {ns : List SN} {b mb B base : Nat} {most : Int} {E : List Ent} {ok : Nat → Prop} (h : Kd.R kN NT w base ok v ns) (hk : KpL b most B w w') (hB : B ≤ base) (hmb : mb < B) (hL : Lru w b mb most E) (hlt : ∀ k, ok k → k < w.heap.size) (hf : ∀ k, ok k → ¬ foot b mb E k) :
    ∃ E', Lru w' b mb most E' ∧ Kd.R kN NT w' base ok v ns ∧ ∀ k, ok k → ¬ foot b mb E' k := by
  obtain ⟨E', h1, h2, h3⟩ := hk.2 mb E hmb hL
  have hb := Kd.R_bound h
  refine ⟨E', h1, Kd.R_mono (Kd.R_move hb fun k hk' => ?_) (fun k hk' => hk'.1), fun k hk' hf' => ?_⟩
  · obtain ⟨ho, hbk, hlt, q, _, cells, hc⟩ := hk'
    rw [hc]
    exact h3 k _ _ _ (Nat.le_trans hB hbk) hc (hf k ho)
  · rcases h2 k hf' with h4 | h4
    · exact hf k hk' h4
    · have := hlt k hk'
      omega
set_option maxRecDepth 100000 in
set_option maxHeartbeats 8000000 in
theorem all2_in (n : Nat) (hn : 1 ≤ n) (l Bm : Nat) (pv : Option Addr) (L : List KV) (hlen : L.length ≤ 100000) (W : World) (J Jx : List KV → World → Prop)
    (hnod : Calls Try.prog 36 #[.pointer pv] W fun e w' => ∃ v ns, e = .returned v ∧ Kd.R kN NT w' W.heap.size (fun _ => True) v ns ∧ nkv ns = L ∧ Below W.heap.size W w') (B : Nat) (hB : B ≤ W.heap.size) (b mb : Nat) (most : Int) (E0 : List Ent) (hmb : mb < B) (hL0 : Lru W b mb most E0)
    (hY : ∀ pre x W1, J pre W1 → pre ++ [x] <+: L → YieldAt Fence.wide (n - 1) Try.prog l #[.string x.1, vl x.2] W1 fun e W' => (e = .returned (.bool true) ∧ J (pre ++ [x]) W' ∧ KpL b most B W1 W') ∨ (e = .returned (.bool false) ∧ Jx (pre ++ [x]) W'))
    (hJ : AbidesFrom W.heap.size J) (hm : W.cell? ⟨Bm, 0, none⟩ = some (.pointer pv)) (h0 : J [] W) :
    CallsIn Fence.wide n Try.prog 38 #[.func (.yield l) #[] #[], .pointer (some ⟨Bm, 0, none⟩)] W fun e W' => (∃ v, e = .returned v) ∧ ((∃ ss : List KV, ss = L ∧ J ss W') ∨ (∃ pre, pre <+: L ∧ Jx pre W')) := by
  refine callsIn_of_wp Try.func38 rfl trivial ?_ rfl
  simp only [Try.ntmps38, List.size_toArray, List.length_cons, List.length_nil, Nat.reduceAdd, Nat.reduceSub, Array.replicate_succ, Array.replicate_zero, List.push_toArray, List.append_toArray, List.nil_append, List.cons_append]
  have HN := Aside0.mk hnod
  have H0 := Aside0.mk h0
  clear hnod h0
  gi_wp2_with (refine ⟨trivial, ?_⟩; gi_at_call 36; (refine (callsIn_wide.2 HN.out).mono ?_); rintro e w5 ⟨v, ns, rfl, hr, hv, hb⟩; obtain ⟨A5, c5, rfl, hl5, hC5⟩ := Kd.R_reads hr; have HR5 := Aside0.mk hr; have HV5 := Aside0.mk hv; have HB5 := Aside0.mk hb; clear hr hv hb hl5 hC5)
  have hS5 := HB5.out.size
  have hR5 : ∃ E, Lru w5 b mb most E ∧ Kd.R kN NT w5 W.heap.size (fun k => W.heap.size ≤ k ∧ k < w5.heap.size) (.slice A5 ns.length c5) ns ∧ ∀ k, W.heap.size ≤ k ∧ k < w5.heap.size → ¬ foot b mb E k :=
    ⟨E0, hL0.below HB5.out, Kd.R_mono (Kd.R_bound HR5.out) (fun k hk => ⟨hk.2.1, hk.2.2.1⟩), fun k hk hf => by have := hL0.lt hf; omega⟩
  obtain ⟨S5, hs5⟩ : ∃ s, w5.heap.size = s := ⟨_, rfl⟩
  rw [hs5] at hR5 hS5
  have HRR := Aside0.mk hR5
  have HS5 : Aside0 (S5 ≤ w5.heap.size) := ⟨by omega⟩
  clear HR5 hR5 hs5
  have hlen5 : ns.length = L.length := by
    have := congrArg List.length HV5.out
    unfold nkv at this
    rw [List.length_map] at this
    exact this
  have HL5 := Aside0.mk hlen5
  clear hlen5
  gi_loopw [8] (fun v8 wr => ∃ i : Nat, v8 = .int .i64 (i : Int) ∧ Aside0 (i ≤ ns.length) ∧ Aside0 (∃ E, Lru wr b mb most E ∧ Kd.R kN NT wr W.heap.size (fun k => W.heap.size ≤ k ∧ k < S5) (.slice A5 ns.length c5) ns ∧ ∀ k, W.heap.size ≤ k ∧ k < S5 → ¬ foot b mb E k) ∧ Aside0 (J (L.take i) wr) ∧ Aside0 (S5 ≤ wr.heap.size))
    (fun v8 _ => ns.length - (intOf v8).toNat)
  case atStart =>
    exact ⟨0, rfl, ⟨Nat.zero_le _⟩, HRR, ⟨hJ _ _ _ none H0.out (grown_of_below HB5.out none) (fun r e => by cases e)⟩, HS5⟩
  case round =>
    clear HRR H0
    obtain ⟨i, rfl, HI, HRE, HJ, HS⟩ := hrel
    obtain ⟨E, hLw, hRw, hfw⟩ := HRE.out
    have HR := Aside0.mk hRw
    have HLW := Aside0.mk hLw
    have HFW := Aside0.mk hfw
    clear HRE hLw hRw hfw
    have hI := HI.out
    by_cases hi : i < ns.length
    · obtain ⟨ad, e5, x0, x1, x2, x3⟩ := at_N (Kd.R_reads' HR.out).2.2 (i : Int) (by omega) (by omega)
      subst e5
      rw [Int.toNat_natCast] at x0 x1 x2 x3
      have hxs : L.take (i + 1) = L.take i ++ [((rd_N ns (i : Int)).key, (rd_N ns (i : Int)).val)] := by
        rw [← HV5.out]
        unfold nkv
        rw [List.take_succ_eq_append_getElem (by rw [List.length_map]; exact hi), List.getElem_map]
        unfold rd_N
        rw [Int.toNat_natCast, List.getD_eq_getElem?_getD, List.getElem?_eq_getElem hi]
        rfl
      obtain ⟨s, hs⟩ : ∃ s, rd_N ns (i : Int) = s := ⟨_, rfl⟩
      rw [hs] at x0 x1 x2 x3 hxs
      have HXS := Aside0.mk hxs
      have q1 : (i : Int) < (ns.length : Int) := by omega
      have HM : Aside0 ((i : Int) ≤ 1000000) := ⟨by have := HL5.out; omega⟩
      have hJ1 : J (L.take i) (wr.alloc (.cells #[.string s.key, vl s.val, .pointer s.nx, .pointer s.pv] NT)) := hJ _ _ _ none HJ.out (World.grownBy_alloc _ _ _) (fun r e => by cases e)
      have hR1 := Kd.R_alloc HR.out (.cells #[.string s.key, vl s.val, .pointer s.nx, .pointer s.pv] NT)
      obtain ⟨fn, tmps, assign, body, hy, hYR⟩ := hY (L.take i) (s.key, s.val) _ hJ1 (by rw [← hxs]; exact List.take_prefix _ _)
      have HYR := Aside0.mk hYR
      have HR1 := Aside0.mk hR1
      clear hxs hs hJ1 hYR hR1
      dsimp only at hy
      unfold vl at x1 hy HYR HR1
      gi_wp2_with fail
      refine HYR.out.mono ?_
      rintro e W3 (⟨rfl, hJ3, hk3⟩ | ⟨rfl, hJx3⟩)
      · have HJ3 := Aside0.mk hJ3
        have HK3 := Aside0.mk hk3
        clear hJ3 hk3 HYR hy
        gi_wp2
        go_roundw
        case rel => exact ⟨i + 1, int_step HM.out, ⟨hi⟩, ⟨R_listed HR1.out HK3.out hB hmb (HLW.out.below ((Below.refl _ _).alloc (Nat.le_refl _) _)) (fun k hk => by have := HS.out; have h3 : (wr.alloc (.cells #[.string s.key, vl s.val, .pointer s.nx, .pointer s.pv] NT)).heap.size = wr.heap.size + 1 := (by simp); unfold vl at h3; omega) HFW.out⟩, ⟨by rw [HXS.out]; exact HJ3.out⟩, ⟨Nat.le_trans HS.out (Nat.le_trans (by simp) HK3.out.1)⟩⟩
        case measure => exact left_step HM.out hi
      · have HX := Aside0.mk (show L.take i ++ [(s.key, s.val)] <+: L by rw [← HXS.out]; exact List.take_prefix _ _)
        have HJ3 := Aside0.mk hJx3
        clear hJx3 HYR hy
        gi_wp2
        (try simp only [Exit.inBlock, Exit.then])
        refine bodyPost_ret (results_none rfl _ _ _) rfl ?_
        exact ⟨⟨_, rfl⟩, .inr ⟨_, HX.out, HJ3.out⟩⟩
    · have HE := Aside0.mk (show L.take i = L by rw [List.take_of_length_le]; have := HL5.out; omega)
      gi_wp2
      go_end0
      exact ⟨⟨_, rfl⟩, .inl ⟨L, rfl, by rw [← HE.out]; exact HJ.out⟩⟩
theorem all2_stops (n : Nat) (hn : 1 ≤ n) (Bm : Nat) (pv : Option Addr) (L : List KV) (hlen : L.length ≤ 100000) (w : World) (hBm : Bm < w.heap.size) (hm : w.cell? ⟨Bm, 0, none⟩ = some (.pointer pv))
    (b mb : Nat) (most : Int) (E0 : List Ent) (hmb : mb < w.heap.size) (hL0 : Lru w b mb most E0)
    (hnod : ∀ W, Below w.heap.size w W → Calls Try.prog 36 #[.pointer pv] W fun e w' => ∃ v ns, e = .returned v ∧ Kd.R kN NT w' W.heap.size (fun _ => True) v ns ∧ nkv ns = L ∧ Below W.heap.size W w') :
    SeqStopsK Fence.wide n Try.prog 38 #[.pointer (some ⟨Bm, 0, none⟩)] (fun x : KV => #[.string x.1, vl x.2]) (KpL b most w.heap.size) (fun ys => ys = L) (fun pre => pre <+: L) L.length w := by
  intro l J Jx W hW hJ _ hY h0
  refine all2_in n hn l Bm pv L hlen W J Jx (hnod W hW) w.heap.size hW.size b mb most E0 hmb (hL0.below hW) (fun pre x W1 hj hp => hY pre x W1 hj ?_) hJ ((hW.cell (p := ⟨Bm, 0, none⟩) hBm).trans hm) h0
  have := hp.length_le
  rw [List.length_append] at this
  simp at this
  omega
theorem yKeys {X : World → Prop} {G : Nat → Prop} {w0 w : World} {b : Nat} {most : Int} {L : List KV} (h : OwnX X G w0 w b most L) (hE : L.length ≤ 100000) :
    Calls Try.prog 12 #[.pointer (some ⟨b, 0, none⟩)] w fun e w' => ∃ A cp, e = .returned (.slice A L.length cp) ∧ w'.ownsRow w.heap.size 9 1 (.slice A L.length cp) L.length ((L.map Prod.fst).map Value.string) ∧ Below w.heap.size w w' := by
  obtain ⟨mb, E, h1, h2, _⟩ := h
  have := lKeys h1 (by rw [← kv_length, h2]; exact hE)
  rw [h2] at this
  refine this.mono ?_
  rintro e w' ⟨v, rfl, hr, hb⟩
  have ho := Kd.own_of_R (enc := Value.string) (h1 := fun _ => rfl) hr
  obtain ⟨A, cp, rfl, hl, hC⟩ := Kd.R_reads hr
  rw [List.length_map] at ho ⊢
  exact ⟨A, cp, rfl, ho, hb⟩
theorem row_reads {w : World} {base m c : Nat} {A : Option Addr} {ks : List ByteArray} (h : w.ownsRow base 9 1 (.slice A m c) m (ks.map Value.string)) (hk : ks.length = m) : Kd.C Kd.string w A m ks := by
  have hR : Kd.R Kd.string 9 w base (fun _ => True) (.slice A m c) ks := Kd.R_of_own (enc := Value.string) (h1 := fun _ => rfl) (by rw [hk]; exact h) (fun _ _ => trivial)
  obtain ⟨A', c', e, hl, hC⟩ := Kd.R_reads hR
  injection e with e1 e2 e3
  subst e1
  rw [← e2] at hC
  exact hC
/-- A list beside what else the law holds, whose map was made ahead of block B. -/
def OwnB (B : Nat) (X : World → Prop) (G : Nat → Prop) (w0 w : World) (b : Nat) (most : Int) (L : List KV) : Prop :=
  ∃ mb E, mb < B ∧ b < B ∧ Lru w b mb most E ∧ kv E = L ∧ (∀ k, foot b mb E k → w0.heap.size ≤ k) ∧ Below w0.heap.size w0 w ∧ X w ∧ ∀ k, G k → k < w.heap.size ∧ ¬ foot b mb E k
theorem KeepsFrom.of_turn {B b mb : Nat} {most : Int} {w w' : World} {E : List Ent} {F : Nat → Prop} (h : Lru w b mb most E) (hmb : mb < B) (ht : Turn F w w') (hF : ∀ k, F k → foot b mb E k ∨ k < B) : KeepsFrom B w w' := by
  refine ⟨ht.size, fun k o hB hk ho => ?_⟩
  rw [ht.block k (lt_of_cells hk) (fun hf => ?_)]
  · exact hk
  · rcases hF k hf with h1 | h1
    · obtain ⟨cs, T, fz, hh⟩ := h.solid h1 (by omega)
      rw [hk] at hh
      injection hh with hh
      subst hh
      cases ho
    · omega
section
variable {B : Nat} {X : World → Prop} {G : Nat → Prop} {w0 w w' : World} {b : Nat} {most : Int} {L : List KV}
theorem OwnX.bound (h : OwnX X G w0 w b most L) : OwnB w.heap.size X G w0 w b most L := by
  obtain ⟨mb, E, h1, h2, h3, h4, h5, h6⟩ := h
  exact ⟨mb, E, h1.lt (.inr (.inl rfl)), h1.lt (.inl rfl), h1, h2, h3, h4, h5, h6⟩
theorem OwnB.x (h : OwnB B X G w0 w b most L) : OwnX X G w0 w b most L := by
  obtain ⟨mb, E, _, _, h1, h2, h3, h4, h5, h6⟩ := h
  exact ⟨mb, E, h1, h2, h3, h4, h5, h6⟩
theorem OwnB.there (h : OwnB B X G w0 w b most L) : X w := h.x.there
theorem OwnB.low (h : OwnB B X G w0 w b most L) : Below w0.heap.size w0 w := h.x.low
theorem OwnB.below (hS : Stays X G) (h : OwnB B X G w0 w b most L) (hb : Below w.heap.size w w') : OwnB B X G w0 w' b most L := by
  obtain ⟨mb, E, q1, q2, h1, h2, h3, h4, h5, h6⟩ := h
  exact ⟨mb, E, q1, q2, h1.below hb, h2, h3, h4.trans (hb.mono h4.size), hS w w' (fun k hk => hb.block k (h6 k hk).1) h5, fun k hk => ⟨Nat.lt_of_lt_of_le (h6 k hk).1 hb.size, (h6 k hk).2⟩⟩
theorem OwnB.step (hS : Stays X G) {mb : Nat} {M : List KV} {E E' : List Ent} (q1 : mb < B) (q2 : b < B) (h1 : Lru w b mb most E) (h3 : ∀ k, foot b mb E k → w0.heap.size ≤ k) (h4 : Below w0.heap.size w0 w) (h5 : X w) (h6 : ∀ k, G k → k < w.heap.size ∧ ¬ foot b mb E k)
    (hL : Lru w' b mb most E') (hkv : kv E' = M) (ht : Turn (foot b mb E) w w') (hm : More w b mb E mb E') : OwnB B X G w0 w' b most M ∧ KpL b most B w w' ∧ KeepsFrom B w w' := by
  refine ⟨⟨mb, E', q1, q2, hL, hkv, fun k hk => (hm k hk).elim (h3 k) (fun h => Nat.le_trans h4.size h), h4.trans (ht.below h3 h4.size), hS w w' (fun k hk => ht.block k (h6 k hk).1 (h6 k hk).2) h5, fun k hk => ⟨Nat.lt_of_lt_of_le (h6 k hk).1 ht.size, fun hf => ?_⟩⟩, KpL.of_turn h1 hL ht hm (fun k hk => .inl hk), KeepsFrom.of_turn h1 q1 ht (fun k hk => .inl hk)⟩
  rcases hm k hf with h | h
  · exact (h6 k hk).2 h
  · have := (h6 k hk).1
    omega
theorem bPut (hS : Stays X G) (h : OwnB B X G w0 w b most L) (hm : 0 ≤ most) (s : ByteArray) (hs : s.size ≤ 100000) (v : Int) (hE : L.length ≤ 100000) (hK : ∀ p ∈ L, p.1.size ≤ 100000) {M : List KV} {o : ByteArray} {q : Bool} {c : Int} (hR : putR most s v L = (M, o, q, c)) :
    Calls Try.prog 11 #[.pointer (some ⟨b, 0, none⟩), .string s, vl v] w fun e w' => e = .returned (.tuple #[.string o, .bool q, .int .i64 c]) ∧ OwnB B X G w0 w' b most M ∧ KpL b most B w w' ∧ KeepsFrom B w w' := by
  obtain ⟨mb, E, q1, q2, h1, h2, h3, h4, h5, h6⟩ := h
  refine (lPutL h1 h2 hm s hs v hE hK hR).mono ?_
  rintro e w' ⟨rfl, E', hL, hkv, ht, hmo⟩
  exact ⟨rfl, OwnB.step hS q1 q2 h1 h3 h4 h5 h6 hL hkv ht hmo⟩
theorem bDrop (hS : Stays X G) (h : OwnB B X G w0 w b most L) (s : ByteArray) (hs : s.size ≤ 100000) :
    Calls Try.prog 19 #[.pointer (some ⟨b, 0, none⟩), .string s] w fun e w' => e = .returned (.bool (hasL s L)) ∧ OwnB B X G w0 w' b most (dropL s L) ∧ KpL b most B w w' ∧ KeepsFrom B w w' := by
  obtain ⟨mb, E, q1, q2, h1, h2, h3, h4, h5, h6⟩ := h
  subst h2
  refine (lDrop h1 s hs).mono ?_
  rintro e w' ⟨rfl, E', hL, hkv, ht, hmo⟩
  exact ⟨rfl, OwnB.step hS q1 q2 h1 h3 h4 h5 h6 hL hkv ht hmo⟩
/-- A cell below B that is none of the list's is written. -/
theorem OwnB.set (h : OwnB B X G w0 w b most L) {a : Addr} (u : Value) (hG : G a.block) (hB : a.block < B) (hw : w0.heap.size ≤ a.block) {Y : World → Prop} (hY : Y (w.setCell a u)) : OwnB B Y G w0 (w.setCell a u) b most L ∧ KpL b most B w (w.setCell a u) ∧ KeepsFrom B w (w.setCell a u) := by
  obtain ⟨mb, E, q1, q2, h1, h2, h3, h4, h5, h6⟩ := h
  have ht : Turn (fun k => k = a.block) w (w.setCell a u) := Turn.setCell (F := fun k => k = a.block) _ (a := a) rfl _
  have hL : Lru (w.setCell a u) b mb most E := h1.keep fun k hk => Below.heap_setCell w a u k (fun e => (h6 a.block hG).2 (e ▸ hk))
  refine ⟨⟨mb, E, q1, q2, hL, h2, h3, h4.trans (ht.below (fun k hk => by omega) h4.size), hY, fun k hk => ⟨Nat.lt_of_lt_of_le (h6 k hk).1 ht.size, (h6 k hk).2⟩⟩, KpL.of_turn h1 hL ht (fun k hk => .inl hk) (fun k hk => .inr (by omega)), KeepsFrom.of_turn h1 q1 ht (fun k hk => .inr (by omega))⟩
theorem OwnB.from_ {β : Type} {Xs : β → World → Prop} {Ms : β → List KV} (hS : ∀ s, Stays (Xs s) G) (hG : ∀ k, G k → k < B) : OwnFrom B (fun (s : β) W => OwnB B (Xs s) G w0 W b most (Ms s)) := by
  intro s W W' row h hg hr
  obtain ⟨mb, E, q1, q2, h1, h2, h3, h4, h5, h6⟩ := h
  have hne : ∀ k, k < W.heap.size → (foot b mb E k ∨ G k ∨ k < B) → W'.heap[k]? = W.heap[k]? := by
    intro k hk hf
    refine hg.block k hk (fun e => ?_)
    obtain ⟨hB, o, ho, hc⟩ := hr k e.symm
    rcases hf with hf | hf | hf
    · obtain ⟨cs, T, fz, hh⟩ := h1.solid hf (by omega)
      rw [ho] at hh
      injection hh with hh
      subst hh
      cases hc
    · have := hG k hf
      omega
    · omega
  have hb := h3 b (.inl rfl)
  exact ⟨mb, E, q1, q2, h1.keep (fun k hk => hne k (h1.lt hk) (.inl hk)), h2, h3, h4.grown hg h4.size (fun k hk => by have := (hr k hk).1; omega), hS s W W' (fun k hk => hne k (h6 k hk).1 (.inr (.inl hk))) h5, fun k hk => ⟨Nat.lt_of_lt_of_le (h6 k hk).1 hg.size, (h6 k hk).2⟩⟩
end
end Go.Proofs.Ytfmaoaigljjhgaa.Lru
