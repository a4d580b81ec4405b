/- An lru list in memory: its map, its ring, its nodes; what finding, taking out, putting in leaves of it. -/
import Derived.Test.YtfmaoaigljjhgaaLru1
namespace Go.Proofs.Ytfmaoaigljjhgaa.Lru
open Go Go.RowKit Go.Maps Go.Proofs.YtfmaoaigljjhgaaW.PrintWords

/-! ### The map -/
def kl (s : ByteArray) : Lit := .string s.data.toList
theorem kl_inj {s t : ByteArray} (h : kl s = kl t) : s = t := by
  injection h with h
  cases s; cases t
  congr 1
  exact Array.toList_inj.1 h
theorem kl_key (s : ByteArray) : WideAt.IsKeyLit (kl s) := trivial
def ptrElem : Value → Option (DataW Unit × List MemPlace)
  | .pointer none => some (.lit (.int .i64 (-1)), [])
  | .pointer (some ⟨k, 0, none⟩) => some (.lit (.int .i64 (k : Int)), [])
  | _ => none
theorem ptrElem_nil : ptrElem (.pointer none) = some (.lit (.int .i64 (-1)), []) := rfl
theorem ptrElem_nd (k : Nat) : ptrElem (.pointer (some (nd k))) = some (.lit (.int .i64 (k : Int)), []) := rfl
theorem ptrElem_inv {v : Value} {z : DataW Unit × List MemPlace} (h : ptrElem v = some z) : (v = .pointer none ∧ z = (.lit (.int .i64 (-1)), [])) ∨ ∃ k : Nat, v = .pointer (some (nd k)) ∧ z = (.lit (.int .i64 (k : Int)), []) := by
  unfold ptrElem at h
  split at h
  · exact .inl ⟨rfl, (Option.some.inj h).symm⟩
  · exact .inr ⟨_, rfl, (Option.some.inj h).symm⟩
  · cases h
theorem ptrElem_back_nd {v : Value} {k : Nat} {ps : List MemPlace} (h : ptrElem v = some (.lit (.int .i64 (k : Int)), ps)) : v = .pointer (some (nd k)) := by
  rcases ptrElem_inv h with ⟨rfl, e⟩ | ⟨j, rfl, e⟩
  · injection e with e _
    injection e with e
    injection e with _ e
    omega
  · injection e with e _
    injection e with e
    injection e with _ e
    rw [show k = j by omega]
theorem ptrElem_back_nil {v : Value} {ps : List MemPlace} (h : ptrElem v = some (.lit (.int .i64 (-1)), ps)) : v = .pointer none := by
  rcases ptrElem_inv h with ⟨rfl, e⟩ | ⟨j, rfl, e⟩
  · rfl
  · injection e with e _
    injection e with e
    injection e with _ e
    omega

structure Ent where
  blk : Nat
  key : ByteArray
  val : Int
def vl (x : Int) : Value := .int .i64 x
def hasK (s : ByteArray) (E : List Ent) : Bool := E.any fun e => decide (e.key = s)
def dropK (s : ByteArray) (E : List Ent) : List Ent := E.filter fun e => !decide (e.key = s)
theorem hasK_true {s : ByteArray} {E : List Ent} : hasK s E = true ↔ ∃ e ∈ E, e.key = s := by
  unfold hasK
  simp
theorem hasK_false {s : ByteArray} {E : List Ent} : hasK s E = false ↔ ∀ e ∈ E, e.key ≠ s := by
  unfold hasK
  simp
theorem dropK_none {s : ByteArray} {E : List Ent} (h : hasK s E = false) : dropK s E = E := by
  unfold dropK
  rw [List.filter_eq_self]
  intro e he
  simp [hasK_false.1 h e he]
theorem dropK_mid {s : ByteArray} {A B : List Ent} {e : Ent} (hn : ((A ++ e :: B).map (·.key)).Nodup) (he : e.key = s) : dropK s (A ++ e :: B) = A ++ B := by
  unfold dropK
  rw [List.map_append, List.map_cons, List.nodup_append] at hn
  obtain ⟨h1, h2, h3⟩ := hn
  rw [List.nodup_cons] at h2
  rw [List.filter_append, List.filter_cons, if_neg (by simp [he])]
  congr 1
  · rw [List.filter_eq_self]
    intro x hx
    have := h3 x.key (List.mem_map_of_mem hx) e.key (by simp)
    rw [he] at this
    simp [this]
  · rw [List.filter_eq_self]
    intro x hx
    have : x.key ≠ e.key := fun c => h2.1 (c ▸ List.mem_map_of_mem hx)
    rw [he] at this
    simp [this]
theorem hasK_dropK (s : ByteArray) (E : List Ent) : hasK s (dropK s E) = false := by
  rw [hasK_false]
  intro e he
  have := (List.mem_filter.1 he).2
  simpa using this
theorem split_at {s : ByteArray} {E : List Ent} (h : hasK s E = true) : ∃ A e B, E = A ++ e :: B ∧ e.key = s := by
  obtain ⟨e, he, hs⟩ := hasK_true.1 h
  obtain ⟨A, B, rfl⟩ := List.append_of_mem he
  exact ⟨A, e, B, rfl, hs⟩

abbrev PT : Nat := 63
abbrev MT : Nat := 62
abbrev KT : Nat := 9
abbrev NT : Nat := 65
abbrev LT : Nat := 67
theorem law : Keyed Try.prog KT := string_keyed Try.underlying9
theorem hmt : Try.prog.underlying MT = some (.map KT PT) := Try.underlying62
theorem zeroP (w : World) : (zeroValue PT).run Try.prog w = .ok (.pointer none) w := by kernel_rfl
theorem key_of {s : ByteArray} (h : s.size ≤ maxLen) : keyOf Try.prog KT (.string s) = some (kl s) := WideMaps.keyOf_string_mk Try.underlying9 h

/-- What the block of a list's map is. -/
def MapIs (w : World) (mb : Nat) (E : List Ent) : Prop :=
  ∃ D, w.ownsMap Try.prog KT ptrElem mb E.length D ∧ size D = E.length ∧ (∀ s, has D (kl s) = hasK s E) ∧ ∀ e ∈ E, ∀ z, D.atKey (kl e.key) z = .lit (.int .i64 (e.blk : Int))
theorem ownsMap_tight {w : World} {mb n : Nat} {D : DataW Unit} (h : w.ownsMap Try.prog KT ptrElem mb n D) : w.ownsMap Try.prog KT ptrElem mb (size D) D := by
  obtain ⟨es, clock, hb, F, _, rfl⟩ := h
  refine ⟨es, clock, hb, F, ?_, rfl⟩
  simp [Maps.size, length_sorted]
theorem MapIs.kept {w w' : World} {mb : Nat} {E : List Ent} (h : MapIs w mb E) (hb : w'.heap[mb]? = w.heap[mb]?) : MapIs w' mb E := by
  obtain ⟨D, ⟨es, clock, hh, r⟩, r2⟩ := h
  exact ⟨D, ⟨es, clock, hb.trans hh, r⟩, r2⟩
theorem MapIs.lt {w : World} {mb : Nat} {E : List Ent} (h : MapIs w mb E) : mb < w.heap.size := by
  obtain ⟨D, hD, _⟩ := h
  exact hD.lt
theorem MapIs.made (w : World) : MapIs (w.alloc (.map #[] 0)) w.heap.size [] :=
  ⟨.map [], World.ownsMap_made _ _ _ _, rfl, fun s => rfl, fun e he => by cases he⟩
theorem MapIs.perm {w : World} {mb : Nat} {E E' : List Ent} (h : MapIs w mb E) (hp : ∀ e, e ∈ E' ↔ e ∈ E) (hl : E'.length = E.length) : MapIs w mb E' := by
  obtain ⟨D, h1, h2, h3, h4⟩ := h
  refine ⟨D, hl ▸ h1, by omega, fun s => ?_, fun e he => h4 e ((hp e).1 he)⟩
  rw [h3, Bool.eq_iff_iff, hasK_true, hasK_true]
  constructor
  · rintro ⟨e, he, r⟩
    exact ⟨e, (hp e).2 he, r⟩
  · rintro ⟨e, he, r⟩
    exact ⟨e, (hp e).1 he, r⟩

section
variable (w : World) {ops : Array Oper} {rest : List Oper} {o : Oper} {a : Act} {Q : Exit → Act → World → Prop}
theorem wp_look_hit (hg : o.guard = none) (m x : Operand) (hop : o.op = Op.lookup MT m x true) (mb : Nat) (E : List Ent) (hm : a.eval m = .map (some mb)) (hown : MapIs w mb E) (s : ByteArray) (hs : s.size ≤ maxLen) (hx : a.eval x = .string s)
    (e : Ent) (he : e ∈ E) (hes : e.key = s) (hK : wpList Try.prog ops Q rest (a.put o.dst (.tuple #[.pointer (some (nd e.blk)), .bool true])) w) : wpList Try.prog ops Q (o :: rest) a w := by
  obtain ⟨D, h1, h2, h3, h4⟩ := hown
  refine wpList_lookup_own_ok w hg m x MT hop KT PT law hmt ptrElem (zeroP w) _ _ ptrElem_nil mb _ D hm h1 _ (kl s) hx (key_of hs) fun v ps hv => ?_
  have h4' := h4 e he
  rw [hes] at h4'
  rw [h4'] at hv
  rw [ptrElem_back_nd hv, h3, hasK_true.2 ⟨e, he, hes⟩]
  exact hK
theorem wp_look_miss (hg : o.guard = none) (m x : Operand) (hop : o.op = Op.lookup MT m x true) (mb : Nat) (E : List Ent) (hm : a.eval m = .map (some mb)) (hown : MapIs w mb E) (s : ByteArray) (hs : s.size ≤ maxLen) (hx : a.eval x = .string s)
    (hn : hasK s E = false) (hK : wpList Try.prog ops Q rest (a.put o.dst (.tuple #[.pointer none, .bool false])) w) : wpList Try.prog ops Q (o :: rest) a w := by
  obtain ⟨D, h1, h2, h3, h4⟩ := hown
  refine wpList_lookup_own_ok w hg m x MT hop KT PT law hmt ptrElem (zeroP w) _ _ ptrElem_nil mb _ D hm h1 _ (kl s) hx (key_of hs) fun v ps hv => ?_
  have hh : has D (kl s) = false := (h3 s).trans hn
  rw [atKey_of_not_has hh] at hv
  rw [ptrElem_back_nil hv, hh]
  exact hK
theorem wp_look_plain (hg : o.guard = none) (m x : Operand) (hop : o.op = Op.lookup MT m x false) (mb : Nat) (E : List Ent) (hm : a.eval m = .map (some mb)) (hown : MapIs w mb E) (s : ByteArray) (hs : s.size ≤ maxLen) (hx : a.eval x = .string s)
    (e : Ent) (he : e ∈ E) (hes : e.key = s) (hK : wpList Try.prog ops Q rest (a.put o.dst (.pointer (some (nd e.blk)))) w) : wpList Try.prog ops Q (o :: rest) a w := by
  obtain ⟨D, h1, h2, h3, h4⟩ := hown
  refine wpList_plain hg fun K' hK' => ?_
  obtain ⟨v, ps, hrun, hv⟩ := h1.lookup (t := MT) (e := PT) law hmt (zeroP w) ptrElem_nil (key_of hs)
  have h4' := h4 e he
  rw [hes] at h4'
  rw [h4'] at hv
  rw [ptrElem_back_nd hv] at hrun
  unfold Oper.wp
  simp [execOp, hop, hm, hx, hrun, Result.andThen]
  exact hK' _ _ hK
theorem wp_delete (hg : o.guard = none) (m x : Operand) (hop : o.op = Op.call { callee := Callee.builtin Builtin.delete, args := #[m, x], argTypes := #[MT, KT] }) (mb : Nat) (E : List Ent) (hm : a.eval m = .map (some mb)) (hown : MapIs w mb E)
    (s : ByteArray) (hs : s.size ≤ maxLen) (hx : a.eval x = .string s) (hk : (E.map (·.key)).Nodup) (hh : hasK s E = true)
    (hK : ∀ w', MapIs w' mb (dropK s E) → w.grownBy w' (some mb) → w'.heap.size = w.heap.size → wpList Try.prog ops Q rest (a.put o.dst (.tuple #[])) w') : wpList Try.prog ops Q (o :: rest) a w := by
  obtain ⟨D, h1, h2, h3, h4⟩ := hown
  refine wpList_delete_own w hg m x MT KT hop PT law hmt ptrElem mb _ D hm h1 _ (kl s) hx (key_of hs) fun w' hw' ht => ?_
  have hT := h1.tidy law
  have hz := size_del (k := kl s) hT
  obtain ⟨A, e, B, rfl, he⟩ := split_at hh
  have hd := dropK_mid hk he
  have hl : (dropK s (A ++ e :: B)).length = size (D.del (kl s)) := by
    rw [h3, hh, h2] at hz
    rw [hd]
    simp at hz ⊢
    omega
  refine hK w' ⟨D.del (kl s), by rw [hl]; exact ownsMap_tight hw', hl.symm, fun t => ?_, fun x hx z => ?_⟩ ht.grown (by obtain ⟨_, _, _, _, _, rfl⟩ := ht; simp [ChangeMaps.setBlock])
  · by_cases c : t = s
    · subst c
      rw [has_del_same, hasK_dropK]
    · rw [has_del_other (fun q => c (kl_inj q)), h3, Bool.eq_iff_iff, hasK_true, hasK_true]
      constructor
      · rintro ⟨y, hy, rfl⟩
        exact ⟨y, List.mem_filter.2 ⟨hy, by simp [c]⟩, rfl⟩
      · rintro ⟨y, hy, rfl⟩
        exact ⟨y, (List.mem_filter.1 hy).1, rfl⟩
  · have hx' := List.mem_filter.1 hx
    have : x.key ≠ s := by simpa using hx'.2
    rw [atKey_del_other (fun q => this (kl_inj q))]
    exact h4 x hx'.1 z
theorem wp_store (hg : o.guard = none) (m x v : Operand) (hop : o.op = Op.mapUpdate MT m x v) (mb : Nat) (E : List Ent) (hm : a.eval m = .map (some mb)) (hown : MapIs w mb E)
    (s : ByteArray) (hs : s.size ≤ maxLen) (hx : a.eval x = .string s) (blk : Nat) (hv : a.eval v = .pointer (some (nd blk))) (val : Int) (hl : E.length < maxLen) (hh : hasK s E = false)
    (hK : ∀ w', MapIs w' mb (⟨blk, s, val⟩ :: E) → w.grownBy w' (some mb) → w'.heap.size = w.heap.size → wpList Try.prog ops Q rest (a.put o.dst undef) w') : wpList Try.prog ops Q (o :: rest) a w := by
  obtain ⟨D, h1, h2, h3, h4⟩ := hown
  refine wpList_mapUpdate_in w hg m x v MT hop KT PT law hmt ptrElem mb _ D hm h1 hl _ _ (kl s) hx hv (key_of hs) _ _ (ptrElem_nd blk) fun w' hw' ht => ?_
  have hT := h1.tidy law
  have hz := size_put (k := kl s) hT (.lit (.int .i64 (blk : Int)))
  have hh' : has D (kl s) = false := (h3 s).trans hh
  rw [hh', h2] at hz
  refine hK w' ⟨D.put (kl s) (.lit (.int .i64 (blk : Int))), hw', by rw [hz]; simp, fun t => ?_, fun y hy z => ?_⟩ ht.grown (by obtain ⟨_, _, _, _, _, rfl⟩ := ht; simp [ChangeMaps.setBlock])
  · by_cases c : t = s
    · subst c
      rw [has_put_same hT.isMap (kl_key t)]
      simp [hasK]
    · rw [has_put_other (fun q => c (kl_inj q)), h3]
      simp [hasK, Ne.symm c]
  · rcases List.mem_cons.1 hy with rfl | hy
    · exact atKey_put_same hT.isMap (kl_key s) _ _
    · have : y.key ≠ s := hasK_false.1 hh y hy
      rw [atKey_put_other (fun q => this (kl_inj q))]
      exact h4 y hy z
theorem wp_len (hg : o.guard = none) (m : Operand) (hop : o.op = Op.call { callee := Callee.builtin Builtin.len, args := #[m], argTypes := #[MT] }) (mb : Nat) (E : List Ent) (hm : a.eval m = .map (some mb)) (hown : MapIs w mb E)
    (hK : wpList Try.prog ops Q rest (a.put o.dst (.int .i64 (E.length : Int))) w) : wpList Try.prog ops Q (o :: rest) a w := by
  obtain ⟨D, h1, h2, h3, h4⟩ := hown
  refine wpList_len_own w hg m MT hop KT PT hmt ptrElem mb _ D hm h1 ?_
  rw [h2]
  exact hK
end

/-! ### The list -/
def ring (b : Nat) (E : List Ent) : List Addr := rg b :: (E.map (fun e => nd e.blk) ++ [rg b])
structure Lru (w : World) (b mb : Nat) (most : Int) (E : List Ent) : Prop where
  head : HeadAt LT w b most mb
  nodes : ∀ e ∈ E, NodeAt NT w e.blk e.key (vl e.val)
  links : Links w (ring b E)
  blocks : (b :: mb :: E.map (·.blk)).Nodup
  keys : (E.map (·.key)).Nodup
  map : MapIs w mb E
def foot (b mb : Nat) (E : List Ent) (k : Nat) : Prop := k = b ∨ k = mb ∨ ∃ e ∈ E, e.blk = k
theorem ring_mem {b : Nat} {E : List Ent} {x : Addr} (h : x ∈ ring b E) : x = rg b ∨ ∃ e ∈ E, x = nd e.blk := by
  unfold ring at h
  simp only [List.mem_cons, List.mem_append, List.mem_map, List.not_mem_nil, or_false] at h
  rcases h with h | ⟨e, he, rfl⟩ | h
  · exact .inl h
  · exact .inr ⟨e, he, rfl⟩
  · exact .inl h
theorem ring_spot {b : Nat} {E : List Ent} : ∀ x ∈ ring b E, x.spot = none := by
  intro x hx
  rcases ring_mem hx with rfl | ⟨e, _, rfl⟩ <;> rfl
theorem ring_apart {b mb : Nat} {E : List Ent} (h : (b :: mb :: E.map (·.blk)).Nodup) : Apart (ring b E) := by
  have hb : ∀ e ∈ E, e.blk ≠ b := by
    intro e he c
    have := (List.nodup_cons.1 h).1
    exact this (List.mem_cons_of_mem _ (c ▸ List.mem_map_of_mem he))
  intro x hx y hy e
  rcases ring_mem hx with rfl | ⟨e1, h1, rfl⟩ <;> rcases ring_mem hy with rfl | ⟨e2, h2, rfl⟩
  · rfl
  · exact absurd e.symm (hb e2 h2)
  · exact absurd e (hb e1 h1)
  · have : e1.blk = e2.blk := e
    rw [this]
theorem nodes_nodup {b mb : Nat} {E : List Ent} (h : (b :: mb :: E.map (·.blk)).Nodup) : (E.map fun e => nd e.blk).Nodup ∧ rg b ∉ E.map fun e => nd e.blk := by
  have h2 := (List.nodup_cons.1 (List.nodup_cons.1 h).2).2
  refine ⟨?_, ?_⟩
  · have e : (E.map fun e => nd e.blk) = (E.map (·.blk)).map nd := by rw [List.map_map]; rfl
    rw [e]
    unfold List.Nodup at h2 ⊢
    rw [List.pairwise_map]
    exact h2.imp fun hne c => hne (by injection c)
  · intro hm
    obtain ⟨e, he, c⟩ := List.mem_map.1 hm
    injection c with c
    exact (List.nodup_cons.1 h).1 (List.mem_cons_of_mem _ (c ▸ List.mem_map_of_mem he))
theorem ring_from {b mb : Nat} {E : List Ent} (h : (b :: mb :: E.map (·.blk)).Nodup) : (ring b E).dropLast.Nodup := by
  have := nodes_nodup h
  unfold ring
  rw [← List.cons_append, List.dropLast_concat]
  exact List.nodup_cons.2 ⟨this.2, this.1⟩
theorem ring_to {b mb : Nat} {E : List Ent} (h : (b :: mb :: E.map (·.blk)).Nodup) : (ring b E).tail.Nodup := by
  have := nodes_nodup h
  unfold ring
  rw [List.tail_cons, List.nodup_append]
  refine ⟨this.1, by simp, ?_⟩
  intro x hx y hy c
  have hy' : y = rg b := by simpa using hy
  exact this.2 (hy' ▸ c ▸ hx)
theorem Lru.cells {w : World} {b mb : Nat} {most : Int} {E : List Ent} (h : Lru w b mb most E) {x : Addr} (hx : x ∈ ring b E) : (∃ u, w.cell? (fa x 2) = some u) ∧ (∃ u, w.cell? (fa x 3) = some u) ∧ w.frozen? (fa x 2) = false ∧ w.frozen? (fa x 3) = false := by
  rcases ring_mem hx with rfl | ⟨e, he, rfl⟩
  · exact ⟨h.head.some.1, h.head.some.2, h.head.frozen _ rfl, h.head.frozen _ rfl⟩
  · have hn := h.nodes e he
    exact ⟨hn.some.1, hn.some.2, hn.frozen _ rfl, hn.frozen _ rfl⟩
theorem Lru.lt {w : World} {b mb : Nat} {most : Int} {E : List Ent} (h : Lru w b mb most E) {k : Nat} (hk : foot b mb E k) : k < w.heap.size := by
  rcases hk with rfl | rfl | ⟨e, he, rfl⟩
  · obtain ⟨_, _, _, _, hh⟩ := h.head
    exact (Array.getElem?_eq_some_iff.1 hh).1
  · exact h.map.lt
  · obtain ⟨_, _, hh⟩ := h.nodes e he
    exact (Array.getElem?_eq_some_iff.1 hh).1
theorem links_heap {w w' : World} : ∀ {L : List Addr}, Links w L → (∀ x ∈ L, w'.heap[x.block]? = w.heap[x.block]?) → Links w' L := by
  intro L h hh
  refine h.move (fun x hx => ?_) (fun x hx => ?_)
  · have := hh x (mem_dropLast hx)
    exact World.cell?_of_block (a := fa x 2) this
  · have := hh x (List.mem_of_mem_tail hx)
    exact World.cell?_of_block (a := fa x 3) this
/-- Where none of its blocks has turned, a list is what it was. -/
theorem Lru.keep {w w' : World} {b mb : Nat} {most : Int} {E : List Ent} (h : Lru w b mb most E) (hh : ∀ k, foot b mb E k → w'.heap[k]? = w.heap[k]?) : Lru w' b mb most E := by
  refine ⟨?_, ?_, ?_, h.blocks, h.keys, h.map.kept (hh mb (.inr (.inl rfl)))⟩
  · obtain ⟨r0, r1, x, y, e⟩ := h.head
    exact ⟨r0, r1, x, y, (hh b (.inl rfl)).trans e⟩
  · intro e he
    obtain ⟨x, y, q⟩ := h.nodes e he
    exact ⟨x, y, (hh e.blk (.inr (.inr ⟨e, he, rfl⟩))).trans q⟩
  · refine links_heap h.links fun x hx => ?_
    rcases ring_mem hx with rfl | ⟨e, he, rfl⟩
    · exact hh b (.inl rfl)
    · exact hh e.blk (.inr (.inr ⟨e, he, rfl⟩))
theorem Lru.turn {w w' : World} {b mb : Nat} {most : Int} {E : List Ent} {F : Nat → Prop} (h : Lru w b mb most E) (ht : Turn F w w') (hf : ∀ k, foot b mb E k → ¬ F k) : Lru w' b mb most E :=
  h.keep fun k hk => ht.block k (h.lt hk) (hf k hk)
theorem Lru.below {w w' : World} {b mb : Nat} {most : Int} {E : List Ent} (h : Lru w b mb most E) (ht : Below w.heap.size w w') : Lru w' b mb most E :=
  h.keep fun k hk => ht.block k (h.lt hk)
theorem split_ring (b : Nat) (A B : List Ent) (e : Ent) : ∃ A' p q B', ring b (A ++ e :: B) = A' ++ p :: nd e.blk :: q :: B' ∧ ring b (A ++ B) = A' ++ p :: q :: B' := by
  obtain ⟨A', p, hA⟩ : ∃ A' p, rg b :: A.map (fun e => nd e.blk) = A' ++ [p] := ⟨_, _, (List.dropLast_concat_getLast (by simp)).symm⟩
  obtain ⟨q, B', hB⟩ : ∃ q B', B.map (fun e => nd e.blk) ++ [rg b] = q :: B' := by
    cases B with
    | nil => exact ⟨_, _, rfl⟩
    | cons x t => exact ⟨_, _, rfl⟩
  refine ⟨A', p, q, B', ?_, ?_⟩
  · unfold ring
    rw [List.map_append, List.map_cons, List.append_assoc, List.cons_append, hB, ← List.cons_append, hA, List.append_assoc]
    rfl
  · unfold ring
    rw [List.map_append, List.append_assoc, hB, ← List.cons_append, hA, List.append_assoc]
    rfl
end Go.Proofs.Ytfmaoaigljjhgaa.Lru
