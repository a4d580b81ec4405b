/- A list between two steps: its ring, its nodes and its map may name different entries; what out and behind leave of it. -/
import Derived.Test.YtfmaoaigljjhgaaLru2
namespace Go.Proofs.Ytfmaoaigljjhgaa.Lru
open Go Go.RowKit Go.Maps Go.Proofs.YtfmaoaigljjhgaaW.PrintWords

structure Part (w : World) (b mb : Nat) (most : Int) (R N M : List Ent) : Prop where
  head : HeadAt LT w b most mb
  nodes : ∀ e ∈ N, NodeAt NT w e.blk e.key (vl e.val)
  links : Links w (ring b R)
  blocks : (b :: mb :: N.map (·.blk)).Nodup
  sub : ∀ e ∈ R, e ∈ N
  own : (R.map (·.blk)).Nodup
  map : MapIs w mb M
theorem Lru.part {w : World} {b mb : Nat} {most : Int} {E : List Ent} (h : Lru w b mb most E) : Part w b mb most E E E :=
  ⟨h.head, h.nodes, h.links, h.blocks, fun _ he => he, (List.nodup_cons.1 (List.nodup_cons.1 h.blocks).2).2, h.map⟩
theorem Part.ring_blocks {w : World} {b mb : Nat} {most : Int} {R N M : List Ent} (h : Part w b mb most R N M) : (b :: mb :: R.map (·.blk)).Nodup := by
  have h1 := List.nodup_cons.1 h.blocks
  have h2 := List.nodup_cons.1 h1.2
  have hs : ∀ x, x ∈ R.map (·.blk) → x ∈ N.map (·.blk) := by
    intro x hx
    obtain ⟨e, he, rfl⟩ := List.mem_map.1 hx
    exact List.mem_map_of_mem (h.sub e he)
  refine List.nodup_cons.2 ⟨?_, List.nodup_cons.2 ⟨fun hm => h2.1 (hs _ hm), h.own⟩⟩
  intro hm
  rcases List.mem_cons.1 hm with rfl | hm
  · exact h1.1 (by simp)
  · exact h1.1 (List.mem_cons_of_mem _ (hs _ hm))
theorem Part.cells {w : World} {b mb : Nat} {most : Int} {R N M : List Ent} (h : Part w b mb most R N M) {x : Addr} (hx : x ∈ ring b R) : (∃ u, w.cell? (fa x 2) = some u) ∧ (∃ u, w.cell? (fa x 3) = some u) ∧ w.frozen? (fa x 2) = false ∧ w.frozen? (fa x 3) = false := by
  rcases ring_mem hx with rfl | ⟨e, he, rfl⟩
  · exact ⟨h.head.some.1, h.head.some.2, h.head.frozen _ rfl, h.head.frozen _ rfl⟩
  · have hn := h.nodes e (h.sub e he)
    exact ⟨hn.some.1, hn.some.2, hn.frozen _ rfl, hn.frozen _ rfl⟩
theorem links_drewN {w : World} {n : Nat} {L : List Addr} (h : Links w L) : Links (w.drewN n) L := h.move (fun _ _ => drewN_cell _ _ _) (fun _ _ => drewN_cell _ _ _)
theorem node_drewN {w : World} {n T k : Nat} {key : ByteArray} {v : Value} (h : NodeAt T w k key v) : NodeAt T (w.drewN n) k key v := h
theorem head_drewN {w : World} {n T b mb : Nat} {most : Int} (h : HeadAt T w b most mb) : HeadAt T (w.drewN n) b most mb := h
theorem setCell_heap {w : World} {a : Addr} {u : Value} {k : Nat} (h : k ≠ a.block) : (w.setCell a u).heap[k]? = w.heap[k]? := Below.heap_setCell w a u k h
theorem ring_block {b mb : Nat} {E : List Ent} (h : (b :: mb :: E.map (·.blk)).Nodup) {x : Addr} (hx : x ∈ ring b E) : x.block ≠ mb := by
  have h1 := List.nodup_cons.1 h
  have h2 := List.nodup_cons.1 h1.2
  rcases ring_mem hx with rfl | ⟨e, he, rfl⟩
  · rintro rfl
    exact h1.1 (by simp [rg])
  · rintro rfl
    exact h2.1 (List.mem_map_of_mem (f := (·.blk)) he)
theorem ring_foot {b mb : Nat} {E : List Ent} {x : Addr} (hx : x ∈ ring b E) : foot b mb E x.block := by
  rcases ring_mem hx with rfl | ⟨e, he, rfl⟩
  · exact .inl rfl
  · exact .inr (.inr ⟨e, he, rfl⟩)
theorem fh {w : World} {p : Addr} {d k : Nat} {u : Value} (h : p.block ≠ k) : (w.setCell (fa p d) u).heap[k]? = w.heap[k]? := Below.heap_setCell w _ u k (fun c => h c.symm)
theorem Turn.setFa {F : Nat → Prop} {w : World} {p : Addr} {d : Nat} {u : Value} (h : F p.block) : Turn F w (w.setCell (fa p d) u) := Turn.setCell w (a := fa p d) h u
theorem Turn.outW {F : Nat → Prop} {w : World} {p q : Addr} (hp : F p.block) (hq : F q.block) (n : Nat) : Turn F w ((outW w p q).drewN n) := (Turn.trans (Turn.setFa hp) (Turn.setFa hq)).trans (Turn.drewN _ _)
theorem Turn.intoW {F : Nat → Prop} {w : World} {o n f : Addr} (ho : F o.block) (hn : F n.block) (hf : F f.block) (m : Nat) : Turn F w ((intoW w o n f).drewN m) :=
  (((Turn.trans (Turn.setFa hn) (Turn.setFa hn)).trans (Turn.setFa hf)).trans (Turn.setFa ho)).trans (Turn.drewN _ _)
theorem outW_heap {w : World} {p q : Addr} {k : Nat} (hp : p.block ≠ k) (hq : q.block ≠ k) (n : Nat) : ((outW w p q).drewN n).heap[k]? = w.heap[k]? := by
  rw [drewN_heap]
  exact (fh hq).trans (fh hp)
theorem intoW_heap {w : World} {o n f : Addr} {k : Nat} (ho : o.block ≠ k) (hn : n.block ≠ k) (hf : f.block ≠ k) (m : Nat) : ((intoW w o n f).drewN m).heap[k]? = w.heap[k]? := by
  rw [drewN_heap]
  exact (fh ho).trans ((fh hf).trans ((fh hn).trans (fh hn)))
theorem outW_size {w : World} {p q : Addr} (n : Nat) : ((outW w p q).drewN n).heap.size = w.heap.size := by
  rw [drewN_heap]
  unfold Lru.outW
  simp
theorem intoW_size {w : World} {o n f : Addr} (m : Nat) : ((intoW w o n f).drewN m).heap.size = w.heap.size := by
  rw [drewN_heap]
  unfold Lru.intoW
  simp
/-- A node of a list is taken out of its ring. -/
theorem Lru.out {w : World} {b mb : Nat} {most : Int} {A B : List Ent} {e : Ent} (h : Lru w b mb most (A ++ e :: B)) :
    ∃ pb po qb qo, w.cell? ⟨e.blk, 0 + 3, none⟩ = some (.pointer (some ⟨pb, po, none⟩)) ∧ w.cell? ⟨e.blk, 0 + 2, none⟩ = some (.pointer (some ⟨qb, qo, none⟩)) ∧ (∃ u, w.cell? ⟨pb, po + 2, none⟩ = some u) ∧ (∃ u, w.cell? ⟨qb, qo + 3, none⟩ = some u) ∧
      w.frozen? ⟨pb, po + 2, none⟩ = false ∧ w.frozen? ⟨qb, qo + 3, none⟩ = false ∧
      ∀ nd, Part ((outW w ⟨pb, po, none⟩ ⟨qb, qo, none⟩).drewN nd) b mb most (A ++ B) (A ++ e :: B) (A ++ e :: B) ∧ Turn (foot b mb (A ++ e :: B)) w ((outW w ⟨pb, po, none⟩ ⟨qb, qo, none⟩).drewN nd) ∧ ((outW w ⟨pb, po, none⟩ ⟨qb, qo, none⟩).drewN nd).heap.size = w.heap.size := by
  obtain ⟨A', p, q, B', h1, h2⟩ := split_ring b A B e
  have hl := h.links
  have hsp := ring_spot (b := b) (E := A ++ e :: B)
  have hap := ring_apart h.blocks
  have hfr := ring_from h.blocks
  have hto := ring_to h.blocks
  have mp : p ∈ ring b (A ++ e :: B) := by rw [h1]; simp
  have mq : q ∈ ring b (A ++ e :: B) := by rw [h1]; simp
  have cp := h.cells mp
  have cq := h.cells mq
  have bp := ring_block h.blocks mp
  have bq := ring_block h.blocks mq
  have fp := ring_foot (mb := mb) mp
  have fq := ring_foot (mb := mb) mq
  have sp := hsp p mp
  have sq := hsp q mq
  have hout := fun (h' : Links w (ring b (A ++ e :: B))) => by
    rw [h1] at h' hap hsp hfr hto
    exact h'.out hap hsp hfr hto
  have hL := hout hl
  rw [← h2] at hL
  rw [h1, Links.append] at hl
  obtain ⟨pb, po, ps⟩ := p
  obtain ⟨qb, qo, qs⟩ := q
  simp only at sp sq
  subst sp
  subst sq
  refine ⟨pb, po, qb, qo, hl.2.1.2, hl.2.2.1.1, cp.1, cq.2.1, cp.2.2.1, cq.2.2.2, fun nd => ⟨⟨?_, ?_, links_drewN hL, h.blocks, ?_, ?_, ?_⟩, ?_, ?_⟩⟩
  · exact head_drewN ((h.head.setCell (Nat.le_add_left 2 _) rfl _).setCell (Nat.le_trans (by decide) (Nat.le_add_left 3 _)) rfl _)
  · intro x hx
    exact node_drewN (((h.nodes x hx).setCell (Nat.le_add_left 2 _) rfl _).setCell (Nat.le_trans (by decide) (Nat.le_add_left 3 _)) rfl _)
  · intro x hx
    rw [List.mem_append] at hx ⊢
    exact hx.imp id (List.mem_cons_of_mem _)
  · have := (List.nodup_cons.1 (List.nodup_cons.1 h.blocks).2).2
    refine List.Nodup.sublist ?_ this
    exact List.Sublist.map _ (List.Sublist.append_left (List.sublist_cons_self _ _) _)
  · exact h.map.kept (outW_heap bp bq nd)
  · exact Turn.outW fp fq nd
  · exact outW_size nd
/-- A node that is in no ring is put ahead in a list's. -/
theorem Part.into {w : World} {b mb : Nat} {most : Int} {R N M : List Ent} (h : Part w b mb most R N M) {e : Ent} (he : e ∈ N) (hn : ∀ x ∈ R, x.blk ≠ e.blk) :
    ∃ fb fo, w.cell? ⟨b, 2 + 2, none⟩ = some (.pointer (some ⟨fb, fo, none⟩)) ∧ (∃ u, w.cell? ⟨e.blk, 0 + 2, none⟩ = some u) ∧ (∃ u, w.cell? ⟨e.blk, 0 + 3, none⟩ = some u) ∧ (∃ u, w.cell? ⟨fb, fo + 3, none⟩ = some u) ∧ e.blk ≠ b ∧ e.blk ≠ fb ∧
      w.frozen? ⟨e.blk, 0 + 2, none⟩ = false ∧ w.frozen? ⟨e.blk, 0 + 3, none⟩ = false ∧ w.frozen? ⟨fb, fo + 3, none⟩ = false ∧ w.frozen? ⟨b, 2 + 2, none⟩ = false ∧
      ∀ nd', Part ((intoW w (rg b) (nd e.blk) ⟨fb, fo, none⟩).drewN nd') b mb most (e :: R) N M ∧ Turn (foot b mb N) w ((intoW w (rg b) (nd e.blk) ⟨fb, fo, none⟩).drewN nd') ∧ ((intoW w (rg b) (nd e.blk) ⟨fb, fo, none⟩).drewN nd').heap.size = w.heap.size := by
  have hrb := h.ring_blocks
  obtain ⟨f, B, hB⟩ : ∃ f B, R.map (fun e => nd e.blk) ++ [rg b] = f :: B := by
    cases R with
    | nil => exact ⟨_, _, rfl⟩
    | cons x t => exact ⟨_, _, rfl⟩
  have hr : ring b R = rg b :: f :: B := by unfold ring; rw [hB]
  have hr' : ring b (e :: R) = rg b :: nd e.blk :: f :: B := by
    unfold ring
    rw [List.map_cons, List.cons_append, hB]
  have h1 := List.nodup_cons.1 h.blocks
  have h2 := List.nodup_cons.1 h1.2
  have eb : e.blk ≠ b := fun c => h1.1 (List.mem_cons_of_mem _ (c ▸ List.mem_map_of_mem he))
  have em : e.blk ≠ mb := fun c => h2.1 (c ▸ List.mem_map_of_mem he)
  have hown : ((e :: R).map (·.blk)).Nodup := by
    rw [List.map_cons, List.nodup_cons]
    refine ⟨fun hm => ?_, h.own⟩
    obtain ⟨x, hx, c⟩ := List.mem_map.1 hm
    exact hn x hx c
  have hb2 : (b :: mb :: (e :: R).map (·.blk)).Nodup := by
    have r1 := List.nodup_cons.1 hrb
    have r2 := List.nodup_cons.1 r1.2
    refine List.nodup_cons.2 ⟨fun hm => ?_, List.nodup_cons.2 ⟨fun hm => ?_, hown⟩⟩
    · rcases List.mem_cons.1 hm with c | hm
      · exact r1.1 (by simp [c])
      · rcases List.mem_cons.1 hm with c | hm
        · exact eb c.symm
        · exact r1.1 (List.mem_cons_of_mem _ hm)
    · rcases List.mem_cons.1 hm with c | hm
      · exact em c.symm
      · exact r2.1 hm
  have hap := ring_apart hb2
  have hsp := ring_spot (b := b) (E := e :: R)
  rw [hr'] at hap hsp
  have hfr := ring_from hrb
  have hto := ring_to hrb
  have hl := h.links
  have mf : f ∈ ring b R := by rw [hr]; simp
  have cf := h.cells mf
  have cb := h.cells (x := rg b) (by rw [hr]; simp)
  have cn := h.nodes e he
  have bf := ring_block hrb mf
  have ff : foot b mb N f.block := by
    rcases ring_mem mf with rfl | ⟨x, hx, rfl⟩
    · exact .inl rfl
    · exact .inr (.inr ⟨x, h.sub x hx, rfl⟩)
  have hnm : nd e.blk ∉ ring b R := by
    intro hm
    rcases ring_mem hm with c | ⟨x, hx, c⟩
    · exact eb (congrArg Addr.block c)
    · exact hn x hx (congrArg Addr.block c).symm
  have enf : e.blk ≠ f.block := by
    rcases ring_mem mf with rfl | ⟨x, hx, rfl⟩
    · exact eb
    · exact fun c => hn x hx c.symm
  rw [hr] at hfr hto hl hnm
  have perm : ∀ x, x ∈ nd e.blk :: rg b :: f :: B → x ∈ rg b :: nd e.blk :: f :: B := by
    intro x hx
    simp only [List.mem_cons] at hx ⊢
    rcases hx with h | h | h
    · exact .inr (.inl h)
    · exact .inl h
    · exact .inr (.inr h)
  have hL := hl.into (n := nd e.blk) (fun x hx y hy => hap x (perm x hx) y (perm y hy)) (fun x hx => hsp x (perm x hx)) hfr hto hnm cn.some.1 cn.some.2
  have sf : f.spot = none := hsp f (by simp)
  obtain ⟨fb, fo, fs⟩ := f
  simp only at sf
  subst sf
  have o3 : ∀ p : Addr, 2 ≤ (fa p 3).off := fun p => Nat.le_trans (by decide) (Nat.le_add_left 3 _)
  have o2 : ∀ p : Addr, 2 ≤ (fa p 2).off := fun p => Nat.le_add_left 2 _
  refine ⟨fb, fo, hl.1.1, cn.some.1, cn.some.2, cf.2.1, eb, enf, cn.frozen _ rfl, cn.frozen _ rfl, cf.2.2.2, cb.2.2.1, fun n' => ⟨⟨?_, ?_, ?_, h.blocks, ?_, hown, ?_⟩, ?_, ?_⟩⟩
  · exact head_drewN ((((h.head.setCell (o3 _) rfl _).setCell (o2 _) rfl _).setCell (o3 _) rfl _).setCell (o2 _) rfl _)
  · intro x hx
    exact node_drewN (((((h.nodes x hx).setCell (o3 _) rfl _).setCell (o2 _) rfl _).setCell (o3 _) rfl _).setCell (o2 _) rfl _)
  · rw [hr']
    exact links_drewN hL
  · intro x hx
    rcases List.mem_cons.1 hx with rfl | hx
    · exact he
    · exact h.sub x hx
  · exact h.map.kept (intoW_heap (o := rg b) (n := nd e.blk) (fun c => h1.1 (by rw [show b = mb from c]; simp)) em bf n')
  · exact Turn.intoW (o := rg b) (n := nd e.blk) (.inl rfl) (.inr (.inr ⟨e, he, rfl⟩)) ff n'
  · exact intoW_size n'
end Go.Proofs.Ytfmaoaigljjhgaa.Lru
