/- What the calls Drop, Look, Get, Len of an lru list answer, and what they leave. -/
import Derived.Test.YtfmaoaigljjhgaaLru3
namespace Go.Proofs.Ytfmaoaigljjhgaa.Lru
open Go Go.RowKit Go.Maps Go.Proofs.YtfmaoaigljjhgaaW.PrintWords

theorem keys_nodup_drop {s : ByteArray} {E : List Ent} (h : (E.map (·.key)).Nodup) : ((dropK s E).map (·.key)).Nodup := by
  refine List.Nodup.sublist ?_ h
  exact List.Sublist.map _ List.filter_sublist
theorem foot_sub {b mb : Nat} {E E' : List Ent} (h : ∀ e ∈ E', e ∈ E) {k : Nat} (hk : foot b mb E' k) : foot b mb E k := by
  rcases hk with h1 | h1 | ⟨e, he, h1⟩
  · exact .inl h1
  · exact .inr (.inl h1)
  · exact .inr (.inr ⟨e, h e he, h1⟩)
theorem Part.lt {w : World} {b mb : Nat} {most : Int} {R N M : List Ent} (h : Part w b mb most R N M) {k : Nat} (hk : foot b mb N k) : k < w.heap.size := by
  rcases hk with rfl | rfl | ⟨e, he, rfl⟩
  · obtain ⟨_, _, _, _, hh⟩ := h.head
    exact (Array.getElem?_eq_some_iff.1 hh).1
  · exact h.map.lt
  · obtain ⟨_, _, hh⟩ := h.nodes e he
    exact (Array.getElem?_eq_some_iff.1 hh).1
/-- Where none of its blocks but the map's has turned. -/
theorem Part.mapStep {w w' : World} {b mb : Nat} {most : Int} {R N M M' : List Ent} (h : Part w b mb most R N M) (hg : w.grownBy w' (some mb)) (hm : MapIs w' mb M') : Part w' b mb most R N M' := by
  have h1 := List.nodup_cons.1 h.blocks
  have h2 := List.nodup_cons.1 h1.2
  have hb : w'.heap[b]? = w.heap[b]? := hg.block b (h.lt (.inl rfl)) (fun c => h1.1 (by injection c with c; rw [c]; simp))
  have hn : ∀ e ∈ N, w'.heap[e.blk]? = w.heap[e.blk]? := fun e he => hg.block _ (h.lt (.inr (.inr ⟨e, he, rfl⟩))) (fun c => h2.1 (by injection c with c; rw [← c]; exact List.mem_map_of_mem he))
  refine ⟨?_, ?_, ?_, h.blocks, h.sub, h.own, hm⟩
  · obtain ⟨r0, r1, x, y, e⟩ := h.head
    exact ⟨r0, r1, x, y, hb.trans e⟩
  · intro e he
    obtain ⟨x, y, q⟩ := h.nodes e he
    exact ⟨x, y, (hn e he).trans q⟩
  · refine links_heap h.links fun x hx => ?_
    rcases ring_mem hx with rfl | ⟨e, he, rfl⟩
    · exact hb
    · exact hn e (h.sub e he)
theorem Part.lru {w : World} {b mb : Nat} {most : Int} {R N : List Ent} (h : Part w b mb most R N R) (hk : (R.map (·.key)).Nodup) : Lru w b mb most R :=
  ⟨h.head, fun e he => h.nodes e (h.sub e he), h.links, h.ring_blocks, hk, h.map⟩
set_option maxHeartbeats 4000000 in
set_option maxRecDepth 100000 in
theorem Drop_hit {w : World} {b mb : Nat} {most : Int} {E : List Ent} (h : Lru w b mb most E) (s : ByteArray) (hs : s.size ≤ maxLen) (hh : hasK s E = true) :
    Calls Try.prog 19 #[.pointer (some ⟨b, 0, none⟩), .string s] w fun e w' => e = .returned (.bool true) ∧ Lru w' b mb most (dropK s E) ∧ Turn (foot b mb E) w w' ∧ w'.heap.size = w.heap.size := by
  obtain ⟨A, x, B, rfl, hx⟩ := split_at hh
  have hd := dropK_mid h.keys hx
  obtain ⟨pb, po, qb, qo, h3, h2, hp, hq, fp, fq, hpart⟩ := h.out
  have hc := h.head.keys
  have hm := h.map
  have HH := Aside0.mk h
  have HP := Aside0.mk hpart
  have HD := Aside0.mk hd
  have hbl : w.cell? ⟨x.blk, 0 + 3, none⟩ = some (.pointer (some ⟨pb, po, none⟩)) ∧ w.cell? ⟨x.blk, 0 + 2, none⟩ = some (.pointer (some ⟨qb, qo, none⟩)) ∧ (∃ u, w.cell? ⟨pb, po + 2, none⟩ = some u) ∧ (∃ u, w.cell? ⟨qb, qo + 3, none⟩ = some u) ∧ w.frozen? ⟨pb, po + 2, none⟩ = false ∧ w.frozen? ⟨qb, qo + 3, none⟩ = false := ⟨h3, h2, hp, hq, fp, fq⟩
  have HB := Aside0.mk hbl
  have HX := Aside0.mk hx
  have HK := Aside0.mk hh
  clear h hpart hd h3 h2 hp hq fp fq hbl hx hh
  go_enter Try.func19, Try.ntmps19
  go_wp2_with (first
    | (at_lookup; refine wp_look_hit _ rfl _ _ rfl mb _ rfl hm s hs rfl x (by simp) HX.out ?_; (try simp only [nd]))
    | (at_delete; refine wp_delete _ rfl _ _ rfl mb _ rfl hm1 s hs rfl HH.out.keys HK.out ?_; intro w2 hm2 hg2 hz2)
    | (go_at_call 37; (with_reducible refine (out_calls w x.blk 0 pb po qb qo HB.out.1 HB.out.2.1 HB.out.2.2.1 HB.out.2.2.2.1 HB.out.2.2.2.2.1 HB.out.2.2.2.2.2).mono ?_); rintro e w1 ⟨⟨v, rfl⟩, n, hw⟩; have HW := Aside0.mk (HP.out n); rw [← hw] at HW; clear hw; have hm1 := HW.out.1.map; have hc1 := HW.out.1.head.keys))
  go_ret
  have hd := HD.out
  rw [hd] at hm2 ⊢
  have hW := HW.out
  refine ⟨rfl, (hW.1.mapStep hg2 hm2).lru ?_, hW.2.1.trans (Turn.grown hg2 (.inr (.inl rfl))), hz2.trans hW.2.2⟩
  rw [← hd]
  exact keys_nodup_drop HH.out.keys
set_option maxHeartbeats 4000000 in
set_option maxRecDepth 100000 in
theorem Drop_miss {w : World} {b mb : Nat} {most : Int} {E : List Ent} (h : Lru w b mb most E) (s : ByteArray) (hs : s.size ≤ maxLen) (hh : hasK s E = false) :
    Calls Try.prog 19 #[.pointer (some ⟨b, 0, none⟩), .string s] w fun e w' => e = .returned (.bool false) ∧ Drawn0 w w' := by
  have hc := h.head.keys
  have hm := h.map
  have HK := Aside0.mk hh
  clear h hh
  go_enter Try.func19, Try.ntmps19
  go_wp2_with (at_lookup; refine wp_look_miss _ rfl _ _ rfl mb _ rfl hm s hs rfl HK.out ?_)
  go_ret
  exact ⟨rfl, 0, rfl⟩
theorem Drop_calls {w : World} {b mb : Nat} {most : Int} {E : List Ent} (h : Lru w b mb most E) (s : ByteArray) (hs : s.size ≤ maxLen) :
    Calls Try.prog 19 #[.pointer (some ⟨b, 0, none⟩), .string s] w fun e w' => e = .returned (.bool (hasK s E)) ∧ Lru w' b mb most (dropK s E) ∧ Turn (foot b mb E) w w' ∧ w'.heap.size = w.heap.size := by
  cases hh : hasK s E with
  | true => exact Drop_hit h s hs hh
  | false =>
    refine (Drop_miss h s hs hh).mono ?_
    rintro e w' ⟨rfl, n, rfl⟩
    rw [dropK_none hh]
    exact ⟨rfl, h.keep fun k _ => by rw [drewN_heap], Turn.drewN _ _, by rw [drewN_heap]⟩
def findK (s : ByteArray) (E : List Ent) : Option Ent := E.find? fun e => decide (e.key = s)
theorem findK_none {s : ByteArray} {E : List Ent} (h : hasK s E = false) : findK s E = none := by
  unfold findK
  rw [List.find?_eq_none]
  intro e he
  simpa using hasK_false.1 h e he
theorem findK_mid {s : ByteArray} {A B : List Ent} {e : Ent} (hn : ((A ++ e :: B).map (·.key)).Nodup) (he : e.key = s) : findK s (A ++ e :: B) = some e := by
  unfold findK
  rw [List.find?_append, List.find?_cons, decide_eq_true he]
  rw [List.map_append, List.map_cons, List.nodup_append] at hn
  have : A.find? (fun e => decide (e.key = s)) = none := by
    rw [List.find?_eq_none]
    intro x hx
    have := hn.2.2 x.key (List.mem_map_of_mem hx) e.key (by simp)
    rw [he] at this
    simpa using this
  rw [this]
  rfl
set_option maxHeartbeats 4000000 in
set_option maxRecDepth 100000 in
theorem Look_hit {w : World} {b mb : Nat} {most : Int} {E : List Ent} (h : Lru w b mb most E) (s : ByteArray) (hs : s.size ≤ maxLen) (x : Ent) (hx : x ∈ E) (hxs : x.key = s) :
    Calls Try.prog 14 #[.pointer (some ⟨b, 0, none⟩), .string s] w fun e w' => e = .returned (.tuple #[vl x.val, .bool true]) ∧ Drawn0 w w' := by
  have hc := h.head.keys
  have hm := h.map
  have hv := (h.nodes x hx).val
  have HX := Aside0.mk hx
  have HS := Aside0.mk hxs
  clear h hx hxs
  unfold vl at hv ⊢
  go_enter Try.func14, Try.ntmps14
  go_wp2_with (at_lookup; refine wp_look_hit _ rfl _ _ rfl mb _ rfl hm s hs rfl x HX.out HS.out ?_; (try simp only [nd]))
  go_ret2
  exact ⟨rfl, 0, rfl⟩
set_option maxHeartbeats 4000000 in
set_option maxRecDepth 100000 in
theorem Look_miss {w : World} {b mb : Nat} {most : Int} {E : List Ent} (h : Lru w b mb most E) (s : ByteArray) (hs : s.size ≤ maxLen) (hh : hasK s E = false) :
    Calls Try.prog 14 #[.pointer (some ⟨b, 0, none⟩), .string s] w fun e w' => e = .returned (.tuple #[vl 0, .bool false]) ∧ Drawn0 w w' := by
  have hc := h.head.keys
  have hm := h.map
  have HK := Aside0.mk hh
  clear h hh
  unfold vl
  go_enter Try.func14, Try.ntmps14
  go_wp2_with (at_lookup; refine wp_look_miss _ rfl _ _ rfl mb _ rfl hm s hs rfl HK.out ?_)
  go_ret2
  exact ⟨rfl, 0, rfl⟩
/-- A value, and whether there is one. -/
def lookK (s : ByteArray) (E : List Ent) : Int × Bool := match findK s E with
  | some e => (e.val, true)
  | none => (0, false)
theorem Look_calls {w : World} {b mb : Nat} {most : Int} {E : List Ent} (h : Lru w b mb most E) (s : ByteArray) (hs : s.size ≤ maxLen) :
    Calls Try.prog 14 #[.pointer (some ⟨b, 0, none⟩), .string s] w fun e w' => e = .returned (.tuple #[vl (lookK s E).1, .bool (lookK s E).2]) ∧ Drawn0 w w' := by
  unfold lookK
  cases hh : hasK s E with
  | true =>
    obtain ⟨A, x, B, rfl, hx⟩ := split_at hh
    rw [findK_mid h.keys hx]
    exact Look_hit h s hs x (by simp) hx
  | false =>
    rw [findK_none hh]
    exact Look_miss h s hs hh
theorem lookK_has (s : ByteArray) (E : List Ent) : (lookK s E).2 = hasK s E := by
  unfold lookK findK hasK
  cases h : E.find? (fun e => decide (e.key = s)) with
  | none =>
    rw [List.find?_eq_none] at h
    symm
    rw [List.any_eq_false]
    exact h
  | some e =>
    symm
    rw [List.any_eq_true]
    exact ⟨e, List.mem_of_find?_eq_some h, List.find?_some (p := fun e : Ent => decide (e.key = s)) h⟩
set_option maxHeartbeats 4000000 in
set_option maxRecDepth 100000 in
theorem Len_calls {w : World} {b mb : Nat} {most : Int} {E : List Ent} (h : Lru w b mb most E) :
    Calls Try.prog 17 #[.pointer (some ⟨b, 0, none⟩)] w fun e w' => e = .returned (.int .i64 (E.length : Int)) ∧ Drawn0 w w' := by
  have hc := h.head.keys
  have hm := h.map
  clear h
  go_enter Try.func17, Try.ntmps17
  go_wp2_with (at_len; refine wp_len _ rfl _ rfl mb _ rfl hm ?_)
  go_ret
  exact ⟨rfl, 0, rfl⟩
end Go.Proofs.Ytfmaoaigljjhgaa.Lru
