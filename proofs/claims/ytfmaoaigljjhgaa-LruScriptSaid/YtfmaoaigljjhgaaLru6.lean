/- What the calls New and Put of an lru list answer, and what they leave. -/
import Derived.Test.YtfmaoaigljjhgaaLru5
namespace Go.Proofs.Ytfmaoaigljjhgaa.Lru
open Go Go.RowKit Go.Maps Go.Proofs.YtfmaoaigljjhgaaW.PrintWords

theorem Below_new (w : World) (o : Obj) : (w.alloc o).heap[w.heap.size]? = some o := (MapKept.heap_alloc w o).1
set_option maxHeartbeats 4000000 in
set_option maxRecDepth 100000 in
theorem New_calls (w : World) (m : Int) :
    Calls Try.prog 10 #[.int .i64 m] w fun e w' => e = .returned (.pointer (some ⟨w.heap.size, 0, none⟩)) ∧ Lru w' w.heap.size (w.heap.size + 1) (if 0 < m then m else 0) [] ∧ Below w.heap.size w w' ∧ w'.heap.size = w.heap.size + 2 := by
  go_enter Try.func10, Try.ntmps10
  go_wp2_with (go_at_call 33; (with_reducible refine (Clear_raw (w := w.alloc _) (b := w.heap.size) (Below_new w _)).mono ?_); rintro e w1 ⟨⟨v, rfl⟩, hl, ht, hz⟩; have HL := Aside0.mk hl; have HT := Aside0.mk ht; have HZ := Aside0.mk hz; clear hl ht hz)
  all_goals go_ret
  all_goals refine ⟨rfl, ?_, ?_, ?_⟩
  any_goals (have := HL.out; first | (rw [if_pos (by omega)] at this; simpa using this) | (rw [if_neg (by omega)] at this; simpa using this))
  all_goals first
  | exact (Turn.below (B := w.heap.size) (w := w) (F := fun _ => False) ⟨HT.out.os, HT.out.tape, HT.out.output, by have := HZ.out; simp at this; omega, fun k hk _ => (HT.out.block k (by simp; omega) (by omega)).trans (Below.heap_alloc _ _ _ hk)⟩ (fun k hk => hk.elim) (Nat.le_refl _))
  | (have := HZ.out
     simpa using this)
set_option maxHeartbeats 4000000 in
set_option maxRecDepth 100000 in
theorem Put_full {w : World} {b mb : Nat} {E : List Ent} (h : Lru w b mb 0 E) (s : ByteArray) (v : Int) :
    Calls Try.prog 11 #[.pointer (some ⟨b, 0, none⟩), .string s, vl v] w fun e w' => e = .returned (.tuple #[.string ⟨#[]⟩, .bool false, .int .i64 10]) ∧ Drawn0 w w' := by
  have hc := h.head.most
  clear h
  unfold vl
  go_enter Try.func11, Try.ntmps11
  go_wp2
  go_ret3
  exact ⟨rfl, 0, rfl⟩
def putK (blk : Nat) (s : ByteArray) (v : Int) (E : List Ent) : List Ent := ⟨blk, s, v⟩ :: dropK s E
theorem putK_keys {blk : Nat} {s : ByteArray} {v : Int} {E : List Ent} (h : (E.map (·.key)).Nodup) : ((putK blk s v E).map (·.key)).Nodup := by
  unfold putK
  rw [List.map_cons, List.nodup_cons]
  refine ⟨fun hm => ?_, keys_nodup_drop h⟩
  obtain ⟨e, he, c⟩ := List.mem_map.1 hm
  exact hasK_false.1 (hasK_dropK s E) e he c
/-- A new block is no list's. -/
theorem Lru.fresh {w : World} {b mb : Nat} {most : Int} {E : List Ent} (h : Lru w b mb most E) (s : ByteArray) (v : Int) :
    Part (w.alloc (.cells #[.string s, vl v, .pointer none, .pointer none] NT (0, 0))) b mb most E (⟨w.heap.size, s, v⟩ :: E) E := by
  have hk := fun k (hk : foot b mb E k) => h.lt hk
  have hl := h.keep (w' := w.alloc (.cells #[.string s, vl v, .pointer none, .pointer none] NT (0, 0))) fun k hf => Below.heap_alloc _ _ _ (hk k hf)
  refine ⟨hl.head, ?_, hl.links, ?_, fun e he => List.mem_cons_of_mem _ he, hl.part.own, hl.map⟩
  · intro e he
    rcases List.mem_cons.1 he with rfl | he
    · exact ⟨_, _, Below_new w _⟩
    · exact hl.nodes e he
  · have h1 := List.nodup_cons.1 h.blocks
    have h2 := List.nodup_cons.1 h1.2
    have b1 := hk b (.inl rfl)
    have b2 := hk mb (.inr (.inl rfl))
    have b3 : w.heap.size ∉ E.map (·.blk) := by
      intro hm
      obtain ⟨e, he, c⟩ := List.mem_map.1 hm
      have := hk e.blk (.inr (.inr ⟨e, he, rfl⟩))
      omega
    rw [List.map_cons]
    refine List.nodup_cons.2 ⟨?_, List.nodup_cons.2 ⟨?_, List.nodup_cons.2 ⟨b3, h2.2⟩⟩⟩
    · intro hm
      rcases List.mem_cons.1 hm with c | hm
      · exact h1.1 (by simp [c])
      · rcases List.mem_cons.1 hm with c | hm
        · simp only at c
          omega
        · exact h1.1 (List.mem_cons_of_mem _ hm)
    · intro hm
      rcases List.mem_cons.1 hm with c | hm
      · simp only at c
        omega
      · exact h2.1 hm
/-- What stands behind a put, ahead of the bound's test. -/
theorem put_steps {w w1 w3 w4 : World} {b mb : Nat} {most : Int} {E : List Ent} {s : ByteArray} {v : Int} {o : Obj} (h : Lru w b mb most E) (t1 : Turn (foot b mb E) w w1) (z1 : w1.heap.size = w.heap.size)
    (p3 : Turn (foot b mb (⟨w1.heap.size, s, v⟩ :: dropK s E)) (w1.alloc o) w3 ∧ w3.heap.size = (w1.alloc o).heap.size) (g4 : w3.grownBy w4 (some mb)) (z4 : w4.heap.size = w3.heap.size)
    (p4 : Part w4 b mb most (⟨w1.heap.size, s, v⟩ :: dropK s E) (⟨w1.heap.size, s, v⟩ :: dropK s E) (⟨w1.heap.size, s, v⟩ :: dropK s E)) (n : Nat) :
    Lru (w4.drewN n) b mb most (putK w.heap.size s v E) ∧ Turn (foot b mb E) w (w4.drewN n) ∧ (w4.drewN n).heap.size = w.heap.size + 1 := by
  rw [z1] at p3 p4
  refine ⟨?_, ?_, ?_⟩
  · have := p4.lru (putK_keys h.keys)
    exact this.keep fun k _ => by rw [drewN_heap]
  · refine Turn.next t1 (Turn.trans (Turn.alloc w1 o) (Turn.trans p3.1 (Turn.trans (Turn.grown g4 (.inr (.inl rfl))) (Turn.drewN _ n)))) ?_
    intro i hi hg
    rcases hg with h1 | h1 | ⟨e, he, h1⟩
    · exact .inl h1
    · exact .inr (.inl h1)
    · rcases List.mem_cons.1 he with rfl | he
      · simp only at h1
        omega
      · exact .inr (.inr ⟨e, (List.mem_filter.1 he).1, h1⟩)
  · rw [drewN_heap, z4, p3.2]
    simp
    exact z1
theorem Lru.last {w : World} {b mb : Nat} {most : Int} {F : List Ent} {z : Ent} (h : Lru w b mb most (F ++ [z])) : w.cell? ⟨b, 2 + 3, none⟩ = some (.pointer (some ⟨z.blk, 0, none⟩)) ∧ w.cell? ⟨z.blk, 0, none⟩ = some (.string z.key) := by
  refine ⟨?_, (h.nodes z (by simp)).key⟩
  have hl := h.links
  have e : ring b (F ++ [z]) = (rg b :: F.map (fun e => nd e.blk)) ++ nd z.blk :: [rg b] := by
    unfold ring
    simp
  rw [e, Links.append] at hl
  exact hl.2.1.2
set_option maxHeartbeats 8000000 in
set_option maxRecDepth 100000 in
theorem Put_room {w : World} {b mb : Nat} {most : Int} {E : List Ent} (h : Lru w b mb most E) (s : ByteArray) (hs : s.size ≤ maxLen) (v : Int) (hmo : 1 ≤ most) (hl : (dropK s E).length + 1 < maxLen) (hle : ((putK w.heap.size s v E).length : Int) ≤ most) :
    Calls Try.prog 11 #[.pointer (some ⟨b, 0, none⟩), .string s, vl v] w fun e w' => e = .returned (.tuple #[.string ⟨#[]⟩, .bool false, .int .i64 0]) ∧ Lru w' b mb most (putK w.heap.size s v E) ∧ Turn (foot b mb E) w w' ∧ w'.heap.size = w.heap.size + 1 := by
  have hc := h.head.most
  have hdrop := Drop_calls h s hs
  have HL := Aside0.mk h
  have HD := Aside0.mk hdrop
  have HM := Aside0.mk hl
  have HE := Aside0.mk hle
  clear h hdrop hl hle
  have hm0 : ¬ most = 0 := by omega
  have HO := Aside0.mk hmo
  clear hmo
  unfold vl at *
  go_enter Try.func11, Try.ntmps11
  go_wp2_with (first
    | (at_mapUpdate; refine wp_store _ rfl _ _ _ rfl mb _ rfl hm3 s hs rfl w1.heap.size rfl v HM3.out HK3.out ?_; intro w4 hm4 hg4 hz4; have HP4 := Aside0.mk (HP3.out.1.mapStep hg4 hm4); have hc4 := HP4.out.head.keys; have hd4 := HP4.out.head.most; have HG4 := Aside0.mk hg4; have HZ4 := Aside0.mk hz4; clear hg4 hz4)
    | (go_at_call 19; (with_reducible refine (HD.out).mono ?_); rintro e w1 ⟨rfl, hl1, ht1, hz1⟩; have HL1 := Aside0.mk hl1; have HT1 := Aside0.mk ht1; have HZ1 := Aside0.mk hz1; clear hl1 ht1 hz1)
    | (go_at_call 35; have hF := HL1.out.fresh s v; unfold vl at hF; have HF := Aside0.mk hF; clear hF; obtain ⟨fb, fo, h2, hn2, hn3, hf, hno, hnf, f2, f3, ff, fo2, hpart⟩ := HF.out.into (e := ⟨w1.heap.size, s, v⟩) (by simp) (fun y hy => by have := HL1.out.lt (.inr (.inr ⟨y, hy, rfl⟩)); simp only; omega); (with_reducible refine (behind_calls _ w1.heap.size 0 b 2 fb fo h2 hn2 hn3 hf hno hnf f2 f3 ff fo2).mono ?_); have HQ := Aside0.mk hpart; clear h2 hn2 hn3 hf hno hnf f2 f3 ff fo2 hpart; rintro e w3 ⟨⟨v2, rfl⟩, n3, hw⟩; have HP3 := Aside0.mk (HQ.out n3); rw [show intoW (w1.alloc (.cells #[.string s, .int .i64 v, .pointer none, .pointer none] NT (0, 0))) (rg b) (nd (⟨w1.heap.size, s, v⟩ : Ent).blk) ⟨fb, fo, none⟩ = intoW (w1.alloc (.cells #[.string s, .int .i64 v, .pointer none, .pointer none] NT (0, 0))) ⟨b, 2, none⟩ ⟨w1.heap.size, 0, none⟩ ⟨fb, fo, none⟩ from rfl, ← hw] at HP3; clear hw HQ; have hm3 := HP3.out.1.map; have hc3 := HP3.out.1.head.keys; have HK3 := Aside0.mk (hasK_dropK s E); have HM3 : Aside0 ((dropK s E).length < maxLen) := ⟨by have := HM.out; omega⟩))
  obtain ⟨D, hDo, hDs, _⟩ := hm4
  rw [List.length_cons] at hDs
  have hrun := hDo.drew.len hmt 3
  rw [hDs] at hrun
  have hes : (((dropK s E).length + 1 : Nat) : Int) ≤ most := by
    have := HE.out
    unfold putK at this
    rw [List.length_cons] at this
    exact this
  clear hDs hDo
  (try simp only [Act.put])
  go_region
  all_goals go_wp2
  all_goals go_ret3
  all_goals exact ⟨rfl, put_steps HL.out HT1.out HZ1.out HP3.out.2 HG4.out HZ4.out HP4.out 1⟩
set_option maxHeartbeats 8000000 in
set_option maxRecDepth 100000 in
theorem Put_over {w : World} {b mb : Nat} {most : Int} {E : List Ent} (h : Lru w b mb most E) (s : ByteArray) (hs : s.size ≤ maxLen) (v : Int) (hmo : 1 ≤ most) (hl : (dropK s E).length + 1 < maxLen) (hle : most < ((putK w.heap.size s v E).length : Int)) (F : List Ent) (z : Ent) (hF : putK w.heap.size s v E = F ++ [z]) (hzk : z.key.size ≤ maxLen) :
    Calls Try.prog 11 #[.pointer (some ⟨b, 0, none⟩), .string s, vl v] w fun e w' => e = .returned (.tuple #[.string z.key, .bool true, .int .i64 0]) ∧ Lru w' b mb most F ∧ Turn (foot b mb E) w w' ∧ w'.heap.size = w.heap.size + 1 := by
  have hc := h.head.most
  have hdrop := Drop_calls h s hs
  have HL := Aside0.mk h
  have HD := Aside0.mk hdrop
  have HM := Aside0.mk hl
  have HE := Aside0.mk hle
  have HFZ := Aside0.mk hF
  have HZK := Aside0.mk hzk
  clear h hdrop hl hle hF hzk
  have hm0 : ¬ most = 0 := by omega
  have HO := Aside0.mk hmo
  clear hmo
  unfold vl at *
  go_enter Try.func11, Try.ntmps11
  go_wp2_with (first
    | (at_mapUpdate; refine wp_store _ rfl _ _ _ rfl mb _ rfl hm3 s hs rfl w1.heap.size rfl v HM3.out HK3.out ?_; intro w4 hm4 hg4 hz4; have HP4 := Aside0.mk (HP3.out.1.mapStep hg4 hm4); have hc4 := HP4.out.head.keys; have hd4 := HP4.out.head.most; have HG4 := Aside0.mk hg4; have HZ4 := Aside0.mk hz4; clear hg4 hz4)
    | (go_at_call 19; (with_reducible refine (HD.out).mono ?_); rintro e w1 ⟨rfl, hl1, ht1, hz1⟩; have HL1 := Aside0.mk hl1; have HT1 := Aside0.mk ht1; have HZ1 := Aside0.mk hz1; clear hl1 ht1 hz1)
    | (go_at_call 35; have hF := HL1.out.fresh s v; unfold vl at hF; have HF := Aside0.mk hF; clear hF; obtain ⟨fb, fo, h2, hn2, hn3, hf, hno, hnf, f2, f3, ff, fo2, hpart⟩ := HF.out.into (e := ⟨w1.heap.size, s, v⟩) (by simp) (fun y hy => by have := HL1.out.lt (.inr (.inr ⟨y, hy, rfl⟩)); simp only; omega); (with_reducible refine (behind_calls _ w1.heap.size 0 b 2 fb fo h2 hn2 hn3 hf hno hnf f2 f3 ff fo2).mono ?_); have HQ := Aside0.mk hpart; clear h2 hn2 hn3 hf hno hnf f2 f3 ff fo2 hpart; rintro e w3 ⟨⟨v2, rfl⟩, n3, hw⟩; have HP3 := Aside0.mk (HQ.out n3); rw [show intoW (w1.alloc (.cells #[.string s, .int .i64 v, .pointer none, .pointer none] NT (0, 0))) (rg b) (nd (⟨w1.heap.size, s, v⟩ : Ent).blk) ⟨fb, fo, none⟩ = intoW (w1.alloc (.cells #[.string s, .int .i64 v, .pointer none, .pointer none] NT (0, 0))) ⟨b, 2, none⟩ ⟨w1.heap.size, 0, none⟩ ⟨fb, fo, none⟩ from rfl, ← hw] at HP3; clear hw HQ; have hm3 := HP3.out.1.map; have hc3 := HP3.out.1.head.keys; have HK3 := Aside0.mk (hasK_dropK s E); have HM3 : Aside0 ((dropK s E).length < maxLen) := ⟨by have := HM.out; omega⟩))
  obtain ⟨D, hDo, hDs, _⟩ := hm4
  rw [List.length_cons] at hDs
  have hrun := hDo.drew.len hmt 3
  rw [hDs] at hrun
  have hes : ¬ (((dropK s E).length + 1 : Nat) : Int) ≤ most := by
    have := HE.out
    unfold putK at this
    rw [List.length_cons] at this
    omega
  clear hDs hDo
  (try simp only [Act.put])
  go_region
  have h5 := put_steps HL.out HT1.out HZ1.out HP3.out.2 HG4.out HZ4.out HP4.out 1
  rw [HFZ.out] at h5
  have H5 := Aside0.mk h5
  obtain ⟨c5, c6⟩ := h5.1.last
  have hl5 : Lru w4.drew b mb most (F ++ [z]) := h5.1
  have hdr2 := Drop_calls hl5 z.key HZK.out
  clear hl5
  have HD2 := Aside0.mk hdr2
  clear hdr2 h5
  replace c5 : w4.drew.cell? ⟨b, 2 + 3, none⟩ = some (.pointer (some ⟨z.blk, 0, none⟩)) := c5
  replace c6 : w4.drew.cell? ⟨z.blk, 0, none⟩ = some (.string z.key) := c6
  all_goals go_wp2_with (go_at_call 19; (with_reducible refine (HD2.out).mono ?_); rintro e w6 ⟨rfl, hl6, ht6, hz6⟩; have HL6 := Aside0.mk hl6; have HT6 := Aside0.mk ht6; have HZ6 := Aside0.mk hz6; clear hl6 ht6 hz6)
  all_goals go_ret3
  have hk : ((F ++ [z]).map (·.key)).Nodup := by rw [← HFZ.out]; exact putK_keys HL.out.keys
  have hd : dropK z.key (F ++ [z]) = F := by
    have := dropK_mid (A := F) (B := []) (e := z) hk rfl
    rw [List.append_nil] at this
    exact this
  have h6 := HL6.out
  rw [hd] at h6
  have h5 := H5.out
  refine ⟨rfl, h6, Turn.next h5.2.1 HT6.out ?_, ?_⟩
  · intro i hi hg
    rw [← HFZ.out] at hg
    rcases hg with h1 | h1 | ⟨e, he, h1⟩
    · exact .inl h1
    · exact .inr (.inl h1)
    · rcases List.mem_cons.1 he with rfl | he
      · simp only at h1
        omega
      · exact .inr (.inr ⟨e, (List.mem_filter.1 he).1, h1⟩)
  · have := HZ6.out
    rw [this]
    exact h5.2.2
end Go.Proofs.Ytfmaoaigljjhgaa.Lru
