/- What the calls Get, Put, Clear, New of an lru list answer, and what they leave. -/
import Derived.Test.YtfmaoaigljjhgaaLru4
namespace Go.Proofs.Ytfmaoaigljjhgaa.Lru
open Go Go.RowKit Go.Maps Go.Proofs.YtfmaoaigljjhgaaW.PrintWords

def moveK (s : ByteArray) (E : List Ent) : List Ent := match findK s E with
  | some e => e :: dropK s E
  | none => E
set_option maxHeartbeats 4000000 in
set_option maxRecDepth 100000 in
theorem Get_hit {w : World} {b mb : Nat} {most : Int} {E : List Ent} (h : Lru w b mb most E) (s : ByteArray) (hs : s.size ≤ maxLen) (hh : hasK s E = true) :
    Calls Try.prog 16 #[.pointer (some ⟨b, 0, none⟩), .string s] w fun e w' => e = .returned (.tuple #[vl (lookK s E).1, .bool true]) ∧ Lru w' b mb most (moveK s E) ∧ Turn (foot b mb E) w w' ∧ w'.heap.size = w.heap.size := by
  have hlk := Look_calls h s hs
  obtain ⟨A, x, B, rfl, hx⟩ := split_at hh
  have hd := dropK_mid h.keys hx
  have hf := findK_mid h.keys hx
  have e1 : lookK s (A ++ x :: B) = (x.val, true) := by unfold lookK; rw [hf]
  have e2 : moveK s (A ++ x :: B) = x :: (A ++ B) := by unfold moveK; rw [hf, hd]
  rw [e1] at hlk ⊢
  rw [e2]
  have HL := Aside0.mk h
  have hper : ∀ n : Nat, Lru (w.drewN n) b mb most (A ++ x :: B) := fun n => h.keep fun k _ => by rw [drewN_heap]
  have HN := Aside0.mk hper
  have HX := Aside0.mk hx
  have HK := Aside0.mk hlk
  have hc := h.head.keys
  have hm := h.map
  have hne : ∀ y ∈ A ++ B, y.blk ≠ x.blk := by
    have hb := (List.nodup_cons.1 (List.nodup_cons.1 h.blocks).2).2
    rw [List.map_append, List.map_cons, List.nodup_append] at hb
    intro y hy
    rcases List.mem_append.1 hy with hy | hy
    · exact hb.2.2 y.blk (List.mem_map_of_mem hy) x.blk (by simp)
    · exact fun c => (List.nodup_cons.1 hb.2.1).1 (c ▸ List.mem_map_of_mem hy)
  have HE := Aside0.mk hne
  clear h hlk hper hh hd hf e1 e2 hx hne
  unfold vl at *
  go_enter Try.func16, Try.ntmps16
  go_wp2_with (first
    | (at_lookup; refine wp_look_plain _ rfl _ _ rfl mb _ rfl hm1 s hs rfl x (by simp) HX.out ?_; (try simp only [nd]))
    | (go_at_call 14; (with_reducible refine (HK.out).mono ?_); rintro e w1 ⟨rfl, n, hw⟩; have HL1 := Aside0.mk (HN.out n); rw [← hw] at HL1; have hm1 := HL1.out.map; have hc1 := HL1.out.head.keys; have HW1 := Aside0.mk hw; clear hw)
    | (go_at_call 37; obtain ⟨pb, po, qb, qo, h3, h2, hp, hq, fp, fq, hpart⟩ := HL1.out.out; (with_reducible refine (out_calls _ x.blk 0 pb po qb qo h3 h2 hp hq fp fq).mono ?_); have HP := Aside0.mk hpart; clear h3 h2 hp hq fp fq hpart; rintro e w2 ⟨⟨v, rfl⟩, n2, hw⟩; have HW := Aside0.mk (HP.out n2); rw [← hw] at HW; clear hw HP; have hc2 := HW.out.1.head.keys)
    | (go_at_call 35; obtain ⟨fb, fo, h2, hn2, hn3, hf, hno, hnf, f2, f3, ff, fo2, hpart⟩ := HW.out.1.into (e := x) (by simp) HE.out; (with_reducible refine (behind_calls _ x.blk 0 b 2 fb fo h2 hn2 hn3 hf hno hnf f2 f3 ff fo2).mono ?_); have HQ := Aside0.mk hpart; clear h2 hn2 hn3 hf hno hnf f2 f3 ff fo2 hpart; rintro e w3 ⟨⟨v2, rfl⟩, n3, hw⟩; have HV := Aside0.mk (HQ.out n3); have e_ : intoW w2 (rg b) (nd x.blk) ⟨fb, fo, none⟩ = intoW w2 ⟨b, 2, none⟩ ⟨x.blk, 0, none⟩ ⟨fb, fo, none⟩ := rfl; rw [e_, ← hw] at HV; clear hw HQ e_))
  go_ret2
  have hV := HV.out
  have hW := HW.out
  have h0 := HL.out
  refine ⟨rfl, Part.lru (N := A ++ x :: B) ⟨hV.1.head, hV.1.nodes, hV.1.links, hV.1.blocks, hV.1.sub, hV.1.own, hV.1.map.perm ?_ ?_⟩ ?_, ?_, ?_⟩
  · intro y
    simp only [List.mem_cons, List.mem_append]
    constructor
    · rintro (h | h | h)
      · exact .inr (.inl h)
      · exact .inl h
      · exact .inr (.inr h)
    · rintro (h | h | h)
      · exact .inr (.inl h)
      · exact .inl h
      · exact .inr (.inr h)
  · simp
    omega
  · have := h0.keys
    rw [List.map_append, List.map_cons] at this
    rw [List.map_cons, List.map_append]
    exact (List.perm_middle.nodup_iff).1 this
  · have hw1 := HW1.out
    refine Turn.trans ?_ (Turn.trans hW.2.1 hV.2.1)
    rw [hw1]
    exact Turn.drewN _ _
  · rw [hV.2.2, hW.2.2, HW1.out, drewN_heap]
set_option maxHeartbeats 4000000 in
set_option maxRecDepth 100000 in
theorem Get_miss {w : World} {b mb : Nat} {most : Int} {E : List Ent} (h : Lru w b mb most E) (s : ByteArray) (hs : s.size ≤ maxLen) (hh : hasK s E = false) :
    Calls Try.prog 16 #[.pointer (some ⟨b, 0, none⟩), .string s] w fun e w' => e = .returned (.tuple #[vl 0, .bool false]) ∧ Drawn0 w w' := by
  have hlk := Look_miss h s hs hh
  have HK := Aside0.mk hlk
  clear h hlk hh
  unfold vl at *
  go_enter Try.func16, Try.ntmps16
  go_wp2_with (go_at_call 14; (with_reducible refine (HK.out).mono ?_); rintro e w1 ⟨rfl, n, rfl⟩)
  go_ret2
  exact ⟨rfl, _, rfl⟩
theorem Get_calls {w : World} {b mb : Nat} {most : Int} {E : List Ent} (h : Lru w b mb most E) (s : ByteArray) (hs : s.size ≤ maxLen) :
    Calls Try.prog 16 #[.pointer (some ⟨b, 0, none⟩), .string s] w fun e w' => e = .returned (.tuple #[vl (lookK s E).1, .bool (lookK s E).2]) ∧ Lru w' b mb most (moveK s E) ∧ Turn (foot b mb E) w w' ∧ w'.heap.size = w.heap.size := by
  have h2 := lookK_has s E
  cases hh : hasK s E with
  | true =>
    rw [h2, hh]
    exact Get_hit h s hs hh
  | false =>
    have e1 : lookK s E = (0, false) := by unfold lookK; rw [findK_none hh]
    have e2 : moveK s E = E := by unfold moveK; rw [findK_none hh]
    rw [e1, e2]
    refine (Get_miss h s hs hh).mono ?_
    rintro e w' ⟨rfl, n, rfl⟩
    exact ⟨rfl, h.keep fun k _ => by rw [drewN_heap], Turn.drewN _ _, by rw [drewN_heap]⟩
set_option maxHeartbeats 4000000 in
set_option maxRecDepth 100000 in
theorem Clear_raw {w : World} {b : Nat} {most : Int} {m0 r0 r1 x y : Value} (h : w.heap[b]? = some (.cells #[.int .i64 most, m0, r0, r1, x, y] LT (0, 0))) :
    Calls Try.prog 33 #[.pointer (some ⟨b, 0, none⟩)] w fun e w' => (∃ v, e = .returned v) ∧ Lru w' b w.heap.size most [] ∧ Turn (fun k => k = b) w w' ∧ w'.heap.size = w.heap.size + 1 := by
  have hlt : b < w.heap.size := (Array.getElem?_eq_some_iff.1 h).1
  have h1 : (w.alloc (.map #[] 0)).heap[b]? = some (.cells #[.int .i64 most, m0, r0, r1, x, y] LT (0, 0)) := (Below.heap_alloc w _ b hlt).trans h
  have hmm := @run_makeMap Try.prog
  have k1 : (w.alloc (.map #[] 0)).cell? ⟨b, 1, none⟩ = some m0 := by simp [World.cell?, h1]
  have f1 : (w.alloc (.map #[] 0)).frozen? ⟨b, 1, none⟩ = false := by simp [World.frozen?, h1]
  have f2 : (w.alloc (.map #[] 0)).frozen? ⟨b, 4, none⟩ = false := by simp [World.frozen?, h1]
  have f3 : (w.alloc (.map #[] 0)).frozen? ⟨b, 5, none⟩ = false := by simp [World.frozen?, h1]
  have g1 : ((w.alloc (.map #[] 0)).setCell ⟨b, 1, none⟩ (.map (some w.heap.size))).heap[b]? = some (.cells #[.int .i64 most, .map (some w.heap.size), r0, r1, x, y] LT (0, 0)) := by
    have := heap_setCell_same (w.alloc (.map #[] 0)) b 1 _ _ (.map (some w.heap.size)) h1
    exact this
  have g2 := heap_setCell_same _ b 4 _ _ (.pointer (some ⟨b, 2, none⟩)) g1
  have g3 := heap_setCell_same _ b 5 _ _ (.pointer (some ⟨b, 2, none⟩)) g2
  have k2 : ((w.alloc (.map #[] 0)).setCell ⟨b, 1, none⟩ (.map (some w.heap.size))).cell? ⟨b, 4, none⟩ = some x := by simp [World.cell?, g1]
  have k3 : (((w.alloc (.map #[] 0)).setCell ⟨b, 1, none⟩ (.map (some w.heap.size))).setCell ⟨b, 4, none⟩ (.pointer (some ⟨b, 2, none⟩))).cell? ⟨b, 5, none⟩ = some y := by simp [World.cell?, g2]
  have HG := Aside0.mk g3
  have HL := Aside0.mk hlt
  clear g1 g2 g3 h1 h hlt
  go_enter Try.func33, Try.ntmps33
  go_wp2
  go_region
  all_goals
    go_end0
    have hg := HG.out
    have hlt := HL.out
    have e1 : ∀ k, k ≠ b → k ≤ w.heap.size → ((((w.alloc (.map #[] 0)).setCell ⟨b, 1, none⟩ (.map (some w.heap.size))).setCell ⟨b, 4, none⟩ (.pointer (some ⟨b, 2, none⟩))).setCell ⟨b, 5, none⟩ (.pointer (some ⟨b, 2, none⟩))).heap[k]? = (w.alloc (.map #[] 0)).heap[k]? := fun k hk _ => by
      rw [Below.heap_setCell _ _ _ _ hk, Below.heap_setCell _ _ _ _ hk, Below.heap_setCell _ _ _ _ hk]
    refine ⟨⟨_, rfl⟩, ⟨⟨_, _, _, _, hg⟩, (fun e he => nomatch he), ⟨⟨?_, ?_⟩, trivial⟩, ?_, by simp, ?_⟩, ?_, ?_⟩
    · show World.cell? _ _ = _
      simp [World.cell?, World.drew, hg, fa, rg]
    · show World.cell? _ _ = _
      simp [World.cell?, World.drew, hg, fa, rg]
    · simp
      omega
    · exact (MapIs.made w).kept (e1 _ (by omega) (Nat.le_refl _))
    · exact ⟨rfl, rfl, rfl, by simp [World.drew], fun k hk hb => (e1 k hb (by omega)).trans (Below.heap_alloc _ _ _ hk)⟩
    · simp [World.drew]
end Go.Proofs.Ytfmaoaigljjhgaa.Lru
