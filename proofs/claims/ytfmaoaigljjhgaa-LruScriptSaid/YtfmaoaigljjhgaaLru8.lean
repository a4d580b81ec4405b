/- The calls of an lru list, told by what is in it: keys and values, in order of use. -/
import Derived.Test.YtfmaoaigljjhgaaLru7
namespace Go.Proofs.Ytfmaoaigljjhgaa.Lru
open Go Go.RowKit Go.Maps Go.Proofs.YtfmaoaigljjhgaaW.PrintWords

abbrev KV : Type := ByteArray × Int
def dropL (s : ByteArray) (L : List KV) : List KV := L.filter fun p => !decide (p.1 = s)
def putL (s : ByteArray) (v : Int) (L : List KV) : List KV := (s, v) :: dropL s L
def lookL (s : ByteArray) (L : List KV) : Int × Bool := match L.find? fun p => decide (p.1 = s) with
  | some p => (p.2, true)
  | none => (0, false)
def getL (s : ByteArray) (L : List KV) : List KV := match L.find? fun p => decide (p.1 = s) with
  | some p => p :: dropL s L
  | none => L
def hasL (s : ByteArray) (L : List KV) : Bool := L.any fun p => decide (p.1 = s)
/-- What a put leaves, and what it answers. -/
def putR (most : Int) (s : ByteArray) (v : Int) (L : List KV) : List KV × ByteArray × Bool × Int :=
  if most = 0 then (L, ⟨#[]⟩, false, 10) else if ((putL s v L).length : Int) ≤ most then (putL s v L, ⟨#[]⟩, false, 0) else ((putL s v L).dropLast, ((putL s v L).getLast?.getD (⟨#[]⟩, 0)).1, true, 0)
theorem kv_dropK (s : ByteArray) (E : List Ent) : kv (dropK s E) = dropL s (kv E) := by
  unfold kv dropK dropL
  rw [List.filter_map]
  rfl
theorem kv_putK (blk : Nat) (s : ByteArray) (v : Int) (E : List Ent) : kv (putK blk s v E) = putL s v (kv E) := by
  unfold putK putL
  rw [← kv_dropK]
  rfl
theorem find_kv (s : ByteArray) (E : List Ent) : (kv E).find? (fun p => decide (p.1 = s)) = (findK s E).map fun e => (e.key, e.val) := by
  unfold kv findK
  rw [List.find?_map]
  rfl
theorem look_kv (s : ByteArray) (E : List Ent) : lookK s E = lookL s (kv E) := by
  unfold lookK lookL
  rw [find_kv]
  cases findK s E <;> rfl
theorem move_kv (s : ByteArray) (E : List Ent) : kv (moveK s E) = getL s (kv E) := by
  unfold moveK getL
  rw [find_kv]
  cases findK s E with
  | none => rfl
  | some e =>
    show (e.key, e.val) :: kv (dropK s E) = _
    rw [kv_dropK]
    rfl
theorem has_kv (s : ByteArray) (E : List Ent) : hasK s E = hasL s (kv E) := by
  unfold hasK hasL kv
  rw [List.any_map]
  rfl
theorem kv_length (E : List Ent) : (kv E).length = E.length := List.length_map _
theorem keys_kv (E : List Ent) : E.map (·.key) = (kv E).map Prod.fst := by
  unfold kv
  rw [List.map_map]
  rfl
theorem dropL_length (s : ByteArray) (L : List KV) : (dropL s L).length ≤ L.length := List.length_filter_le _ _
/-- Which blocks a step may add to a list's. -/
def More (w : World) (b mb : Nat) (E : List Ent) (mb' : Nat) (E' : List Ent) : Prop := ∀ k, foot b mb' E' k → foot b mb E k ∨ w.heap.size ≤ k
theorem More.sub {w : World} {b mb : Nat} {E E' : List Ent} (h : ∀ e ∈ E', e ∈ E) : More w b mb E mb E' := fun _ hk => .inl (foot_sub h hk)
theorem move_sub (s : ByteArray) (E : List Ent) : ∀ e ∈ moveK s E, e ∈ E := by
  intro e he
  unfold moveK at he
  cases hf : findK s E with
  | none => rw [hf] at he; exact he
  | some x =>
    rw [hf] at he
    rcases List.mem_cons.1 he with rfl | he
    · exact List.mem_of_find?_eq_some hf
    · exact (List.mem_filter.1 he).1
theorem lPut {w : World} {b mb : Nat} {most : Int} {E : List Ent} (h : Lru w b mb most E) (hm : 0 ≤ most) (s : ByteArray) (hs : s.size ≤ 100000) (v : Int) (hE : E.length ≤ 100000) (hK : ∀ e ∈ E, e.key.size ≤ 100000) :
    Calls Try.prog 11 #[.pointer (some ⟨b, 0, none⟩), .string s, vl v] w fun e w' => e = .returned (.tuple #[.string (putR most s v (kv E)).2.1, .bool (putR most s v (kv E)).2.2.1, .int .i64 (putR most s v (kv E)).2.2.2]) ∧
      ∃ E', Lru w' b mb most E' ∧ kv E' = (putR most s v (kv E)).1 ∧ Turn (foot b mb E) w w' ∧ More w b mb E mb E' := by
  have hml : (100002 : Nat) < maxLen := by unfold maxLen; decide
  have hl : (dropK s E).length + 1 < maxLen := by
    have : (dropK s E).length ≤ E.length := List.length_filter_le _ _
    omega
  unfold putR
  by_cases h0 : most = 0
  · rw [if_pos h0]
    subst h0
    refine (Put_full h s v).mono ?_
    rintro e w' ⟨rfl, n, rfl⟩
    exact ⟨rfl, E, h.keep fun k _ => by rw [drewN_heap], rfl, Turn.drewN _ _, fun k hk => .inl hk⟩
  · rw [if_neg h0]
    have hlen : (putL s v (kv E)).length = (putK w.heap.size s v E).length := by rw [← kv_putK w.heap.size, kv_length]
    have hmore : ∀ F : List Ent, (∀ e ∈ F, e ∈ putK w.heap.size s v E) → More w b mb E mb F := by
      intro F hF k hk
      rcases hk with h1 | h1 | ⟨e, he, h1⟩
      · exact .inl (.inl h1)
      · exact .inl (.inr (.inl h1))
      · rcases List.mem_cons.1 (hF e he) with rfl | he
        · exact .inr (by simp only at h1; omega)
        · exact .inl (.inr (.inr ⟨e, (List.mem_filter.1 he).1, h1⟩))
    by_cases h1 : ((putL s v (kv E)).length : Int) ≤ most
    · rw [if_pos h1]
      refine (Put_room h s (by omega) v (by omega) hl (by rw [← hlen]; exact h1)).mono ?_
      rintro e w' ⟨rfl, hL, hT, _⟩
      exact ⟨rfl, _, hL, kv_putK _ _ _ _, hT, hmore _ (fun _ he => he)⟩
    · rw [if_neg h1]
      obtain ⟨F, z, hF⟩ : ∃ F z, putK w.heap.size s v E = F ++ [z] := ⟨_, _, (List.dropLast_concat_getLast (by unfold putK; simp)).symm⟩
      have hz : z ∈ putK w.heap.size s v E := by rw [hF]; simp
      have hzk : z.key.size ≤ maxLen := by
        rcases List.mem_cons.1 hz with rfl | hz
        · simp only
          omega
        · have := hK z (List.mem_filter.1 hz).1
          omega
      have e1 : putL s v (kv E) = kv F ++ [(z.key, z.val)] := by
        rw [← kv_putK w.heap.size, hF]
        unfold kv
        rw [List.map_append]
        rfl
      refine (Put_over h s (by omega) v (by omega) hl (by rw [← hlen]; omega) F z hF hzk).mono ?_
      rintro e w' ⟨rfl, hL, hT, _⟩
      rw [e1]
      refine ⟨by simp, F, hL, by simp, hT, hmore F (fun e he => by rw [hF]; exact List.mem_append_left _ he)⟩
theorem lGet {w : World} {b mb : Nat} {most : Int} {E : List Ent} (h : Lru w b mb most E) (s : ByteArray) (hs : s.size ≤ 100000) :
    Calls Try.prog 16 #[.pointer (some ⟨b, 0, none⟩), .string s] w fun e w' => e = .returned (.tuple #[vl (lookL s (kv E)).1, .bool (lookL s (kv E)).2]) ∧ ∃ E', Lru w' b mb most E' ∧ kv E' = getL s (kv E) ∧ Turn (foot b mb E) w w' ∧ More w b mb E mb E' := by
  have hml : (100002 : Nat) < maxLen := by unfold maxLen; decide
  refine (Get_calls h s (by omega)).mono ?_
  rintro e w' ⟨rfl, hL, hT, _⟩
  rw [look_kv]
  exact ⟨rfl, _, hL, move_kv s E, hT, More.sub (move_sub s E)⟩
theorem lLook {w : World} {b mb : Nat} {most : Int} {E : List Ent} (h : Lru w b mb most E) (s : ByteArray) (hs : s.size ≤ 100000) :
    Calls Try.prog 14 #[.pointer (some ⟨b, 0, none⟩), .string s] w fun e w' => e = .returned (.tuple #[vl (lookL s (kv E)).1, .bool (lookL s (kv E)).2]) ∧ Drawn0 w w' := by
  have hml : (100002 : Nat) < maxLen := by unfold maxLen; decide
  have := Look_calls h s (by omega)
  rw [look_kv] at this
  exact this
theorem lDrop {w : World} {b mb : Nat} {most : Int} {E : List Ent} (h : Lru w b mb most E) (s : ByteArray) (hs : s.size ≤ 100000) :
    Calls Try.prog 19 #[.pointer (some ⟨b, 0, none⟩), .string s] w fun e w' => e = .returned (.bool (hasL s (kv E))) ∧ ∃ E', Lru w' b mb most E' ∧ kv E' = dropL s (kv E) ∧ Turn (foot b mb E) w w' ∧ More w b mb E mb E' := by
  have hml : (100002 : Nat) < maxLen := by unfold maxLen; decide
  refine (Drop_calls h s (by omega)).mono ?_
  rintro e w' ⟨rfl, hL, hT, _⟩
  rw [has_kv]
  exact ⟨rfl, _, hL, kv_dropK s E, hT, More.sub fun e he => (List.mem_filter.1 he).1⟩
theorem lKeys {w : World} {b mb : Nat} {most : Int} {E : List Ent} (h : Lru w b mb most E) (hE : E.length ≤ 100000) :
    Calls Try.prog 12 #[.pointer (some ⟨b, 0, none⟩)] w fun e w' => ∃ v, e = .returned v ∧ Kd.R Kd.string 9 w' w.heap.size (fun _ => True) v ((kv E).map Prod.fst) ∧ Below w.heap.size w w' := by
  rw [← keys_kv]
  exact Keys_calls h hE
/-- A row of the law's own, none of a list's blocks. -/
theorem R_list {α : Type} {d : Kd α} {e base : Nat} {w w' : World} {v : Value} {xs : List α} {F G : Nat → Prop} (h : d.R e w base (fun k => ¬ F k) v xs) (ht : Turn F w w') (hg : ∀ k, G k → F k ∨ w.heap.size ≤ k) : d.R e w' base (fun k => ¬ G k) v xs := by
  have h1 := Kd.R_bound h
  refine Kd.R_mono (Kd.R_step h1 fun k hk hlt => ht.block k hlt hk.1) fun k hk hG => ?_
  rcases hg k hG with h2 | h2
  · exact hk.1 h2
  · have := hk.2.2.1
    omega
theorem lPutL {w : World} {b mb : Nat} {most : Int} {E : List Ent} {L : List KV} (h : Lru w b mb most E) (hkv : kv E = L) (hm : 0 ≤ most) (s : ByteArray) (hs : s.size ≤ 100000) (v : Int) (hE : L.length ≤ 100000) (hK : ∀ p ∈ L, p.1.size ≤ 100000) {M : List KV} {o : ByteArray} {q : Bool} {c : Int} (hR : putR most s v L = (M, o, q, c)) :
    Calls Try.prog 11 #[.pointer (some ⟨b, 0, none⟩), .string s, vl v] w fun e w' => e = .returned (.tuple #[.string o, .bool q, .int .i64 c]) ∧ ∃ E', Lru w' b mb most E' ∧ kv E' = M ∧ Turn (foot b mb E) w w' ∧ More w b mb E mb E' := by
  subst hkv
  have := lPut h hm s hs v (by rw [← kv_length]; exact hE) (fun e he => hK (e.key, e.val) (List.mem_map_of_mem (f := fun e : Ent => (e.key, e.val)) he))
  rw [hR] at this
  exact this
theorem lGetL {w : World} {b mb : Nat} {most : Int} {E : List Ent} {L : List KV} (h : Lru w b mb most E) (hkv : kv E = L) (s : ByteArray) (hs : s.size ≤ 100000) {x : Int} {q : Bool} (hR : lookL s L = (x, q)) :
    Calls Try.prog 16 #[.pointer (some ⟨b, 0, none⟩), .string s] w fun e w' => e = .returned (.tuple #[vl x, .bool q]) ∧ ∃ E', Lru w' b mb most E' ∧ kv E' = getL s L ∧ Turn (foot b mb E) w w' ∧ More w b mb E mb E' := by
  subst hkv
  have := lGet h s hs
  rw [hR] at this
  exact this
theorem lLookL {w : World} {b mb : Nat} {most : Int} {E : List Ent} {L : List KV} (h : Lru w b mb most E) (hkv : kv E = L) (s : ByteArray) (hs : s.size ≤ 100000) {x : Int} {q : Bool} (hR : lookL s L = (x, q)) :
    Calls Try.prog 14 #[.pointer (some ⟨b, 0, none⟩), .string s] w fun e w' => e = .returned (.tuple #[vl x, .bool q]) ∧ Drawn0 w w' := by
  subst hkv
  have := lLook h s hs
  rw [hR] at this
  exact this
/-- A list of the call's own, told by what is in it. -/
def Own1 (w0 w : World) (b : Nat) (most : Int) (L : List KV) : Prop := ∃ mb E, Lru w b mb most E ∧ kv E = L ∧ (∀ k, foot b mb E k → w0.heap.size ≤ k) ∧ Below w0.heap.size w0 w
theorem Own1.below {w0 w w' : World} {b : Nat} {most : Int} {L : List KV} (h : Own1 w0 w b most L) (hb : Below w.heap.size w w') : Own1 w0 w' b most L := by
  obtain ⟨mb, E, h1, h2, h3, h4⟩ := h
  exact ⟨mb, E, h1.below hb, h2, h3, h4.trans (hb.mono h4.size)⟩
theorem Own1.step {w0 w w' : World} {b mb mb' : Nat} {most : Int} {L : List KV} {E E' : List Ent} (h3 : ∀ k, foot b mb E k → w0.heap.size ≤ k) (h4 : Below w0.heap.size w0 w) (hL : Lru w' b mb' most E') (hkv : kv E' = L) (ht : Turn (foot b mb E) w w') (hm : More w b mb E mb' E') : Own1 w0 w' b most L :=
  ⟨mb', E', hL, hkv, fun k hk => (hm k hk).elim (h3 k) (fun h => Nat.le_trans h4.size h), h4.trans (ht.below h3 h4.size)⟩
theorem oNew {w0 w : World} (hb : Below w0.heap.size w0 w) (m : Int) {q : Int} (hq : (if 0 < m then m else 0) = q) :
    Calls Try.prog 10 #[.int .i64 m] w fun e w' => e = .returned (.pointer (some ⟨w.heap.size, 0, none⟩)) ∧ Own1 w0 w' w.heap.size q [] := by
  refine (New_calls w m).mono ?_
  rintro e w' ⟨rfl, hl, hb1, hz⟩
  rw [hq] at hl
  refine ⟨rfl, _, [], hl, rfl, ?_, hb.trans (hb1.mono hb.size)⟩
  rintro k (h | h | ⟨e, he, _⟩)
  · rw [h]; exact hb.size
  · rw [h]; exact Nat.le_succ_of_le hb.size
  · cases he
theorem oPut {w0 w : World} {b : Nat} {most : Int} {L : List KV} (h : Own1 w0 w b most L) (hm : 0 ≤ most) (s : ByteArray) (hs : s.size ≤ 100000) (v : Int) (hE : L.length ≤ 100000) (hK : ∀ p ∈ L, p.1.size ≤ 100000) {M : List KV} {o : ByteArray} {q : Bool} {c : Int} (hR : putR most s v L = (M, o, q, c)) :
    Calls Try.prog 11 #[.pointer (some ⟨b, 0, none⟩), .string s, vl v] w fun e w' => e = .returned (.tuple #[.string o, .bool q, .int .i64 c]) ∧ Own1 w0 w' b most M := by
  obtain ⟨mb, E, h1, h2, h3, h4⟩ := h
  refine (lPutL h1 h2 hm s hs v hE hK hR).mono ?_
  rintro e w' ⟨rfl, E', hL, hkv, ht, hmo⟩
  exact ⟨rfl, Own1.step h3 h4 hL hkv ht hmo⟩
theorem oGet {w0 w : World} {b : Nat} {most : Int} {L : List KV} (h : Own1 w0 w b most L) (s : ByteArray) (hs : s.size ≤ 100000) {x : Int} {q : Bool} (hR : lookL s L = (x, q)) :
    Calls Try.prog 16 #[.pointer (some ⟨b, 0, none⟩), .string s] w fun e w' => e = .returned (.tuple #[vl x, .bool q]) ∧ Own1 w0 w' b most (getL s L) := by
  obtain ⟨mb, E, h1, h2, h3, h4⟩ := h
  refine (lGetL h1 h2 s hs hR).mono ?_
  rintro e w' ⟨rfl, E', hL, hkv, ht, hmo⟩
  exact ⟨rfl, Own1.step h3 h4 hL hkv ht hmo⟩
theorem oKeys {w0 w : World} {b : Nat} {most : Int} {L : List KV} (h : Own1 w0 w b most L) (hE : L.length ≤ 100000) :
    Calls Try.prog 12 #[.pointer (some ⟨b, 0, none⟩)] w fun e w' => ∃ v, e = .returned v ∧ Kd.R Kd.string 9 w' w.heap.size (fun _ => True) v (L.map Prod.fst) ∧ Own1 w0 w' b most L ∧ Below w.heap.size w w' := by
  obtain ⟨mb, E, h1, h2, h3, h4⟩ := h
  have := lKeys h1 (by rw [← kv_length, h2]; exact hE)
  rw [h2] at this
  refine this.mono ?_
  rintro e w' ⟨v, rfl, hr, hb⟩
  exact ⟨v, rfl, hr, Own1.below ⟨mb, E, h1, h2, h3, h4⟩ hb, hb⟩
end Go.Proofs.Ytfmaoaigljjhgaa.Lru
