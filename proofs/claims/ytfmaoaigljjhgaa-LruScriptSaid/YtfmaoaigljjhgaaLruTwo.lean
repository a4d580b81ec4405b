/- Two lru lists of the law's own, and what the same puts leave in a smaller and in a greater one. -/
import Derived.Test.YtfmaoaigljjhgaaLru9
import Derived.Test.YtfmaoaigljjhgaaLruRow
namespace Go.Proofs.Ytfmaoaigljjhgaa.Lru
open Go Go.RowKit Go.Maps Go.Proofs.YtfmaoaigljjhgaaW.PrintWords

def Two (w0 w : World) (b : Nat) (m : Int) (L : List KV) (c : Nat) (p : Int) (M : List KV) : Prop :=
  ∃ mb E mc F, Lru w b mb m E ∧ kv E = L ∧ Lru w c mc p F ∧ kv F = M ∧ (∀ k, foot b mb E k → w0.heap.size ≤ k) ∧ (∀ k, foot c mc F k → w0.heap.size ≤ k) ∧ (∀ k, foot b mb E k → ¬ foot c mc F k) ∧ Below w0.heap.size w0 w
section
variable {w0 w w' : World} {b c : Nat} {m p : Int} {L M : List KV}
theorem Two.swap (h : Two w0 w b m L c p M) : Two w0 w c p M b m L := by
  obtain ⟨mb, E, mc, F, h1, h2, h3, h4, h5, h6, h7, h8⟩ := h
  exact ⟨mc, F, mb, E, h3, h4, h1, h2, h6, h5, fun k hk hb => h7 k hb hk, h8⟩
theorem Two.low (h : Two w0 w b m L c p M) : Below w0.heap.size w0 w := by
  obtain ⟨_, _, _, _, _, _, _, _, _, _, _, h⟩ := h
  exact h
theorem Two.below (h : Two w0 w b m L c p M) (hb : Below w.heap.size w w') : Two w0 w' b m L c p M := by
  obtain ⟨mb, E, mc, F, h1, h2, h3, h4, h5, h6, h7, h8⟩ := h
  exact ⟨mb, E, mc, F, h1.below hb, h2, h3.below hb, h4, h5, h6, h7, h8.trans (hb.mono h8.size)⟩
theorem two_start {w1 w2 : World} (b0 : Below w0.heap.size w0 w) (l1 : Lru w1 w.heap.size (w.heap.size + 1) m []) (b1 : Below w.heap.size w w1) (z1 : w1.heap.size = w.heap.size + 2) (l2 : Lru w2 w1.heap.size (w1.heap.size + 1) p []) (b2 : Below w1.heap.size w1 w2) :
    Two w0 w2 w.heap.size m [] w1.heap.size p [] := by
  have hs := b0.size
  have hf : ∀ {x y k : Nat}, foot x y [] k → k = x ∨ k = y := by
    rintro x y k (h | h | ⟨e, he, _⟩)
    · exact .inl h
    · exact .inr h
    · cases he
  refine ⟨_, [], _, [], l1.below b2, rfl, l2, rfl, fun k hk => ?_, fun k hk => ?_, fun k hk hk' => ?_, (b0.trans (b1.mono hs)).trans (b2.mono (Nat.le_trans hs b1.size))⟩
  · rcases hf hk with h | h <;> omega
  · rcases hf hk with h | h <;> omega
  · rcases hf hk with h | h <;> rcases hf hk' with g | g <;> omega
theorem Two.put (h : Two w0 w b m L c p M) (hm : 0 ≤ m) (s : ByteArray) (hs : s.size ≤ 100000) (v : Int) (hE : L.length ≤ 100000) (hK : ∀ q ∈ L, q.1.size ≤ 100000) {L' : List KV} {o : ByteArray} {q : Bool} {e : Int} (hR : putR m s v L = (L', o, q, e)) :
    Calls Try.prog 11 #[.pointer (some ⟨b, 0, none⟩), .string s, vl v] w fun r w' => r = .returned (.tuple #[.string o, .bool q, .int .i64 e]) ∧ Two w0 w' b m L' c p M := by
  obtain ⟨mb, E, mc, F, h1, h2, h3, h4, h5, h6, h7, h8⟩ := h
  refine (lPutL h1 h2 hm s hs v hE hK hR).mono ?_
  rintro r w' ⟨rfl, E', hL, hkv, ht, hmo⟩
  refine ⟨rfl, mb, E', mc, F, hL, hkv, h3.turn ht (fun k hk hf => h7 k hf hk), h4, fun k hk => (hmo k hk).elim (h5 k) (fun g => Nat.le_trans h8.size g), h6, fun k hk hf => ?_, h8.trans (ht.below h5 h8.size)⟩
  rcases hmo k hk with g | g
  · exact h7 k g hf
  · have := h3.lt hf
    omega
theorem Two.look (h : Two w0 w b m L c p M) (s : ByteArray) (hs : s.size ≤ 100000) {x : Int} {q : Bool} (hR : lookL s L = (x, q)) :
    Calls Try.prog 14 #[.pointer (some ⟨b, 0, none⟩), .string s] w fun e w' => e = .returned (.tuple #[vl x, .bool q]) ∧ Drawn0 w w' := by
  obtain ⟨mb, E, mc, F, h1, h2, _⟩ := h
  exact lLookL h1 h2 s hs hR
theorem Two.keys (h : Two w0 w b m L c p M) (hE : L.length ≤ 100000) :
    Calls Try.prog 12 #[.pointer (some ⟨b, 0, none⟩)] w fun e w' => ∃ A cp, e = .returned (.slice A L.length cp) ∧ L.length ≤ cp ∧ Kd.C Kd.string w' A L.length (L.map Prod.fst) ∧ Two w0 w' b m L c p M ∧ Below w.heap.size w w' := by
  have h0 := h
  obtain ⟨mb, E, mc, F, h1, h2, _⟩ := h
  have := lKeys h1 (by rw [← kv_length, h2]; exact hE)
  rw [h2] at this
  refine this.mono ?_
  rintro e w' ⟨v, rfl, hr, hb⟩
  obtain ⟨A, cp, rfl, hl, hC⟩ := Kd.R_reads hr
  rw [List.length_map] at hl hC
  exact ⟨A, cp, by rw [List.length_map], hl, hC, h0.below hb, hb⟩
end
/-! ### The same puts -/
theorem putL_length (s : ByteArray) (v : Int) (L : List KV) : (putL s v L).length ≤ L.length + 1 := by
  unfold putL
  have := dropL_length s L
  simp
  omega
theorem putR_take {n : Nat} (hn : 1 ≤ n) (s : ByteArray) (v : Int) {L : List KV} (hL : L.length ≤ n) : ∃ o q, putR (n : Int) s v L = ((putL s v L).take n, o, q, 0) := by
  have hl := putL_length s v L
  unfold putR
  rw [if_neg (by omega)]
  by_cases h : ((putL s v L).length : Int) ≤ (n : Int)
  · rw [if_pos h, List.take_of_length_le (by omega)]
    exact ⟨_, _, rfl⟩
  · rw [if_neg h, List.dropLast_eq_take, show (putL s v L).length - 1 = n by omega]
    exact ⟨_, _, rfl⟩
theorem dropL_nodup {s : ByteArray} {L : List KV} (h : (L.map Prod.fst).Nodup) : ((dropL s L).map Prod.fst).Nodup := by
  refine List.Nodup.sublist ?_ h
  exact List.Sublist.map _ List.filter_sublist
theorem putL_nodup {s : ByteArray} {v : Int} {L : List KV} (h : (L.map Prod.fst).Nodup) : ((putL s v L).map Prod.fst).Nodup := by
  unfold putL
  rw [List.map_cons, List.nodup_cons]
  refine ⟨fun hm => ?_, dropL_nodup h⟩
  obtain ⟨p, hp, e⟩ := List.mem_map.1 hm
  have := (List.mem_filter.1 hp).2
  simp [e] at this
theorem take_nodup {n : Nat} {L : List KV} (h : (L.map Prod.fst).Nodup) : ((L.take n).map Prod.fst).Nodup := by
  refine List.Nodup.sublist ?_ h
  exact List.Sublist.map _ (List.take_sublist n L)
theorem dropL_take {s : ByteArray} : ∀ (n : Nat) {L : List KV}, (L.map Prod.fst).Nodup → (dropL s (L.take (n + 1))).take n = (dropL s L).take n
  | n, [], _ => by simp [dropL]
  | n, p :: L, h => by
    rw [List.map_cons, List.nodup_cons] at h
    rw [List.take_succ_cons]
    unfold dropL
    by_cases c : p.1 = s
    · have hn : ∀ q ∈ L, ¬ q.1 = s := fun q hq e => h.1 (by rw [c, ← e]; exact List.mem_map_of_mem hq)
      have f1 : ∀ K : List KV, (∀ q ∈ K, q ∈ L) → K.filter (fun q => !decide (q.1 = s)) = K := by
        intro K hK
        rw [List.filter_eq_self]
        intro q hq
        simp [hn q (hK q hq)]
      rw [List.filter_cons, if_neg (by simp [c]), List.filter_cons, if_neg (by simp [c]), f1 _ (fun q hq => List.mem_of_mem_take hq), f1 L (fun q hq => hq), List.take_take, Nat.min_self]
    · rw [List.filter_cons, if_pos (by simp [c]), List.filter_cons, if_pos (by simp [c])]
      cases n with
      | zero => rfl
      | succ n =>
        rw [List.take_succ_cons, List.take_succ_cons]
        congr 1
        exact dropL_take n h.2
theorem put_take {n k : Nat} (hn : 1 ≤ n) (s : ByteArray) (v : Int) {M : List KV} (h : (M.map Prod.fst).Nodup) : (putL s v (M.take n)).take n = ((putL s v M).take (n + k)).take n := by
  rw [List.take_take, Nat.min_eq_left (by omega)]
  obtain ⟨n, rfl⟩ : ∃ m, n = m + 1 := ⟨n - 1, by omega⟩
  unfold putL
  rw [List.take_succ_cons, List.take_succ_cons, dropL_take n h]
theorem look_take {n : Nat} {s : ByteArray} {M : List KV} (h : s ∈ (M.take n).map Prod.fst) : ∃ x, lookL s (M.take n) = (x, true) ∧ lookL s M = (x, true) := by
  obtain ⟨p, hp, e⟩ := List.mem_map.1 h
  have hs : ((M.take n).find? fun p => decide (p.1 = s)).isSome := by
    rw [List.find?_isSome]
    exact ⟨p, hp, by simpa using e⟩
  obtain ⟨q, hq⟩ := Option.isSome_iff_exists.1 hs
  refine ⟨q.2, ?_, ?_⟩
  · unfold lookL
    rw [hq]
  · unfold lookL
    have : M.find? (fun p => decide (p.1 = s)) = some q := by
      conv => lhs; rw [← List.take_append_drop n M]
      rw [List.find?_append, hq]
      rfl
    rw [this]
theorem same_self (xs : List ByteArray) (hx : xs.length ≤ 1000) : PLruScript.nameplatekit_Same_string.f 2000 xs xs = some true := by
  have go : ∀ (d i k : Nat), i + d = xs.length → d + 1 ≤ k → PLruScript.nameplatekit_Same_string.l0 k xs xs (i : Int) = some true := by
    intro d
    induction d with
    | zero =>
      intro i k hi hk
      obtain ⟨k, rfl⟩ : ∃ m, k = m + 1 := ⟨k - 1, by omega⟩
      simp only [PLruScript.nameplatekit_Same_string.l0]
      rw [if_neg (by omega)]
    | succ d ih =>
      intro i k hi hk
      obtain ⟨k, rfl⟩ : ∃ m, k = m + 1 := ⟨k - 1, by omega⟩
      simp only [PLruScript.nameplatekit_Same_string.l0]
      have hw : wrap64 ((i : Int) + 1) = ((i + 1 : Nat) : Int) := by
        have hb : (i : Int) ≤ 1000 := by omega
        unfold wrap64
        omega
      rw [if_pos (by omega), if_pos (by omega), if_pos (by omega), if_pos trivial, hw]
      exact ih (i + 1) k (by omega) (by omega)
  unfold PLruScript.nameplatekit_Same_string.f
  rw [if_pos rfl]
  exact go xs.length 0 2000 (by omega) (by omega)
end Go.Proofs.Ytfmaoaigljjhgaa.Lru
