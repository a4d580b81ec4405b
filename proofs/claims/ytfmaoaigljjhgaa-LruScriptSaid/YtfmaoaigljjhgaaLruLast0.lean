/- Plain laws for LruLast: what a put and a get leave of the keys' order, and who goes. -/
import Derived.Test.YtfmaoaigljjhgaaLru8
namespace Go.Proofs.Ytfmaoaigljjhgaa.Lru
open Go Go.RowKit Go.Maps Go.Proofs.YtfmaoaigljjhgaaW.PrintWords

def without (s : ByteArray) (xs : List ByteArray) : List ByteArray := xs.filter fun x => !decide (x = s)
theorem keys_drop (s : ByteArray) (L : List KV) : (dropL s L).map Prod.fst = without s (L.map Prod.fst) := by
  unfold dropL without
  rw [List.filter_map]
  rfl
theorem without_none {s : ByteArray} {xs : List ByteArray} (h : s ∉ xs) : without s xs = xs := by
  unfold without
  rw [List.filter_eq_self]
  intro x hx
  have : x ≠ s := fun e => h (e ▸ hx)
  simp [this]
theorem has_keys {s : ByteArray} {L : List KV} : hasL s L = true ↔ s ∈ L.map Prod.fst := by
  unfold hasL
  rw [List.any_eq_true, List.mem_map]
  constructor
  · rintro ⟨p, hp, e⟩
    exact ⟨p, hp, by simpa using e⟩
  · rintro ⟨p, hp, e⟩
    exact ⟨p, hp, by simpa using e⟩
theorem look_has (s : ByteArray) (L : List KV) : (lookL s L).2 = hasL s L := by
  unfold lookL hasL
  cases h : L.find? (fun p => decide (p.1 = s)) with
  | none =>
    rw [List.find?_eq_none] at h
    symm
    rw [List.any_eq_false]
    exact h
  | some p =>
    symm
    rw [List.any_eq_true]
    exact ⟨p, List.mem_of_find?_eq_some h, List.find?_some (p := fun p : KV => decide (p.1 = s)) h⟩
theorem look_mem {s : ByteArray} {L : List KV} {x : Int} (h : lookL s L = (x, true)) : (s, x) ∈ L := by
  unfold lookL at h
  cases hf : L.find? (fun p => decide (p.1 = s)) with
  | none => rw [hf] at h; simp at h
  | some p =>
    rw [hf] at h
    have h1 : p.2 = x := by simpa using h
    have h2 := List.find?_some (p := fun p : KV => decide (p.1 = s)) hf
    have h3 : p.1 = s := by simpa using h2
    have := List.mem_of_find?_eq_some hf
    rw [← h1, ← h3]
    exact this
/-- A get that finds moves the key ahead. -/
theorem keys_get {s : ByteArray} {L : List KV} (h : hasL s L = true) : (getL s L).map Prod.fst = s :: without s (L.map Prod.fst) := by
  have h2 := look_has s L
  unfold getL
  unfold lookL at h2
  cases hf : L.find? (fun p => decide (p.1 = s)) with
  | none => rw [hf, h] at h2; cases h2
  | some p =>
    have h3 := List.find?_some (p := fun p : KV => decide (p.1 = s)) hf
    have h4 : p.1 = s := by simpa using h3
    show (p :: dropL s L).map Prod.fst = _
    rw [List.map_cons, keys_drop, h4]
theorem get_sub {s : ByteArray} {L : List KV} : ∀ p ∈ getL s L, p ∈ L := by
  intro p hp
  unfold getL at hp
  cases hf : L.find? (fun p => decide (p.1 = s)) with
  | none => rw [hf] at hp; exact hp
  | some q =>
    rw [hf] at hp
    rcases List.mem_cons.1 hp with rfl | hp
    · exact List.mem_of_find?_eq_some hf
    · exact (List.mem_filter.1 hp).1
theorem drop_has_length {s : ByteArray} : ∀ {L : List KV}, (L.map Prod.fst).Nodup → hasL s L = true → (dropL s L).length + 1 = L.length
  | [], _, h => by simp [hasL] at h
  | p :: L, hn, h => by
    rw [List.map_cons, List.nodup_cons] at hn
    unfold dropL
    by_cases c : p.1 = s
    · rw [List.filter_cons, if_neg (by simp [c])]
      have : L.filter (fun q => !decide (q.1 = s)) = L := by
        rw [List.filter_eq_self]
        intro q hq
        have : q.1 ≠ s := fun e => hn.1 (by rw [c, ← e]; exact List.mem_map_of_mem hq)
        simp [this]
      rw [this, List.length_cons]
    · rw [List.filter_cons, if_pos (by simp [c]), List.length_cons, List.length_cons]
      have h2 : hasL s L = true := by
        unfold hasL at h ⊢
        rw [List.any_cons] at h
        simpa [c] using h
      have := drop_has_length hn.2 h2
      unfold dropL at this
      omega
/-- A put of a key that is there, or into a list with room: nobody goes. -/
theorem put_stays {n : Nat} (hn : 1 ≤ n) (s : ByteArray) (v : Int) {L : List KV} (hnd : (L.map Prod.fst).Nodup) (hL : L.length ≤ n) (h : hasL s L = true ∨ L.length < n) : putR (n : Int) s v L = (putL s v L, ⟨#[]⟩, false, 0) := by
  have hl : (putL s v L).length ≤ n := by
    unfold putL
    rw [List.length_cons]
    rcases h with h | h
    · have := drop_has_length hnd h
      omega
    · have := dropL_length s L
      omega
  unfold putR
  rw [if_neg (by omega), if_pos (by omega)]
/-- A put of a new key into a full list: the last one goes. -/
theorem put_goes {n : Nat} (hn : 1 ≤ n) (s : ByteArray) (v : Int) {L : List KV} (hL : L.length = n) (h : hasL s L = false) : ∃ K z, L = K ++ [z] ∧ putR (n : Int) s v L = ((s, v) :: K, z.1, true, 0) := by
  have hne : L ≠ [] := by
    rintro rfl
    simp at hL
    omega
  have hd : dropL s L = L := by
    unfold dropL
    rw [List.filter_eq_self]
    intro p hp
    have : p.1 ≠ s := fun e => by
      have : hasL s L = true := has_keys.2 (e ▸ List.mem_map_of_mem hp)
      rw [h] at this
      cases this
    simp [this]
  refine ⟨L.dropLast, L.getLast hne, (List.dropLast_concat_getLast hne).symm, ?_⟩
  have e : putL s v L = ((s, v) :: L.dropLast) ++ [L.getLast hne] := by
    unfold putL
    rw [hd, List.cons_append, List.dropLast_concat_getLast hne]
  unfold putR
  rw [if_neg (by omega), if_neg (by rw [e]; simp; omega), e, List.dropLast_concat, List.getLast?_concat]
  rfl
end Go.Proofs.Ytfmaoaigljjhgaa.Lru
