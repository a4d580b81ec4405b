/- The document's list (package nameplateref15), walked: what it answers, told by keys and values. -/
import Derived.Test.YtfmaoaigljjhgaaLruX
import Derived.Test.YtfmaoaigljjhgaaWLast
import Derived.Test.YtfmaoaigljjhgaaLruRow
set_option linter.unusedSimpArgs false
namespace Go.Proofs.Ytfmaoaigljjhgaa.Lru
open Go Go.RowKit Go.Maps Go.Proofs.YtfmaoaigljjhgaaW.PrintWords Go.Proofs.YtfmaoaigljjhgaaW.PrintLast

abbrev IT2 : Nat := 60
abbrev RT : Nat := 58
def kI : Kd KV := Kd.pair Kd.string (Kd.int .i64)
def zI : KV := (⟨#[]⟩, 0)
theorem kI_open {w : World} {x : KV} {cs : List Value} (h : kI.K w x cs) : cs = [.string x.1, .int .i64 x.2] := by
  obtain ⟨_, _, rfl, rfl, rfl⟩ := h
  rfl
theorem kI_mkM (w : World) (base : Nat) (ok : Nat → Prop) (x : KV) : kI.M w base ok x [.string x.1, .int .i64 x.2] := ⟨[.string x.1], [.int .i64 x.2], rfl, rfl, rfl⟩
def rd_I (xs : List KV) (i : Int) : KV := xs.getD i.toNat zI
theorem at_I {w : World} {A : Option Addr} {n : Nat} {xs : List KV} (h : Kd.C kI w A n xs) (i : Int) (h0 : 0 ≤ i) (h1 : i < n) : ∃ ad , A = some ad ∧ w.cell? (ad.add (i.toNat * 2)) = some (.string (rd_I xs i).1) ∧ w.cell? ⟨(ad.add (i.toNat * 2)).block, (ad.add (i.toNat * 2)).off + 1, none⟩ = some (.int .i64 (rd_I xs i).2) := by
  obtain ⟨ad, c, e, _, hK, hc0⟩ := Kd.C_get h zI i h0 h1
  have hc : ∀ j u, c[j]? = some u → w.cell? (ad.add (i.toNat * 2 + j)) = some u := hc0
  obtain rfl := kI_open hK
  exact ⟨ad, e, hc 0 _ rfl, by rw [← add_field _ _ 1 (by omega)]; exact hc 1 _ rfl⟩
theorem rd_I_at {L : List KV} {i : Nat} (hi : i < L.length) : rd_I L (i : Int) = L[i] := by
  unfold rd_I
  rw [Int.toNat_natCast, List.getD_eq_getElem?_getD, List.getElem?_eq_getElem hi]
  rfl
/-- The document's list: its bound, its row. -/
def XR (g base : Nat) (most : Int) (v : Value) (L : List KV) (W : World) : Prop := W.heap[g]? = some (.cells #[.int .i64 most, v] RT (0, 0)) ∧ Kd.R kI IT2 W base (fun k => v.ownBlock = some k) v L
def GR (g : Nat) (v : Value) (k : Nat) : Prop := k = g ∨ v.ownBlock = some k
theorem stays_XR (g base : Nat) (most : Int) (v : Value) (L : List KV) : Stays (XR g base most v L) (GR g v) :=
  fun _ _ h hx => ⟨(h g (.inl rfl)).trans hx.1, Kd.R_move hx.2 (fun k hk => h k (.inr hk))⟩
section
variable {g base : Nat} {most : Int} {v : Value} {L : List KV} {w w' : World}
theorem XR.lt (h : XR g base most v L w) : g < w.heap.size := (Array.getElem?_eq_some_iff.1 h.1).1
theorem XR.cells (h : XR g base most v L w) : w.cell? ⟨g, 0, none⟩ = some (.int .i64 most) ∧ w.cell? ⟨g, 1, none⟩ = some v ∧ w.frozen? ⟨g, 1, none⟩ = false := by
  have h' : w.heap[g]? = _ := h.1
  exact ⟨by simp [World.cell?, h'], by simp [World.cell?, h'], by simp [World.frozen?, h']⟩
theorem XR.form (h : XR g base most v L w) : ∃ A c, v = .slice A L.length c ∧ L.length ≤ c ∧ Kd.C kI w A L.length L := Kd.R_reads h.2
theorem XR.below (h : XR g base most v L w) (hb : Below w.heap.size w w') : XR g base most v L w' :=
  ⟨(hb.block g h.lt).trans h.1, Kd.R_below h.2 hb⟩
theorem XR.ne (h : XR g base most v L w) : ∀ k, v.ownBlock = some k → k ≠ g ∧ k < w.heap.size := by
  intro k hk
  obtain ⟨_, inner, ho, _⟩ := h.2
  obtain ⟨cells, hc⟩ := own_typed ho k hk
  refine ⟨fun e => ?_, own_lt ho k hk⟩
  rw [e, h.1] at hc
  injection hc with hc
  injection hc with _ hc
  revert hc
  decide
end
/-- Where a key is: its place, or -1. -/
def fI (s : ByteArray) (L : List KV) : Int := match L.findIdx? (fun p => decide (p.1 = s)) with
  | some i => (i : Int)
  | none => -1
theorem fI_none {s : ByteArray} {L : List KV} (h : ∀ i (hi : i < L.length), L[i].1 ≠ s) : fI s L = -1 := by
  unfold fI
  rw [List.findIdx?_eq_none_iff.2]
  intro p hp
  obtain ⟨i, hi, rfl⟩ := List.mem_iff_getElem.1 hp
  simp [h i hi]
theorem fI_some {s : ByteArray} {L : List KV} {i : Nat} (hi : i < L.length) (h : L[i].1 = s) (hf : ∀ j (hj : j < i), (L[j]'(by omega)).1 ≠ s) : fI s L = (i : Int) := by
  unfold fI
  rw [List.findIdx?_eq_some_iff_getElem.2 ⟨hi, by simp [h], fun j hj => by simp [hf j hj]⟩]
theorem toList_ne {s t : ByteArray} (h : ¬ s = t) : (s.toList == t.toList) = false := by
  rw [beq_eq_false_iff_ne]
  intro e
  rw [ByteArray.toList_eq, ByteArray.toList_eq] at e
  apply h
  cases s
  cases t
  congr 1
  exact Array.toList_inj.1 e
set_option maxHeartbeats 4000000 in
set_option maxRecDepth 100000 in
theorem rFind {g base : Nat} {most : Int} {v : Value} {L : List KV} {w : World} (h : XR g base most v L w) (s : ByteArray) (hl : L.length ≤ 1000) :
    Calls Try.prog 43 #[.pointer (some ⟨g, 0, none⟩), .string s] w fun e w' => e = .returned (.int .i64 (fI s L)) ∧ Drawn0 w w' := by
  obtain ⟨A, c, rfl, hlc, hC⟩ := h.form
  obtain ⟨k0, k1, _⟩ := h.cells
  have HC := Aside0.mk hC
  have HL := Aside0.mk hl
  clear hC hl
  go_enter Try.func43, Try.ntmps43
  go_wp2
  go_loopg [5] L.length (fun kq v5 w' => ∃ (j n : Nat), v5 = .int .i64 (j : Int) ∧ Aside0 (j + kq = L.length) ∧ Aside0 (∀ i (hi : i < j) (hl : i < L.length), L[i].1 ≠ s) ∧ w' = w.drewN n)
  case atStart => exact ⟨0, 0, rfl, ⟨by omega⟩, ⟨fun i hi => by omega⟩, rfl⟩
  case round =>
    obtain ⟨j, n, rfl, HJ, HN, rfl⟩ := hrel
    have hJ := HJ.out
    by_cases hj : j < L.length
    · obtain ⟨ad, e5, x0, _⟩ := at_I HC.out (j : Int) (by omega) (by omega)
      subst e5
      rw [Int.toNat_natCast, rd_I_at hj] at x0
      have q1 : (j : Int) < (L.length : Int) := by omega
      obtain ⟨t, ht⟩ : ∃ t, L[j].1 = t := ⟨_, rfl⟩
      rw [ht] at x0
      have HT := Aside0.mk ht
      clear ht
      by_cases hs : t = s
      · subst hs
        have hf := fI_some hj HT.out (fun i hi => HN.out i hi (by omega))
        have HF := Aside0.mk hf
        clear hf
        go_wp2
        go_ret
        exact ⟨by rw [HF.out]; rfl, _, rfl⟩
      · have hb2 : (t.toList == s.toList) = false := toList_ne hs
        have HS := Aside0.mk hs
        clear hs
        go_wp2
        go_roundg (gk - 1)
        case measure => omega
        case rel =>
          have hj9 : (j : Int) ≤ 1000 := by have := HL.out; omega
          refine ⟨j + 1, _, (by first | exact int_step (by omega) | rfl | simp), ⟨by omega⟩, ⟨fun i hi hl => ?_⟩, rfl⟩
          by_cases hij : i = j
          · subst hij
            rw [HT.out]
            exact HS.out
          · exact HN.out i (by omega) hl
    · have hf := fI_none (s := s) (L := L) (fun i hi => HN.out i (by omega) hi)
      go_wp2
      go_ret
      exact ⟨by rw [hf]; rfl, _, rfl⟩
theorem look_at {s : ByteArray} {L : List KV} {i : Nat} (hi : i < L.length) (h : L[i].1 = s) (hf : ∀ j (hj : j < i), (L[j]'(by omega)).1 ≠ s) : lookL s L = (L[i].2, true) := by
  have e : L.find? (fun p => decide (p.1 = s)) = some L[i] := List.find?_eq_some_iff_getElem.2 ⟨by simp [h], i, hi, rfl, fun j hj => by simp [hf j hj]⟩
  unfold lookL
  rw [e]
theorem get_at {s : ByteArray} {L : List KV} {i : Nat} (hi : i < L.length) (h : L[i].1 = s) (hf : ∀ j (hj : j < i), (L[j]'(by omega)).1 ≠ s) : getL s L = (L[i].1, L[i].2) :: dropL s L := by
  have e : L.find? (fun p => decide (p.1 = s)) = some L[i] := List.find?_eq_some_iff_getElem.2 ⟨by simp [h], i, hi, rfl, fun j hj => by simp [hf j hj]⟩
  unfold getL
  rw [e]
theorem C_takeI {w : World} {A : Option Addr} {n : Nat} {L : List KV} (h : Kd.C kI w A n L) (i : Nat) (hi : i ≤ n) : Kd.C kI w A i (L.take i) := by
  obtain ⟨h1, h2, h3⟩ := h
  refine ⟨by rw [List.length_take]; omega, by omega, fun hp => ?_⟩
  obtain ⟨ad, e, h4⟩ := h3 (by omega)
  refine ⟨ad, e, fun j p hj => h4 j p ?_⟩
  rw [List.getElem?_take] at hj
  split at hj
  · exact hj
  · cases hj
theorem C_dropI {w : World} {ad : Addr} {n c : Nat} {L : List KV} {A2 : Option Addr} (h : Kd.C kI w (some ad) n L) (i : Nat) (hi : i ≤ n) (e2 : (if c = i then some ad else some (ad.add (i * 2))) = A2) (hc : n ≤ c) : Kd.C kI w A2 (n - i) (L.drop i) := by
  obtain ⟨h1, h2, h3⟩ := h
  refine ⟨by rw [List.length_drop]; omega, by omega, fun hp => ?_⟩
  obtain ⟨ad', e, h4⟩ := h3 (by omega)
  obtain rfl := Option.some.inj e
  rw [if_neg (by omega)] at e2
  refine ⟨_, e2.symm, fun j p hj => ?_⟩
  rw [List.getElem?_drop] at hj
  obtain ⟨c, hl, hK, hc⟩ := h4 (i + j) p hj
  refine ⟨c, hl, hK, fun q u hu => ?_⟩
  have := hc q u hu
  show w.cell? ((ad.add (i * 2)).add (j * 2 + q)) = some u
  rw [Deep.add_add]
  have e3 : i * 2 + (j * 2 + q) = (i + j) * 2 + q := by omega
  rw [e3]
  exact this
theorem I_reads {w : World} {A : Option Addr} {n : Nat} {L : List KV} (h : Kd.C kI w A n L) : ReadsRow (fun x cs => cs = [.string x.1, .int .i64 x.2]) 2 w A n L :=
  ReadsRow.imp_ h (Below.refl _ _) (fun _ _ hp => kI_open hp)
theorem infoI : (Try.prog.info? IT2).map (fun i => (i.zero, i.size, i.bytes)) = some (some (.agg #[.string ⟨#[]⟩, .int .i64 0]), 2, 24) := by kernel_rfl
theorem cell_under {w W : World} {p : Addr} {v : Value} (hb : Below w.heap.size w W) (hg : p.block < w.heap.size) (k : w.cell? p = some v) : W.cell? p = some v := (hb.cell hg).trans k
theorem frozen_under {w W : World} {p : Addr} (hb : Below w.heap.size w W) (hg : p.block < w.heap.size) (k : w.frozen? p = false) : W.frozen? p = false := by
  rw [← k]
  unfold World.frozen?
  rw [hb.block p.block hg]
theorem R_lit0 {w W : World} (h : W.heap[w.heap.size]? = some (.cells #[] IT2 (0, 0))) : Kd.R kI IT2 W w.heap.size (fun _ => True) (.slice (some ⟨w.heap.size, 0, none⟩) 0 0) [] :=
  ⟨fun _ _ => trivial, [], ⟨rfl, .inr ⟨w.heap.size, 0, #[], rfl, Nat.le_refl _, h, Nat.le_refl _, by unfold maxLen; decide, rfl, rfl⟩⟩, Reps.none _ _⟩
theorem R_lit1 {base : Nat} {W : World} {s : ByteArray} {x : Int} (h : W.heap[base]? = some (.cells #[.string s, .int .i64 x] IT2 (0, 0))) : Kd.R kI IT2 W base (fun _ => True) (.slice (some ⟨base, 0, none⟩) 1 1) [(s, x)] :=
  ⟨fun _ _ => trivial, [.string s, .int .i64 x], ⟨rfl, .inr ⟨base, 1, #[.string s, .int .i64 x], rfl, Nat.le_refl _, h, Nat.le_refl _, by unfold maxLen; decide, rfl, rfl⟩⟩, by
    have := Reps.snoc (Reps.none (kI.M W base (fun k => True ∧ some k ≠ Value.ownBlock (.slice (some ⟨base, 0, none⟩) 1 1))) 2) (kI_mkM W base _ (s, x)) rfl
    exact this⟩
set_option maxHeartbeats 4000000 in
set_option maxRecDepth 100000 in
theorem rWithout {g base : Nat} {most : Int} {v : Value} {L : List KV} {w : World} (h : XR g base most v L w) (i : Nat) (hi : i < L.length) (hl : L.length ≤ 1000) :
    Calls Try.prog 44 #[.pointer (some ⟨g, 0, none⟩), .int .i64 (i : Int)] w fun e w' => ∃ v', e = .returned v' ∧ Kd.R kI IT2 w' w.heap.size (fun _ => True) v' (L.take i ++ L.drop (i + 1)) ∧ Below w.heap.size w w' := by
  obtain ⟨A, c, rfl, hlc, hC⟩ := h.form
  obtain ⟨k0, k1, _⟩ := h.cells
  obtain ⟨ad, rfl, _⟩ := at_I hC (i : Int) (by omega) (by omega)
  have hg := h.lt
  have HC := Aside0.mk hC
  have HL := Aside0.mk hl
  have HG := Aside0.mk hg
  have q1 : (i : Int) ≤ (L.length : Int) := by omega
  have q2 : (i : Int) + 1 ≤ (L.length : Int) := by omega
  have q3 : (L.length : Int) ≤ (c : Int) := by omega
  have HI := Aside0.mk hi
  clear hC hl hg
  obtain ⟨A2, hA2⟩ : ∃ A2, (if c = i + 1 then some ad else some (ad.add ((i + 1) * 2))) = A2 := ⟨_, rfl⟩
  have HA2 := Aside0.mk hA2
  have HLC := Aside0.mk hlc
  have hw : wrap64 ((i : Int) + 1) = ((i + 1 : Nat) : Int) := wrap_nat i (by have := HL.out; omega)
  have q4 : i ≤ c := by omega
  have q5 : ((i + 1 : Nat) : Int) ≤ (L.length : Int) := by omega
  have q6 : i + 1 ≤ L.length := by omega
  have q7 : 0 ≤ (i : Int) + 1 := by omega
  go_enter Try.func44, Try.ntmps44
  go_wp2
  refine start_ (n := 17) (S := fun w' => w'.cell? ⟨g, 1, none⟩ = some (.slice (some ad) L.length c)) (ds := []) #[false, false, false, false, false, false, false, false, false, false, false, false, false, false, false, false, false] (by kernel_rfl) rfl rfl (k1) (fun hHeld => ?_)
  refine pure_ (i := 1) (N := some 6) (v := ?_) (a' := ?_) #[false, true, false, false, false, false, false, false, false, false, false, false, false, false, false, false, false] rfl rfl (by kernel_rfl) (fun _ _ _ h => h) (Or.inl ⟨by rfl, ?_⟩) ?_ ?_
  rotate_left
  · intro w'
    go_simp
    with_reducible rfl
  rotate_left
  · simp only [Act.put, List.setIfInBounds_toArray, List.set_cons_zero, List.set_cons_succ, i64_w, i32_w]
    rfl
  refine pure_ (i := 2) (N := some 7) (v := ?_) (a' := ?_) #[false, true, true, false, false, false, false, false, false, false, false, false, false, false, false, false, false] rfl rfl (by kernel_rfl) (fun _ _ _ h => h) (Or.inl ⟨by rfl, ?_⟩) ?_ ?_
  rotate_left
  · intro w'
    go_simp
    with_reducible rfl
  rotate_left
  · simp only [Act.put, List.setIfInBounds_toArray, List.set_cons_zero, List.set_cons_succ, i64_w, i32_w]
    rfl
  refine pure_ (i := 3) (N := some 8) (v := ?_) (a' := ?_) #[false, true, true, true, false, false, false, false, false, false, false, false, false, false, false, false, false] rfl rfl (by kernel_rfl) (fun _ _ _ h => h) (Or.inl ⟨by rfl, ?_⟩) ?_ ?_
  rotate_left
  · intro w'
    go_simp
    with_reducible rfl
  rotate_left
  · simp only [Act.put, List.setIfInBounds_toArray, List.set_cons_zero, List.set_cons_succ, i64_w, i32_w]
    rfl
  refine pure_ (i := 5) (N := some 10) (v := ?_) (a' := ?_) #[false, true, true, true, false, true, false, false, false, false, false, false, false, false, false, false, false] rfl rfl (by kernel_rfl) (fun _ _ _ h => h) (Or.inl ⟨by rfl, ?_⟩) ?_ ?_
  rotate_left
  · intro w'
    go_simp
    with_reducible rfl
  rotate_left
  · simp only [Act.put, List.setIfInBounds_toArray, List.set_cons_zero, List.set_cons_succ, i64_w, i32_w]
    rfl
  refine pure_ (i := 8) (N := some 13) (v := ?_) (a' := ?_) #[false, true, true, true, false, true, false, false, true, false, false, false, false, false, false, false, false] rfl rfl (by kernel_rfl) (fun _ _ _ h => h) (Or.inl ⟨by rfl, ?_⟩) ?_ ?_
  rotate_left
  · intro w'
    go_simp
    with_reducible rfl
  rotate_left
  · simp only [Act.put, List.setIfInBounds_toArray, List.set_cons_zero, List.set_cons_succ, i64_w, i32_w]
    rfl
  refine pure_ (i := 9) (N := some 14) (v := ?_) (a' := ?_) #[false, true, true, true, false, true, false, false, true, true, false, false, false, false, false, false, false] rfl rfl (by kernel_rfl) (fun _ _ _ h => h) (Or.inl ⟨by rfl, ?_⟩) ?_ ?_
  rotate_left
  · intro w'
    go_simp
    with_reducible rfl
  rotate_left
  · simp only [Act.put, List.setIfInBounds_toArray, List.set_cons_zero, List.set_cons_succ, i64_w, i32_w]
    rfl
  refine pure_ (i := 10) (N := some 15) (v := ?_) (a' := ?_) #[false, true, true, true, false, true, false, false, true, true, true, false, false, false, false, false, false] rfl rfl (by kernel_rfl) (fun _ _ _ h => h) (Or.inl ⟨by rfl, ?_⟩) ?_ ?_
  rotate_left
  · intro w'
    go_simp
    with_reducible rfl
  rotate_left
  · simp only [Act.put, List.setIfInBounds_toArray, List.set_cons_zero, List.set_cons_succ, i64_w, i32_w]
    rfl
  refine pure_ (i := 12) (N := some 17) (v := ?_) (a' := ?_) #[false, true, true, true, false, true, false, false, true, true, true, false, true, false, false, false, false] rfl rfl (by kernel_rfl) (fun _ _ _ h => h) (Or.inl ⟨by rfl, ?_⟩) ?_ ?_
  rotate_left
  · intro w'
    go_simp
    with_reducible rfl
  rotate_left
  · simp only [Act.put, List.setIfInBounds_toArray, List.set_cons_zero, List.set_cons_succ, i64_w, i32_w]
    rfl
  refine pure_ (i := 13) (N := some 18) (v := ?_) (a' := ?_) #[false, true, true, true, false, true, false, false, true, true, true, false, true, true, false, false, false] rfl rfl (by kernel_rfl) (fun _ _ _ h => h) (Or.inl ⟨by rfl, ?_⟩) ?_ ?_
  rotate_left
  · intro w'
    go_simp
    with_reducible rfl
  rotate_left
  · simp only [Act.put, List.setIfInBounds_toArray, List.set_cons_zero, List.set_cons_succ, i64_w, i32_w]
    rfl
  refine take_ (i := 4) (N := some 9) (v := ?_) (a' := ?_) #[false, true, true, true, true, true, false, false, true, true, true, false, true, true, false, false, false] rfl rfl (by kernel_rfl) (fun _ _ _ h => h) (Or.inl ⟨by rfl, ?_⟩) hHeld ?_ ?_
  rotate_left
  · intro w' s0
    go_simp
    with_reducible rfl
  rotate_left
  · simp only [Act.put, List.setIfInBounds_toArray, List.set_cons_zero, List.set_cons_succ, i64_w, i32_w]
    rfl
  refine pure_ (i := 6) (N := some 11) (v := ?_) (a' := ?_) #[false, true, true, true, true, true, true, false, true, true, true, false, true, true, false, false, false] rfl rfl (by kernel_rfl) (fun _ _ _ h => h) (Or.inl ⟨by rfl, ?_⟩) ?_ ?_
  rotate_left
  · intro w'
    go_simp
    with_reducible rfl
  rotate_left
  · simp only [Act.put, List.setIfInBounds_toArray, List.set_cons_zero, List.set_cons_succ, i64_w, i32_w]
    rfl
  refine take_ (i := 11) (N := some 16) (v := ?_) (a' := ?_) #[false, true, true, true, true, true, true, false, true, true, true, true, true, true, false, false, false] rfl rfl (by kernel_rfl) (fun _ _ _ h => h) (Or.inl ⟨by rfl, ?_⟩) hHeld ?_ ?_
  rotate_left
  · intro w' s0
    go_simp
    with_reducible rfl
  rotate_left
  · simp only [Act.put, List.setIfInBounds_toArray, List.set_cons_zero, List.set_cons_succ, i64_w, i32_w]
    rfl
  refine pure_ (i := 14) (N := some 19) (v := ?_) (a' := ?_) #[false, true, true, true, true, true, true, false, true, true, true, true, true, true, true, false, false] rfl rfl (by kernel_rfl) (fun _ _ _ h => h) (Or.inl ⟨by rfl, ?_⟩) ?_ ?_
  rotate_left
  · intro w'
    go_simp
    with_reducible rfl
  rotate_left
  · simp only [Act.put, List.setIfInBounds_toArray, List.set_cons_zero, List.set_cons_succ, i64_w, i32_w]
    rfl
  refine one_ (i := 0) (N := some 5) #[true, true, true, true, true, true, true, false, true, true, true, true, true, true, true, false, false] rfl rfl (by kernel_rfl) (by decide) (fun K hK => ?_)
  refine value_ (w1 := ?_) (v := ?_) (by rfl) rfl ?_ ?_
  rotate_left 2
  · go_simp
    constructor
    · rfl
    · rfl
  have HB0 : Aside0 (Below w.heap.size w (w.drew.alloc (.cells #[] IT2))) := ⟨((Below.refl _ _).drew).alloc (Nat.le_refl _) _⟩
  refine hK.out _ _ (cell_under HB0.out HG.out k1) (fun hHeld => ?_)
  clear hK K
  refine norm_ (a' := ?_) ?_ ?_
  rotate_left
  · show Act.put _ (some 5) _ = _
    simp only [Act.put, List.setIfInBounds_toArray, List.set_cons_zero, List.set_cons_succ, i64_w, i32_w]
    rfl
  refine one_ (i := 7) (N := some 12) #[true, true, true, true, true, true, true, true, true, true, true, true, true, true, true, false, false] rfl rfl (by kernel_rfl) (by decide) (fun K hK => ?_)
  refine Kd.R_append_rows_step kI (Rr := fun x cs => cs = [.string x.1, .int .i64 x.2]) (w0 := w) w.heap.size (by rfl) (.tmp 5) (.tmp 11) 56 IT2 (.agg #[.string ⟨#[]⟩, .int .i64 0]) 24 rfl Try.underlying56 infoI rfl (by decide) (by decide) _ [] (L.take i) _ _ _ (fun _ => True) (fun _ => False) rfl rfl ?aO ?aR (fun x cs hx => by subst hx; exact kI_mkM _ _ _ _) (fun _ hx => hx.elim) (fun _ _ => trivial) ?aB ?aS ?aL ?_
  case aO => exact R_lit0 (Below_new w.drew _)
  case aR => exact I_reads (C_takeI (Kd.C_below HC.out HB0.out) i (by have := HI.out; omega))
  case aB => exact HB0.out
  case aS => exact HB0.out.size
  case aL => have := HL.out; have := HI.out; simp only [List.length_nil]; omega
  intro v1 w2 ho1 hb1 hg1 hat1
  have HO1 := Aside0.mk ho1
  have HB1 := Aside0.mk hb1
  clear ho1 hb1 hg1 hat1
  refine hK.out _ _ (cell_under HB1.out HG.out k1) (fun hHeld => ?_)
  clear hK K
  refine norm_ (a' := ?_) ?_ ?_
  rotate_left
  · show Act.put _ (some 12) _ = _
    simp only [Act.put, List.setIfInBounds_toArray, List.set_cons_zero, List.set_cons_succ, i64_w, i32_w]
    rfl
  refine one_ (i := 15) (N := some 20) #[true, true, true, true, true, true, true, true, true, true, true, true, true, true, true, true, false] rfl rfl (by kernel_rfl) (by decide) (fun K hK => ?_)
  refine Kd.R_append_rows_step kI (Rr := fun x cs => cs = [.string x.1, .int .i64 x.2]) (w0 := w) w.heap.size (by rfl) (.tmp 12) (.tmp 19) 56 IT2 (.agg #[.string ⟨#[]⟩, .int .i64 0]) 24 rfl Try.underlying56 infoI rfl (by decide) (by decide) v1 ([] ++ L.take i) (L.drop (i + 1)) _ _ _ (fun _ => True) (fun _ => False) rfl rfl ?aO ?aR (fun x cs hx => by subst hx; exact kI_mkM _ _ _ _) (fun _ hx => hx.elim) (fun _ _ => trivial) ?aB ?aS ?aL ?_
  case aO => exact HO1.out
  case aR => exact I_reads (C_dropI (Kd.C_below HC.out HB1.out) (i + 1) (by have := HI.out; omega) HA2.out HLC.out)
  case aB => exact HB1.out
  case aS => exact HB1.out.size
  case aL => have := HL.out; have := HI.out; simp only [List.nil_append, List.length_take]; omega
  intro v2 w3 ho2 hb2 hg2 hat2
  have HO2 := Aside0.mk ho2
  have HB2 := Aside0.mk hb2
  clear ho2 hb2 hg2 hat2
  refine hK.out _ _ (cell_under HB2.out HG.out k1) (fun hHeld => ?_)
  clear hK K
  refine norm_ (a' := ?_) ?_ ?_
  rotate_left
  · show Act.put _ (some 20) _ = _
    simp only [Act.put, List.setIfInBounds_toArray, List.set_cons_zero, List.set_cons_succ, i64_w, i32_w]
    rfl
  refine pure_ (i := 16) (N := some 4) (v := ?_) (a' := ?_) #[true, true, true, true, true, true, true, true, true, true, true, true, true, true, true, true, true] rfl rfl (by kernel_rfl) (fun _ _ _ h => h) (Or.inl ⟨by rfl, ?_⟩) ?_ ?_
  rotate_left
  · intro w'
    go_simp
    with_reducible rfl
  rotate_left
  · simp only [Act.put, List.setIfInBounds_toArray, List.set_cons_zero, List.set_cons_succ, i64_w, i32_w]
    rfl
  refine done_ (by kernel_rfl) ?_

  go_wp2
  go_ret
  exact ⟨v2, rfl, HO2.out, HB2.out⟩
set_option maxHeartbeats 4000000 in
set_option maxRecDepth 100000 in
theorem rLook {g base : Nat} {most : Int} {v : Value} {L : List KV} {w : World} (h : XR g base most v L w) (s : ByteArray) (hl : L.length ≤ 1000) :
    Calls Try.prog 31 #[.pointer (some ⟨g, 0, none⟩), .string s] w fun e w' => e = .returned (.tuple #[.int .i64 (lookL s L).1, .bool (lookL s L).2]) ∧ Drawn0 w w' := by
  obtain ⟨A, c, rfl, hlc, hC⟩ := h.form
  obtain ⟨k0, k1, _⟩ := h.cells
  have HF := Aside0.mk (rFind h s hl)
  go_enter Try.func31, Try.ntmps31
  cases hfi : L.findIdx? (fun p => decide (p.1 = s)) with
  | none =>
    have hv : fI s L = -1 := by unfold fI; rw [hfi]
    rw [hv] at HF
    have hlk : lookL s L = (0, false) := by
      unfold lookL
      rw [List.find?_eq_none.2 (by rw [List.findIdx?_eq_none_iff] at hfi; exact fun p hp => by simpa using hfi p hp)]
    rw [hlk]
    go_wp2_with (go_at_call 43; (with_reducible refine HF.out.mono ?_); rintro e w1 ⟨rfl, n1, rfl⟩)
    go_ret2
    exact ⟨rfl, _, rfl⟩
  | some i =>
    have hv : fI s L = (i : Int) := by unfold fI; rw [hfi]
    rw [hv] at HF
    obtain ⟨hi, h1, h2⟩ := List.findIdx?_eq_some_iff_getElem.1 hfi
    have hlk : lookL s L = (L[i].2, true) := look_at hi (by simpa using h1) (fun j hj => by simpa using h2 j hj)
    obtain ⟨ad, e5, _, x1⟩ := at_I hC (i : Int) (by omega) (by omega)
    subst e5
    rw [Int.toNat_natCast, rd_I_at hi] at x1
    rw [hlk]
    have q1 : (i : Int) < (L.length : Int) := by omega
    go_wp2_with (go_at_call 43; (with_reducible refine HF.out.mono ?_); rintro e w1 ⟨rfl, n1, rfl⟩)
    go_ret2
    exact ⟨rfl, _, rfl⟩
set_option maxHeartbeats 4000000 in
set_option maxRecDepth 100000 in
theorem rKeys {g base : Nat} {most : Int} {v : Value} {L : List KV} {w : World} (h : XR g base most v L w) (hl : L.length ≤ 1000) :
    Calls Try.prog 34 #[.pointer (some ⟨g, 0, none⟩)] w fun e w' => ∃ v', e = .returned v' ∧ Kd.R Kd.string 9 w' w.heap.size (fun _ => True) v' (L.map Prod.fst) ∧ Below w.heap.size w w' := by
  obtain ⟨A, c, rfl, hlc, hC⟩ := h.form
  obtain ⟨k0, k1, _⟩ := h.cells
  have hg := h.lt
  have HC := Aside0.mk hC
  have HL := Aside0.mk hl
  have HG := Aside0.mk hg
  have hB0 := Below.refl w.heap.size w
  have HB0 := Aside0.mk hB0
  clear hC hl hg hB0
  go_enter Try.func34, Try.ntmps34
  go_wp2
  go_loopg [3, 4] L.length (fun kq v3 v4 w' => ∃ j : Nat, v4 = .int .i64 (j : Int) ∧ Aside0 (j + kq = L.length) ∧ Aside0 (Kd.R Kd.string 9 w' w.heap.size (fun _ => True) v3 ((L.take j).map Prod.fst)) ∧ Aside0 (Below w.heap.size w w'))
  case atStart => exact ⟨0, rfl, ⟨by omega⟩, ⟨Kd.R_nil _ _ _ _ _⟩, HB0⟩
  case round =>
    clear HB0
    obtain ⟨j, rfl, HJ, HN, HB⟩ := hrel
    have hJ := HJ.out
    have k1 := cell_under HB.out HG.out k1
    by_cases hj : j < L.length
    · obtain ⟨ad, e5, x0, _⟩ := at_I (Kd.C_below HC.out HB.out) (j : Int) (by omega) (by omega)
      subst e5
      rw [Int.toNat_natCast, rd_I_at hj] at x0
      have q1 : (j : Int) < (L.length : Int) := by omega
      obtain ⟨t, ht⟩ : ∃ t, L[j].1 = t := ⟨_, rfl⟩
      rw [ht] at x0
      have hsn : (L.take (j + 1)).map Prod.fst = (L.take j).map Prod.fst ++ [t] := by
        rw [List.take_succ_eq_append_getElem hj, List.map_append, ← ht]
        rfl
      have HSN := Aside0.mk hsn
      have HNS : Aside0 (((L.take j).map Prod.fst).length ≤ 1000) := ⟨by have := HL.out; rw [List.length_map, List.length_take]; omega⟩
      clear ht hsn
      go_wp2_with (first | (at_builtin; change wpList _ _ _ _ _ (wr.alloc (.cells #[.string t] 9)); refine Kd.R_append Kd.string w.heap.size rfl (.tmp 14) (.tmp 23) 31 9 (.string ⟨#[]⟩) 16 rfl Try.underlying31 info_str rfl (by decide) (by omega) u3 ((L.take j).map Prod.fst) t [.string t] (fun _ => True) (fun _ => False) rfl rfl ?aP (fun _ hk => hk.elim) ?aF ?aO (Below.refl _ _) ?aS ?aL ?_; (case aP => exact rfl); (case aF => exact (fun _ _ => trivial)); (case aO => exact HN.out); (case aS => exact HB.out.size); (case aL => have := HNS.out; omega); intro v7 w6 ho hb hg hat; have HO6 := Aside0.mk ho; have HH6 := Aside0.mk hb; clear ho hg hb hat))
      go_roundg (gk - 1)
      case measure => omega
      case rel =>
        refine ⟨j + 1, int_step (by have := HL.out; omega), ⟨by omega⟩, ⟨?_⟩, ⟨?_⟩⟩
        · rw [HSN.out]
          exact HO6.out
        · have h7 : Below w.heap.size wr w6 := HH6.out
          exact HB.out.trans h7
    · have hN := HN.out
      rw [List.take_of_length_le (by omega)] at hN
      have HN2 := Aside0.mk hN
      clear hN
      go_wp2
      go_ret
      exact ⟨_, rfl, HN2.out, HB.out⟩
set_option maxHeartbeats 4000000 in
set_option maxRecDepth 100000 in
theorem rNew (m : Int) (w : World) : Calls Try.prog 28 #[.int .i64 m] w fun e w' => e = .returned (.pointer (some ⟨w.heap.size, 0, none⟩)) ∧ XR w.heap.size w.heap.size (if 0 < m then m else 0) (.slice none 0 0) [] w' ∧ Below w.heap.size w w' := by
  go_enter Try.func28, Try.ntmps28
  go_wp2
  · go_ret
    exact ⟨rfl, ⟨Below_new w _, Kd.R_nil _ _ _ _ _⟩, (Below.refl _ _).alloc (Nat.le_refl _) _⟩
  · go_ret
    exact ⟨rfl, ⟨Below_new w _, Kd.R_nil _ _ _ _ _⟩, (Below.refl _ _).alloc (Nat.le_refl _) _⟩
theorem kI_openM {w : World} {base : Nat} {ok : Nat → Prop} {x : KV} {cs : List Value} (h : kI.M w base ok x cs) : cs = [.string x.1, .int .i64 x.2] := by
  obtain ⟨_, _, rfl, rfl, rfl⟩ := h
  rfl
theorem R_tight {W : World} {base : Nat} {ok : Nat → Prop} {v : Value} {L : List KV} (h : Kd.R kI IT2 W base ok v L) : Kd.R kI IT2 W base (fun k => v.ownBlock = some k) v L := by
  obtain ⟨_, inner, ho, hr⟩ := h
  exact ⟨fun _ hk => hk, inner, ho, hr.imp_ (fun _ _ hp => by obtain rfl := kI_openM hp; exact kI_mkM _ _ _ _)⟩
theorem drop_mid {s : ByteArray} {A B : List KV} {p : KV} (hp : p.1 = s) (hnd : ((A ++ p :: B).map Prod.fst).Nodup) : dropL s (A ++ p :: B) = A ++ B := by
  rw [List.map_append, List.map_cons, List.nodup_append] at hnd
  obtain ⟨_, hB, hAB⟩ := hnd
  have ha : ∀ q ∈ A, q.1 ≠ s := fun q hq e => hAB q.1 (List.mem_map_of_mem hq) p.1 List.mem_cons_self (e.trans hp.symm)
  have hb : ∀ q ∈ B, q.1 ≠ s := fun q hq e => (List.nodup_cons.1 hB).1 (by rw [hp, ← e]; exact List.mem_map_of_mem hq)
  unfold dropL
  rw [List.filter_append, List.filter_cons, if_neg (by simp [hp]), List.filter_eq_self.2 (fun q hq => by simp [ha q hq]), List.filter_eq_self.2 (fun q hq => by simp [hb q hq])]
theorem drop_at {s : ByteArray} {L : List KV} {i : Nat} (hi : i < L.length) (h : L[i].1 = s) (hnd : (L.map Prod.fst).Nodup) : dropL s L = L.take i ++ L.drop (i + 1) := by
  have e : L = L.take i ++ L[i] :: L.drop (i + 1) := by
    conv => lhs; rw [← List.take_append_drop i L, List.drop_eq_getElem_cons hi]
  conv => lhs; rw [e]
  exact drop_mid h (by rw [← e]; exact hnd)
theorem has_at {s : ByteArray} {L : List KV} {i : Nat} (hi : i < L.length) (h : L[i].1 = s) : hasL s L = true := by
  unfold hasL
  rw [List.any_eq_true]
  exact ⟨L[i], List.getElem_mem hi, by simp [h]⟩
theorem none_has {s : ByteArray} {L : List KV} (h : L.findIdx? (fun p => decide (p.1 = s)) = none) : hasL s L = false ∧ dropL s L = L := by
  rw [List.findIdx?_eq_none_iff] at h
  refine ⟨?_, ?_⟩
  · unfold hasL
    rw [List.any_eq_false]
    exact fun p hp => by simpa using h p hp
  · unfold dropL
    rw [List.filter_eq_self]
    exact fun p hp => by simpa using h p hp
theorem XR.store {g base : Nat} {most : Int} {v v' : Value} {L L' : List KV} {w w2 : World} (h : XR g base most v L w) (hb2 : Below w.heap.size w w2) (hR : Kd.R kI IT2 w2 w.heap.size (fun _ => True) v' L') (hb : base ≤ w.heap.size) :
    XR g base most v' L' (w2.setCell ⟨g, 1, none⟩ v') ∧ Turn (fun k => k = g) w (w2.setCell ⟨g, 1, none⟩ v') ∧ ∀ k, v'.ownBlock = some k → w.heap.size ≤ k := by
  have hR1 := R_tight hR
  have hge : ∀ k, v'.ownBlock = some k → w.heap.size ≤ k := by
    obtain ⟨_, inner, ho, _⟩ := hR
    exact fun k hk => own_base ho k hk
  have hg := h.lt
  have hh := (h.below hb2).1
  refine ⟨⟨by simpa using blk_set hh 1 v', Kd.R_far (Kd.R_lower hR1 hb) (fun k hk => by have := hge k hk; simp only; omega) v'⟩, ?_, hge⟩
  have ht : Turn (fun k => k = g) w2 (w2.setCell ⟨g, 1, none⟩ v') := Turn.setCell (F := fun k => k = g) _ (a := ⟨g, 1, none⟩) rfl _
  exact (Turn.of_below hb2).trans ht
set_option maxHeartbeats 4000000 in
set_option maxRecDepth 100000 in
theorem rDrop {g base : Nat} {most : Int} {v : Value} {L : List KV} {w : World} (h : XR g base most v L w) (s : ByteArray) (hl : L.length ≤ 1000) (hnd : (L.map Prod.fst).Nodup) (hb : base ≤ w.heap.size) :
    Calls Try.prog 32 #[.pointer (some ⟨g, 0, none⟩), .string s] w fun e w' => e = .returned (.bool (hasL s L)) ∧ ∃ v', XR g base most v' (dropL s L) w' ∧ Turn (fun k => k = g) w w' ∧ ∀ k, v'.ownBlock = some k → v.ownBlock = some k ∨ w.heap.size ≤ k := by
  have HX := Aside0.mk h
  obtain ⟨k0, k1, f1⟩ := h.cells
  have HF := Aside0.mk (rFind h s hl)
  have HWO := Aside0.mk (fun m i hi => rWithout (h.below (pw_below_drewN (Below.refl _ _) m)) i hi hl)
  have HG := Aside0.mk h.lt
  clear h
  go_enter Try.func32, Try.ntmps32
  cases hfi : L.findIdx? (fun p => decide (p.1 = s)) with
  | none =>
    have hv : fI s L = -1 := by unfold fI; rw [hfi]
    obtain ⟨hn1, hn2⟩ := none_has hfi
    rw [hv] at HF
    rw [hn1, hn2]
    go_wp2_with (go_at_call 43; (with_reducible refine HF.out.mono ?_); rintro e w1 ⟨rfl, n1, rfl⟩)
    go_ret
    exact ⟨rfl, v, HX.out.below (pw_below_drewN (Below.refl _ _) _), Turn.of_below (pw_below_drewN (Below.refl _ _) _), fun k hk => .inl hk⟩
  | some i =>
    have hv : fI s L = (i : Int) := by unfold fI; rw [hfi]
    rw [hv] at HF
    obtain ⟨hi, h1, h2⟩ := List.findIdx?_eq_some_iff_getElem.1 hfi
    have h1' : L[i].1 = s := by simpa using h1
    rw [has_at hi h1']
    have HW2 := Aside0.mk (fun m => by have hw := HWO.out m i hi; rw [← drop_at hi h1' hnd] at hw; exact hw)
    clear hfi h1 h2 h1' hi hv
    go_wp2_with (first
      | (go_at_call 43; (with_reducible refine HF.out.mono ?_); rintro e w1 ⟨rfl, n1, rfl⟩)
      | (go_at_call 44; (with_reducible refine (HW2.out _).mono ?_); rintro e w2 ⟨v2, rfl, hr2, hb2⟩; obtain ⟨A2, c2, rfl, _, _⟩ := Kd.R_reads hr2; have hb3 : Below w.heap.size w w2 := (pw_below_drewN (Below.refl _ _) _).trans hb2; have k1 := cell_under hb3 HG.out k1; have f1 := frozen_under hb3 HG.out f1; have HR2 := Aside0.mk hr2; have HB3 := Aside0.mk hb3; clear hr2 hb2 hb3))
    go_ret
    obtain ⟨r1, r2, r3⟩ := HX.out.store HB3.out HR2.out hb
    exact ⟨rfl, _, r1, r2, fun k hk => .inr (r3 k hk)⟩
set_option maxHeartbeats 4000000 in
set_option maxRecDepth 100000 in
theorem rGet {g base : Nat} {most : Int} {v : Value} {L : List KV} {w : World} (h : XR g base most v L w) (s : ByteArray) (hl : L.length ≤ 1000) (hnd : (L.map Prod.fst).Nodup) (hb : base ≤ w.heap.size) :
    Calls Try.prog 30 #[.pointer (some ⟨g, 0, none⟩), .string s] w fun e w' => e = .returned (.tuple #[.int .i64 (lookL s L).1, .bool (lookL s L).2]) ∧ ∃ v', XR g base most v' (getL s L) w' ∧ Turn (fun k => k = g) w w' ∧ ∀ k, v'.ownBlock = some k → v.ownBlock = some k ∨ w.heap.size ≤ k := by
  have HX := Aside0.mk h
  obtain ⟨k0, k1, f1⟩ := h.cells
  have HF := Aside0.mk (rFind h s hl)
  have HWO := Aside0.mk (fun W (hbW : Below w.heap.size w W) i hi => rWithout (h.below hbW) i hi hl)
  have HG := Aside0.mk h.lt
  obtain ⟨A, c, rfl, hlc, hC⟩ := h.form
  clear h
  go_enter Try.func30, Try.ntmps30
  cases hfi : L.findIdx? (fun p => decide (p.1 = s)) with
  | none =>
    have hv : fI s L = -1 := by unfold fI; rw [hfi]
    have hlk : lookL s L = (0, false) ∧ getL s L = L := by
      have e : L.find? (fun p => decide (p.1 = s)) = none := List.find?_eq_none.2 (by rw [List.findIdx?_eq_none_iff] at hfi; exact fun p hp => by simpa using hfi p hp)
      unfold lookL getL
      rw [e]
      exact ⟨rfl, rfl⟩
    rw [hv] at HF
    rw [hlk.1, hlk.2]
    go_wp2_with (go_at_call 43; (with_reducible refine HF.out.mono ?_); rintro e w1 ⟨rfl, n1, rfl⟩)
    go_ret2
    exact ⟨rfl, _, HX.out.below (pw_below_drewN (Below.refl _ _) _), Turn.of_below (pw_below_drewN (Below.refl _ _) _), fun k hk => .inl hk⟩
  | some i =>
    have hv : fI s L = (i : Int) := by unfold fI; rw [hfi]
    rw [hv] at HF
    obtain ⟨hi, h1, h2⟩ := List.findIdx?_eq_some_iff_getElem.1 hfi
    have h1' : L[i].1 = s := by simpa using h1
    have hlk : lookL s L = (L[i].2, true) := look_at hi h1' (fun j hj => by simpa using h2 j hj)
    obtain ⟨ad, e5, x0, x1⟩ := at_I hC (i : Int) (by omega) (by omega)
    subst e5
    rw [Int.toNat_natCast, rd_I_at hi] at x0 x1
    have q1 : (i : Int) < (L.length : Int) := by omega
    have HW2 := Aside0.mk (fun W hbW => by have hw := HWO.out W hbW i hi; rw [← drop_at hi h1' hnd] at hw; exact hw)
    rw [hlk]
    have hadb : (ad.add (i * 2)).block < w.heap.size := by rw [Go.Proofs.YtfmaoaigljjhgaaW.PrintWords.add_block]; exact (HX.out.ne ad.block rfl).2
    obtain ⟨key, hkey⟩ : ∃ q, L[i].1 = q := ⟨_, rfl⟩
    obtain ⟨val, hval⟩ : ∃ q, L[i].2 = q := ⟨_, rfl⟩
    rw [hkey] at x0
    rw [hval] at x1
    have hgl : getL s L = (key, val) :: dropL s L := by rw [← hkey, ← hval]; exact get_at hi h1' (fun j hj => by simpa using h2 j hj)
    rw [hgl, hval]
    have HD1 : Aside0 ((dropL s L).length ≤ 1000) := ⟨Nat.le_trans (dropL_length s L) hl⟩
    clear hfi h1 h2 h1' hv hlk hkey hval hgl
    go_wp2_with (first
      | (go_at_call 43; (with_reducible refine HF.out.mono ?_); rintro e w1 ⟨rfl, n1, hw1⟩; have hb1 : Below w.heap.size w w1 := (by rw [hw1]; exact pw_below_drewN (Below.refl _ _) n1); have k1 := cell_under hb1 HG.out k1; have f1 := frozen_under hb1 HG.out f1; have x0 := cell_under (p := ad.add (i * 2)) hb1 hadb x0; have x1 := cell_under (p := ⟨(ad.add (i * 2)).block, (ad.add (i * 2)).off + 1, none⟩) hb1 hadb x1; have HB1 := Aside0.mk hb1; clear hb1 hw1))
    obtain ⟨W2, hW2⟩ : ∃ q, w1.alloc (.cells #[.string key, .int .i64 val] IT2) = q := ⟨_, rfl⟩
    obtain ⟨xb, hxb⟩ : ∃ q, w1.heap.size = q := ⟨_, rfl⟩
    have hz2 : W2.heap.size = w1.heap.size + 1 := by rw [← hW2]; simp
    have hb12 : Below w1.heap.size w1 W2 := by rw [← hW2]; exact (Below.refl _ _).alloc (Nat.le_refl _) _
    have xcb : W2.heap[xb]? = some (.cells #[.string key, .int .i64 val] IT2 (0, 0)) := by rw [← hW2, ← hxb]; exact Below_new w1 _
    have xc0 : W2.cell? ⟨xb, 0, none⟩ = some (.string key) := by simp [World.cell?, xcb]
    have xc1 : W2.cell? ⟨xb, 1, none⟩ = some (.int .i64 val) := by simp [World.cell?, xcb]
    have HBW2 : Aside0 (Below w.heap.size w W2) := ⟨HB1.out.trans (hb12.mono HB1.out.size)⟩
    have k1 := cell_under HBW2.out HG.out (HX.out.cells.2.1)
    have f1 := frozen_under HBW2.out HG.out (HX.out.cells.2.2)
    have HXB : Aside0 (xb < W2.heap.size) := ⟨by omega⟩
    have HGX : Aside0 (g < xb) := ⟨by have := HG.out; have := HB1.out.size; omega⟩
    rw [hW2, hxb]
    clear hW2 hz2 hb12 xcb hxb x0 x1
    refine start_ (n := 10) (S := fun w' => w'.cell? ⟨xb, 0, none⟩ = some (.string key) ∧ w'.cell? ⟨xb, 1, none⟩ = some (.int .i64 val)) (ds := [9]) #[false, false, false, false, false, false, false, false, false, false] (by kernel_rfl) rfl rfl ⟨xc0, xc1⟩ (fun hHeld => ?_)
    refine pure_ (i := 0) (N := some 20) (v := ?_) (a' := ?_) #[true, false, false, false, false, false, false, false, false, false] rfl rfl (by kernel_rfl) (fun _ _ _ h => h) (Or.inl ⟨by rfl, ?_⟩) ?_ ?_
    rotate_left
    · intro w'
      go_simp
      with_reducible rfl
    rotate_left
    · simp only [Act.put, List.setIfInBounds_toArray, List.set_cons_zero, List.set_cons_succ, i64_w, i32_w]
      rfl
    refine pure_ (i := 3) (N := some 23) (v := ?_) (a' := ?_) #[true, false, false, true, false, false, false, false, false, false] rfl rfl (by kernel_rfl) (fun _ _ _ h => h) (Or.inl ⟨by rfl, ?_⟩) ?_ ?_
    rotate_left
    · intro w'
      go_simp
      with_reducible rfl
    rotate_left
    · simp only [Act.put, List.setIfInBounds_toArray, List.set_cons_zero, List.set_cons_succ, i64_w, i32_w]
      rfl
    refine pure_ (i := 4) (N := some 24) (v := ?_) (a' := ?_) #[true, false, false, true, true, false, false, false, false, false] rfl rfl (by kernel_rfl) (fun _ _ _ h => h) (Or.inl ⟨by rfl, ?_⟩) ?_ ?_
    rotate_left
    · intro w'
      go_simp
      with_reducible rfl
    rotate_left
    · simp only [Act.put, List.setIfInBounds_toArray, List.set_cons_zero, List.set_cons_succ, i64_w, i32_w]
      rfl
    refine take_ (i := 1) (N := some 21) (v := ?_) (a' := ?_) #[true, true, false, true, true, false, false, false, false, false] rfl rfl (by kernel_rfl) (fun _ _ _ h => h) (Or.inl ⟨by rfl, ?_⟩) hHeld ?_ ?_
    rotate_left
    · rintro w' ⟨s0, s1⟩
      go_simp
      with_reducible rfl
    rotate_left
    · simp only [Act.put, List.setIfInBounds_toArray, List.set_cons_zero, List.set_cons_succ, i64_w, i32_w]
      rfl
    refine join_ (σ := Nat × Option Addr × Nat) 4 #[true, true, true, true, true, true, false, false, false, false] (fun q => [(22, .slice (some ⟨q.1, 0, none⟩) 1 1), (25, .slice q.2.1 (dropL s L).length q.2.2)]) (fun q w' => Below W2.heap.size W2 w' ∧ w'.heap[q.1]? = some (.cells #[.string key, .int .i64 val] IT2 (0, 0)) ∧ W2.heap.size ≤ q.1 ∧ Kd.C kI w' q.2.1 (dropL s L).length (dropL s L)) ?_ ?_
    rotate_left
    · intro hCont
      refine two_ (i := 2) (j := 5) (Ni := some 22) (Nj := some 25) #[true, true, true, true, true, false, false, false, false, false] #[true, true, false, true, true, true, false, false, false, false] rfl rfl rfl rfl (by kernel_rfl) (by decide) (by decide) (fun K hK => ?_) (fun K hK => ?_)
      · skip
        refine value_ (w1 := ?_) (v := ?_) (by rfl) rfl ?_ ?_
        rotate_left 2
        · go_simp
          constructor
          · rfl
          · rfl
        have HBA : Aside0 (Below W2.heap.size W2 (W2.alloc (.cells #[.string key, .int .i64 val] IT2)).drew) := ⟨((Below.refl _ _).alloc (Nat.le_refl _) _).drew⟩
        refine hK.out _ _ ⟨(HBA.out.cell (p := ⟨xb, 0, none⟩) HXB.out).trans xc0, (HBA.out.cell (p := ⟨xb, 1, none⟩) HXB.out).trans xc1⟩ (fun hHeld => ?_)
        clear hK K
        refine norm_ (a' := ?_) ?_ ?_
        rotate_left
        · show Act.put _ (some 22) _ = _
          simp only [Act.put, List.setIfInBounds_toArray, List.set_cons_zero, List.set_cons_succ, i64_w, i32_w]
          rfl
        refine one_ (i := 5) (N := some 25) #[true, true, true, true, true, true, false, false, false, false] rfl rfl (by kernel_rfl) (by decide) (fun K hK => ?_)
        refine goes_ Try.func44 (by kernel_rfl) rfl #[.pointer (some ⟨g, 0, none⟩), .int .i64 (i : Int)] (by rfl) rfl rfl (by simp only [List.map_toArray, List.map_cons, List.map_nil]; rfl) ?_
        with_reducible refine ((HW2.out (W2.alloc (.cells #[.string key, .int .i64 val] IT2)).drew (HBW2.out.trans ((HBA.out).mono HBW2.out.size)))).mono ?_
        rintro e w4 ⟨v4, rfl, hr4, hb4⟩
        obtain ⟨A4, c4, rfl, hl4, hC4⟩ := Kd.R_reads hr4
        have HC4 := Aside0.mk hC4
        have HBB := Aside0.mk hb4
        have HB4 : Aside0 (Below W2.heap.size W2 w4) := ⟨(HBA.out).trans (hb4.mono (HBA.out).size)⟩
        clear hr4 hb4 hC4
        refine ⟨_, rfl, ?_⟩
        refine hK.out _ _ ⟨(HB4.out.cell (p := ⟨xb, 0, none⟩) HXB.out).trans xc0, (HB4.out.cell (p := ⟨xb, 1, none⟩) HXB.out).trans xc1⟩ (fun hHeld => ?_)
        clear hK K
        refine norm_ (a' := ?_) ?_ ?_
        rotate_left
        · show Act.put _ (some 25) _ = _
          simp only [Act.put, List.setIfInBounds_toArray, List.set_cons_zero, List.set_cons_succ, i64_w, i32_w]
          rfl
        exact norm_ (by simp only [putAll, Act.put, List.setIfInBounds_toArray, List.set_cons_zero, List.set_cons_succ]) (hCont ⟨W2.heap.size, A4, c4⟩ _ ⟨HB4.out, (HBB.out.block W2.heap.size (by simp)).trans (Below_new W2 _), Nat.le_refl _, HC4.out⟩)
      · skip
        refine goes_ Try.func44 (by kernel_rfl) rfl #[.pointer (some ⟨g, 0, none⟩), .int .i64 (i : Int)] (by rfl) rfl rfl (by simp only [List.map_toArray, List.map_cons, List.map_nil]; rfl) ?_
        with_reducible refine ((HW2.out W2.drew (HBW2.out.trans ((((Below.refl W2.heap.size W2).drew)).mono HBW2.out.size)))).mono ?_
        rintro e w4 ⟨v4, rfl, hr4, hb4⟩
        obtain ⟨A4, c4, rfl, hl4, hC4⟩ := Kd.R_reads hr4
        have HC4 := Aside0.mk hC4
        have HBB := Aside0.mk hb4
        have HB4 : Aside0 (Below W2.heap.size W2 w4) := ⟨(((Below.refl W2.heap.size W2).drew)).trans (hb4.mono (((Below.refl W2.heap.size W2).drew)).size)⟩
        clear hr4 hb4 hC4
        refine ⟨_, rfl, ?_⟩
        refine hK.out _ _ ⟨(HB4.out.cell (p := ⟨xb, 0, none⟩) HXB.out).trans xc0, (HB4.out.cell (p := ⟨xb, 1, none⟩) HXB.out).trans xc1⟩ (fun hHeld => ?_)
        clear hK K
        refine norm_ (a' := ?_) ?_ ?_
        rotate_left
        · show Act.put _ (some 25) _ = _
          simp only [Act.put, List.setIfInBounds_toArray, List.set_cons_zero, List.set_cons_succ, i64_w, i32_w]
          rfl
        refine one_ (i := 2) (N := some 22) #[true, true, true, true, true, true, false, false, false, false] rfl rfl (by kernel_rfl) (by decide) (fun K hK => ?_)
        refine value_ (w1 := ?_) (v := ?_) (by rfl) rfl ?_ ?_
        rotate_left 2
        · go_simp
          constructor
          · rfl
          · rfl
        have HBA : Aside0 (Below W2.heap.size W2 (w4.alloc (.cells #[.string key, .int .i64 val] IT2))) := ⟨HB4.out.alloc HB4.out.size _⟩
        refine hK.out _ _ ⟨(HBA.out.cell (p := ⟨xb, 0, none⟩) HXB.out).trans xc0, (HBA.out.cell (p := ⟨xb, 1, none⟩) HXB.out).trans xc1⟩ (fun hHeld => ?_)
        clear hK K
        refine norm_ (a' := ?_) ?_ ?_
        rotate_left
        · show Act.put _ (some 22) _ = _
          simp only [Act.put, List.setIfInBounds_toArray, List.set_cons_zero, List.set_cons_succ, i64_w, i32_w]
          rfl
        exact norm_ (by simp only [putAll, Act.put, List.setIfInBounds_toArray, List.set_cons_zero, List.set_cons_succ]) (hCont ⟨w4.heap.size, A4, c4⟩ _ ⟨HBA.out, Below_new w4 _, HB4.out.size, Kd.C_below HC4.out ((Below.refl _ _).alloc (Nat.le_refl _) _)⟩)
    rintro ⟨lb, A5, c5⟩ w5 ⟨hb5, hlit, hlb, hC5⟩
    have hHeld : w5.cell? ⟨xb, 0, none⟩ = some (.string key) ∧ w5.cell? ⟨xb, 1, none⟩ = some (.int .i64 val) := ⟨(hb5.cell (p := ⟨xb, 0, none⟩) HXB.out).trans xc0, (hb5.cell (p := ⟨xb, 1, none⟩) HXB.out).trans xc1⟩
    have HB5 := Aside0.mk hb5
    have HLIT := Aside0.mk hlit
    have HLB := Aside0.mk hlb
    have HC5 := Aside0.mk hC5
    clear hb5 hlit hlb hC5
    refine norm_ (a' := ?_) ?_ ?_
    rotate_left
    · simp only [putAll, Act.put, List.setIfInBounds_toArray, List.set_cons_zero, List.set_cons_succ]
      rfl
    refine one_ (i := 6) (N := some 26) #[true, true, true, true, true, true, true, false, false, false] rfl rfl (by kernel_rfl) (by decide) (fun K hK => ?_)
    refine Kd.R_append_rows_step kI (Rr := fun x cs => cs = [.string x.1, .int .i64 x.2]) (w0 := W2) W2.heap.size (by rfl) (.tmp 22) (.tmp 25) 56 IT2 (.agg #[.string ⟨#[]⟩, .int .i64 0]) 24 rfl Try.underlying56 infoI rfl (by decide) (by decide) _ [(key, val)] (dropL s L) _ _ _ (fun _ => True) (fun _ => False) rfl rfl ?aO ?aR (fun x cs hx => by subst hx; exact kI_mkM _ _ _ _) (fun _ hx => hx.elim) (fun _ _ => trivial) ?aB ?aS ?aL ?_
    case aO => exact Kd.R_lower (R_lit1 HLIT.out) HLB.out
    case aR => exact I_reads HC5.out
    case aB => exact HB5.out
    case aS => exact HB5.out.size
    case aL => have := HD1.out; simp only [List.length_singleton]; omega
    intro v6 w6 ho6 hb6 hg6 hat6
    rw [List.singleton_append] at ho6
    obtain ⟨A6, c6, rfl, hl6, hC6⟩ := Kd.R_reads ho6
    have HO6 := Aside0.mk ho6
    have HB6 := Aside0.mk hb6
    have HB6W : Aside0 (Below w.heap.size w w6) := ⟨HBW2.out.trans (hb6.mono HBW2.out.size)⟩
    have k1 := cell_under HB6W.out HG.out HX.out.cells.2.1
    have f1 := frozen_under HB6W.out HG.out HX.out.cells.2.2
    clear ho6 hb6 hg6 hat6 hC6
    refine hK.out _ _ ⟨(HB6.out.cell (p := ⟨xb, 0, none⟩) HXB.out).trans xc0, (HB6.out.cell (p := ⟨xb, 1, none⟩) HXB.out).trans xc1⟩ (fun hHeld => ?_)
    clear hK K
    refine norm_ (a' := ?_) ?_ ?_
    rotate_left
    · show Act.put _ (some 26) _ = _
      simp only [Act.put, List.setIfInBounds_toArray, List.set_cons_zero, List.set_cons_succ, i64_w, i32_w]
      rfl
    refine pure_ (i := 7) (N := some 27) (v := ?_) (a' := ?_) #[true, true, true, true, true, true, true, true, false, false] rfl rfl (by kernel_rfl) (fun _ _ _ h => h) (Or.inl ⟨by rfl, ?_⟩) ?_ ?_
    rotate_left
    · intro w'
      go_simp
      with_reducible rfl
    rotate_left
    · simp only [Act.put, List.setIfInBounds_toArray, List.set_cons_zero, List.set_cons_succ, i64_w, i32_w]
      rfl
    refine pure_ (i := 8) (N := some 28) (v := ?_) (a' := ?_) #[true, true, true, true, true, true, true, true, true, false] rfl rfl (by kernel_rfl) (fun _ _ _ h => h) (Or.inl ⟨by rfl, ?_⟩) ?_ ?_
    rotate_left
    · intro w'
      go_simp
      with_reducible rfl
    rotate_left
    · simp only [Act.put, List.setIfInBounds_toArray, List.set_cons_zero, List.set_cons_succ, i64_w, i32_w]
      rfl
    refine last_ (i := 9) (N := none) #[true, true, true, true, true, true, true, true, true, true] rfl rfl (by kernel_rfl) (by decide) (fun K hK => ?_)
    refine skip_ (w1 := ?_) (by rfl) rfl ?_ ?_
    rotate_left
    · go_simp
      rfl
    refine hK.out _ _ ?_
    clear hK K
    refine done_ (by kernel_rfl) ?_
    have xq1 : w6.cell? ⟨xb, 1, none⟩ = some (.int .i64 val) := (HB6.out.cell (p := ⟨xb, 1, none⟩) HXB.out).trans xc1
    have xq2 : ¬ xb = g := by have := HGX.out; omega
    obtain ⟨r1, r2, r3⟩ := HX.out.store HB6W.out (Kd.R_lower HO6.out HBW2.out.size) hb
    go_wp2
    go_ret2
    exact ⟨rfl, _, r1, r2, fun k hk => .inr (r3 k hk)⟩
theorem XR.cut {g base k c : Nat} {most : Int} {A : Option Addr} {L : List KV} {w : World} (h : XR g base most (.slice A L.length c) L w) (hk : k ≤ L.length) : XR g base most (.slice A k c) (L.take k) (w.setCell ⟨g, 1, none⟩ (.slice A k c)) ∧ Turn (fun k => k = g) w (w.setCell ⟨g, 1, none⟩ (.slice A k c)) := by
  have hne := h.ne
  obtain ⟨hh, _, inner, ho, hr⟩ := h
  have hl : (L.take k).length = k := by rw [List.length_take]; omega
  have ho2 : w.ownsRow base IT2 2 (.slice A k c) (L.take k).length (inner.take (k * 2)) := by
    have hil : inner.length = L.length * 2 := ho.1
    refine ⟨by rw [List.length_take, hl, hil]; omega, ?_⟩
    rcases ho.2 with ⟨e, hn⟩ | ⟨q, cap, cur, e, h1, h2, h3, h4, h5, h6⟩
    · injection e with e1 e2 e3
      refine .inl ⟨?_, by rw [hl]; omega⟩
      have : k = 0 := by omega
      rw [e1, e3, this]
    · injection e with e1 e2 e3
      refine .inr ⟨q, cap, cur, by rw [e1, e3, hl], h1, h2, by rw [hl]; omega, h4, h5, ?_⟩
      have h6' : cur.toList.take (L.length * 2) = inner := h6
      rw [hl, ← h6', List.take_take, Nat.min_eq_left (by omega)]
  have hr2 : Reps (kI.M w base (fun j => (Value.slice A k c).ownBlock = some j ∧ some j ≠ (Value.slice A k c).ownBlock)) 2 (L.take k) (inner.take (k * 2)) := by
    refine ⟨ho2.1, fun j p hj => ?_⟩
    rw [List.getElem?_take] at hj
    split at hj
    · rename_i hjk
      have h7 := hr.2 j p hj
      have e : ((inner.take (k * 2)).drop (j * 2)).take 2 = (inner.drop (j * 2)).take 2 := by
        rw [List.drop_take, List.take_take, Nat.min_eq_left (by omega)]
      have h8 := kI_openM h7
      show kI.M _ _ _ p (((inner.take (k * 2)).drop (j * 2)).take 2)
      rw [e]
      have h9 : (inner.drop (j * 2)).take 2 = [.string p.1, .int .i64 p.2] := h8
      rw [h9]
      exact kI_mkM _ _ _ _
    · cases hj
  have hR : Kd.R kI IT2 w base (fun j => (Value.slice A k c).ownBlock = some j) (.slice A k c) (L.take k) := ⟨fun _ hk => hk, _, ho2, hr2⟩
  refine ⟨⟨by simpa using blk_set hh 1 (Value.slice A k c), Kd.R_far hR (fun j hj => ?_) _⟩, Turn.setCell (F := fun k => k = g) _ (a := ⟨g, 1, none⟩) rfl _⟩
  have hj2 : (Value.slice A L.length c).ownBlock = some j := by cases A <;> exact hj
  exact (hne j hj2).1
theorem Turn.drewN' {F : Nat → Prop} {w w' : World} (h : Turn F w w') (n : Nat) : Turn F w (w'.drewN n) := h.trans (Turn.of_below (pw_below_drewN (Below.refl _ _) n))
theorem put_over {n : Nat} {s : ByteArray} {x : Int} {L : List KV} (hn : (dropL s L).length = n) (h0 : ¬ (n : Int) = 0) : putR (n : Int) s x L = (((s, x) :: dropL s L).take n, (rd_I ((s, x) :: dropL s L) (n : Int)).1, true, 0) := by
  have hl : ((s, x) :: dropL s L).length = n + 1 := by rw [List.length_cons, hn]
  have hne : ((s, x) :: dropL s L) ≠ [] := by simp
  unfold putR putL
  rw [if_neg h0, if_neg (by rw [hl]; omega)]
  have e1 : ((s, x) :: dropL s L).dropLast = ((s, x) :: dropL s L).take n := by rw [List.dropLast_eq_take, hl, Nat.add_sub_cancel]
  have e2 : (((s, x) :: dropL s L).getLast?.getD (⟨#[]⟩, 0)).1 = (rd_I ((s, x) :: dropL s L) (n : Int)).1 := by
    rw [rd_I_at (by omega), List.getLast?_eq_some_getLast hne, Option.getD_some, List.getLast_eq_getElem]
    congr 2
  rw [e1, e2]
set_option maxHeartbeats 4000000 in
set_option maxRecDepth 100000 in
theorem rPut {g base : Nat} {most : Int} {v : Value} {L : List KV} {w : World} (h : XR g base most v L w) (s : ByteArray) (x : Int) (hl : L.length ≤ 1000) (hnd : (L.map Prod.fst).Nodup) (hb : base ≤ w.heap.size) (hm : 0 ≤ most) (hr : most ≠ 0 → (L.length : Int) ≤ most) {M : List KV} {o : ByteArray} {q : Bool} {cc : Int} (hR : putR most s x L = (M, o, q, cc)) :
    Calls Try.prog 29 #[.pointer (some ⟨g, 0, none⟩), .string s, .int .i64 x] w fun e w' => e = .returned (.tuple #[.string o, .bool q, .int .i64 cc]) ∧
      ∃ v', XR g base most v' M w' ∧ Turn (fun k => k = g) w w' ∧ ∀ k, v'.ownBlock = some k → v.ownBlock = some k ∨ w.heap.size ≤ k := by
  have HX := Aside0.mk h
  obtain ⟨k0, k1, f1⟩ := h.cells
  have HG := Aside0.mk h.lt
  by_cases hm0 : most = 0
  · subst hm0
    have hp : putR 0 s x L = (L, ⟨#[]⟩, false, 10) := by unfold putR; rw [if_pos rfl]
    rw [hp] at hR
    injection hR with e1 hR
    injection hR with e2 hR
    injection hR with e3 e4
    subst e1 e2 e3 e4
    go_enter Try.func29, Try.ntmps29
    go_wp2
    go_ret3
    exact ⟨rfl, _, HX.out, Turn.refl _ _, fun k hk => .inl hk⟩
  · have HDR := Aside0.mk (rDrop h s hl hnd hb)
    have HD1 : Aside0 ((dropL s L).length ≤ 1000) := ⟨Nat.le_trans (dropL_length s L) hl⟩
    clear h k1 f1
    go_enter Try.func29, Try.ntmps29
    go_wp2_with (first
      | (go_at_call 32; (with_reducible refine HDR.out.mono ?_); rintro e w1 ⟨rfl, v1, hx1, ht1, ho1⟩; obtain ⟨A1, c1, rfl, hlc1, hC1⟩ := hx1.form; have HX1 := Aside0.mk hx1; have HT1 := Aside0.mk ht1; have HO1 := Aside0.mk ho1; have HC1 := Aside0.mk hC1; have HG1 := Aside0.mk hx1.lt; have k1 : ∀ o, (w1.alloc o).cell? ⟨g, 1, none⟩ = some (.slice A1 (dropL s L).length c1) := (fun o => cell_under ((Below.refl _ _).alloc (Nat.le_refl _) o) HG1.out hx1.cells.2.1); clear hx1 ht1 ho1 hC1)
      | (at_builtin; refine Kd.R_append_rows kI (Rr := fun x cs => cs = [.string x.1, .int .i64 x.2]) (w0 := w1) w1.heap.size rfl (.tmp 22) (.tmp 26) 56 IT2 (.agg #[.string ⟨#[]⟩, .int .i64 0]) 24 rfl Try.underlying56 infoI rfl (by decide) (by decide) _ [(s, x)] (dropL s L) _ _ _ (fun _ => True) (fun _ => False) rfl rfl ?aO ?aR (fun x cs hx => by subst hx; exact kI_mkM _ _ _ _) (fun _ hx => hx.elim) (fun _ _ => trivial) ?aB ?aS ?aL ?_; (case aO => exact R_lit1 (Below_new w1 _)); (case aR => exact I_reads (Kd.C_below HC1.out ((Below.refl _ _).alloc (Nat.le_refl _) _))); (case aB => exact (Below.refl _ _).alloc (Nat.le_refl _) _); (case aS => simp); (case aL => have := HD1.out; simp only [List.length_singleton]; omega); intro v2 w2 ho2 hb2 hg2 hat2; rw [List.singleton_append] at ho2; obtain ⟨A2, c2, rfl, hlc2, hC2⟩ := Kd.R_reads ho2; have HO2 := Aside0.mk ho2; have HB2 := Aside0.mk hb2; have k0 := cell_under hb2 HG1.out HX1.out.cells.1; have k1 := cell_under hb2 HG1.out HX1.out.cells.2.1; have f1 := frozen_under hb2 HG1.out HX1.out.cells.2.2; clear ho2 hb2 hg2 hat2))
    obtain ⟨r1, r2, r3⟩ := HX1.out.store HB2.out HO2.out (Nat.le_trans hb HT1.out.size)
    obtain ⟨W3, hW3⟩ : ∃ q, w2.setCell ⟨g, 1, none⟩ (.slice A2 ((dropL s L).length + 1) c2) = q := ⟨_, rfl⟩
    have r1' : XR g base most (.slice A2 ((dropL s L).length + 1) c2) ((s, x) :: dropL s L) W3 := by rw [← hW3]; exact r1
    have r2' : Turn (fun k => k = g) w1 W3 := by rw [← hW3]; exact r2
    have r3' : ∀ k, (Value.slice A2 ((dropL s L).length + 1) c2).ownBlock = some k → w1.heap.size ≤ k := r3
    rw [hW3]
    have HR1 := Aside0.mk r1'
    have HR2 := Aside0.mk r2'
    have HR3 := Aside0.mk r3'
    obtain ⟨k0, k1, f1⟩ := r1'.cells
    have hl2 := dropL_length s L
    have hr2 := hr hm0
    obtain ⟨n, rfl⟩ : ∃ n : Nat, (n : Int) = most := ⟨most.toNat, by omega⟩
    clear r1 r2 r3 hW3 r1' r2' r3' hlc1 hlc2 hC2
    by_cases hle : ((dropL s L).length : Int) + 1 ≤ (n : Int)
    · have hp : putR (n : Int) s x L = ((s, x) :: dropL s L, ⟨#[]⟩, false, 0) := by
        unfold putR putL
        rw [if_neg hm0, if_pos (by rw [List.length_cons]; omega)]
      rw [hp] at hR
      injection hR with e1 hR
      injection hR with e2 hR
      injection hR with e3 e4
      subst e1 e2 e3 e4
      go_region
      go_wp2
      go_ret3
      exact ⟨rfl, _, HR1.out.below (pw_below_drewN (Below.refl _ _) _), (HT1.out.trans HR2.out).drewN' _, fun k hk => .inr (Nat.le_trans HT1.out.size (HR3.out k hk))⟩
    · have hn : (dropL s L).length = n := by omega
      obtain ⟨A3, c3, e3, hl3, hC3⟩ := HR1.out.form
      rw [List.length_cons] at e3 hl3 hC3
      injection e3 with e31 e32 e33
      subst e31
      subst e33
      obtain ⟨ad, rfl, x0, _⟩ := at_I hC3 (n : Int) (by omega) (by omega)
      rw [Int.toNat_natCast] at x0
      obtain ⟨key, hkey⟩ : ∃ q, (rd_I ((s, x) :: dropL s L) (n : Int)).1 = q := ⟨_, rfl⟩
      rw [hkey] at x0
      have hp : putR (n : Int) s x L = (((s, x) :: dropL s L).take n, key, true, 0) := by rw [← hkey]; exact put_over hn hm0
      rw [hp] at hR
      injection hR with e1 hR
      injection hR with e2 hR
      injection hR with e3 e4
      subst e1 e2 e3 e4
      have q1 : (n : Int) < ((dropL s L).length : Int) + 1 := by omega
      have q2 : n ≤ c2 := by omega
      go_region
      go_wp2
      go_region
      go_wp2
      go_region
      go_wp2
      obtain ⟨t1, t2⟩ := XR.cut (L := (s, x) :: dropL s L) (k := n) HR1.out (by rw [List.length_cons]; omega)
      go_ret3
      refine ⟨rfl, _, t1.below (((Below.refl _ _).drew.drew).drew), (HT1.out.trans (HR2.out.trans t2)).drewN' 3, fun k hk => .inr (Nat.le_trans HT1.out.size (HR3.out k hk))⟩
end Go.Proofs.Ytfmaoaigljjhgaa.Lru
