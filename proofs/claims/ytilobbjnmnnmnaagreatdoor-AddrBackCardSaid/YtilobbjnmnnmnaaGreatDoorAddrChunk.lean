/- A row of labels four by four: slices.Chunk's iterator, whatever is done in its rounds. -/
import Derived.Test.YtilobbjnmnnmnaaGreatDoorWideRegion
import Derived.Test.YtilobbjnmnnmnaaGreatDoorAddrWorld
import Derived.Test.YtilobbjnmnnmnaaGreatDoorHandUp
set_option linter.unusedSimpArgs false
set_option linter.unusedVariables false
namespace Go.Proofs.YtilobbjnmnnmnaaGreatDoor.AddrLib
open Go.RowKit Go.Lib Go.Proofs.YtilobbjnmnnmnaaGreatDoorW.PrintWords Go.Proofs.YtilobbjnmnnmnaaGreatDoorW.PrintLast Go.Proofs.YtilobbjnmnnmnaaGreatDoorW.PrintMore

section
open Go.Shelf
attribute [local go_sem] Oper.semAt_some
theorem chunk_calls (n : Nat) (A : Option Addr) (ln c : Nat) (w : World) : CallsIn Fence.wide n Tryz.prog 110 #[.slice A ln c, .int .i64 4] w fun e w' => e = .returned (.func (.func 127) #[] #[.pointer (some ⟨w.heap.size, 0, none⟩), .pointer (some ⟨w.heap.size + 1, 0, none⟩)]) ∧ w' = (w.alloc (.cells #[.slice A ln c] 58)).alloc (.cells #[.int .i64 4] 3) := by
  refine callsIn_of_wp Tryz.func110 rfl trivial ?_ rfl
  simp only [Tryz.ntmps110, List.size_toArray, List.length_cons, List.length_nil, Nat.reduceAdd, Nat.reduceSub, Array.replicate_succ, Array.replicate_zero, List.push_toArray, List.append_toArray, List.nil_append, List.cons_append]
  gi_wp2
  go_ret
  exact ⟨rfl, rfl⟩
/-- What Chunk's rounds read: its two boxes. -/
structure ChunkZ (B ln c : Nat) (ad : Addr) (W : World) : Prop where
  row : W.cell? ⟨B, 0, none⟩ = some (.slice (some ad) ln c)
  num : W.cell? ⟨B + 1, 0, none⟩ = some (.int .i64 4)
def ChunkK (B : Nat) (W W' : World) : Prop := W.heap.size ≤ W'.heap.size ∧ (∀ o, W.heap[B]? = some o → W'.heap[B]? = some o) ∧ ∀ o, W.heap[B + 1]? = some o → W'.heap[B + 1]? = some o
theorem ChunkK.refl (B : Nat) (W : World) : ChunkK B W W := ⟨Nat.le_refl _, fun _ h => h, fun _ h => h⟩
theorem ChunkK.trans {B : Nat} {X Y Z : World} (h : ChunkK B X Y) (k : ChunkK B Y Z) : ChunkK B X Z := ⟨Nat.le_trans h.1 k.1, fun o ho => k.2.1 o (h.2.1 o ho), fun o ho => k.2.2 o (h.2.2 o ho)⟩
theorem cell_blockC {W W' : World} {p : Addr} {v : Value} (h : W.cell? p = some v) (hb : ∀ o, W.heap[p.block]? = some o → W'.heap[p.block]? = some o) : W'.cell? p = some v := by
  unfold World.cell? at *
  cases ho : W.heap[p.block]? with
  | none => rw [ho] at h; cases h
  | some o => rw [hb o ho]; rw [ho] at h; exact h
theorem ChunkZ.keep {B ln c : Nat} {ad : Addr} {W W' : World} (h : ChunkZ B ln c ad W) (hk : ChunkK B W W') : ChunkZ B ln c ad W' := ⟨cell_blockC h.row hk.2.1, cell_blockC h.num hk.2.2⟩

set_option maxRecDepth 100000 in
set_option maxHeartbeats 1000000 in
theorem chunk1_in (n : Nat) (hn : 1 ≤ n) (l B m c : Nat) (ad : Addr) (hm : m ≤ 1000) (hc : 4 * m ≤ c)
    (J Jx : List Nat → World → Prop)
    (hY : ∀ (i : Nat) W, J (List.range i) W → i < m → YieldAt Fence.wide (n - 1) Tryz.prog l #[.slice (some (ad.add (4 * i))) 4 4] W fun e W' => (e = .returned (.bool true) ∧ J (List.range (i + 1)) W' ∧ ChunkK B W W') ∨ (e = .returned (.bool false) ∧ Jx (List.range (i + 1)) W'))
    (W : World) (hJ : AbidesFrom W.heap.size J) (hW : ChunkZ B (4 * m) c ad W) (h0 : J [] W) :
    CallsIn Fence.wide n Tryz.prog 127 #[.func (.yield l) #[] #[], .pointer (some ⟨B, 0, none⟩), .pointer (some ⟨B + 1, 0, none⟩)] W fun e W' => (∃ v, e = .returned v) ∧ (J (List.range m) W' ∨ (∃ i, i ≤ m ∧ Jx (List.range i) W')) := by
  refine callsIn_of_wp Tryz.func127 rfl trivial ?_ rfl
  simp only [Tryz.ntmps127, List.size_toArray, List.length_cons, List.length_nil, Nat.reduceAdd, Nat.reduceSub, Array.replicate_succ, Array.replicate_zero, List.push_toArray, List.append_toArray, List.nil_append, List.cons_append]
  have hmW := hW.row
  have hnW := hW.num
  gi_wp2
  gi_loopw [4] (fun vi wr => ∃ (i : Nat), vi = .int .i64 (4 * (i : Int)) ∧ i ≤ m ∧ Aside0 (J (List.range i) wr) ∧ Aside0 (ChunkZ B (4 * m) c ad wr))
    (fun vi _ => (4 * m - (intOf vi).toNat))
  case atStart =>
    refine ⟨0, rfl, Nat.zero_le _, ⟨?_⟩, ⟨hW⟩⟩
    first | exact h0 | exact hJ _ _ _ none h0 (grownBy_drewN_ _ _) (fun r e => by cases e)
  case round =>
    obtain ⟨i, rfl, hi, HJ, HB⟩ := hrel
    have hmw := HB.out.row
    have hnw := HB.out.num
    by_cases h : i < m
    · have b0 : decide (4 * (i : Int) < 4 * (m : Int)) = true := decide_eq_true (by omega)
      have b1 : (0 ≤ 4 * (i : Int)) = True := eq_true (by omega)
      have b2 : (4 * (i : Int) ≤ 4 * (m : Int)) = True := eq_true (by omega)
      have b3 : (4 * m ≤ c) = True := eq_true hc
      have b4 : (c = 4 * i) = False := eq_false (by omega)
      have b5 : (4 * (i : Int)).toNat = 4 * i := by omega
      gi_wp2
      -- REGION 3
      refine RoundRegion.start_wide_ (m := 7) (S := fun w' => w'.cell? ⟨B, 0, none⟩ = some (.slice (some ad) (4 * m) c) ∧ w'.cell? ⟨B + 1, 0, none⟩ = some (.int .i64 4)) (ds := []) #[false, false, false, false, false, false, false] (by kernel_rfl) rfl rfl (by kernel_rfl) ⟨hmw, hnw⟩ (fun hHeld => ?_)
      refine pure_ (i := 2) (N := some 15) (v := ?_) (a' := ?_) #[false, false, true, false, false, false, false] rfl rfl (by kernel_rfl) (fun _ _ _ h => h) (Or.inl ⟨by rfl, ?_⟩) ?_ ?_
      rotate_left
      · intro w'
        go_simp
        with_reducible rfl
      rotate_left
      · simp only [Act.put, List.setIfInBounds_toArray, List.set_cons_zero, List.set_cons_succ, i64_w, i32_w]
        rfl
      refine take_ (i := 0) (N := some 13) (v := ?_) (a' := ?_) #[true, false, true, false, false, false, false] rfl rfl (by kernel_rfl) (fun _ _ _ h => h) (Or.inl ⟨by rfl, ?_⟩) hHeld ?_ ?_
      rotate_left
      · rintro w' ⟨s0, s1⟩
        go_simp
        with_reducible rfl
      rotate_left
      · simp only [Act.put, List.setIfInBounds_toArray, List.set_cons_zero, List.set_cons_succ, i64_w, i32_w]
        rfl
      refine take_ (i := 1) (N := some 14) (v := ?_) (a' := ?_) #[true, true, true, false, false, false, false] rfl rfl (by kernel_rfl) (fun _ _ _ h => h) (Or.inl ⟨by rfl, ?_⟩) hHeld ?_ ?_
      rotate_left
      · rintro w' ⟨s0, s1⟩
        go_simp
        with_reducible rfl
      rotate_left
      · simp only [Act.put, List.setIfInBounds_toArray, List.set_cons_zero, List.set_cons_succ, i64_w, i32_w]
        rfl
      refine pure_ (i := 3) (N := some 16) (v := ?_) (a' := ?_) #[true, true, true, true, false, false, false] rfl rfl (by kernel_rfl) (fun _ _ _ h => h) (Or.inl ⟨by rfl, ?_⟩) ?_ ?_
      rotate_left
      · intro w'
        go_simp
        with_reducible rfl
      rotate_left
      · simp only [Act.put, List.setIfInBounds_toArray, List.set_cons_zero, List.set_cons_succ, i64_w, i32_w]
        rfl
      refine pure_ (i := 4) (N := some 17) (v := ?_) (a' := ?_) #[true, true, true, true, true, false, false] rfl rfl (by kernel_rfl) (fun _ _ _ h => h) (Or.inl ⟨by rfl, ?_⟩) ?_ ?_
      rotate_left
      · intro w'
        go_simp
        with_reducible rfl
      rotate_left
      · simp only [Act.put, List.setIfInBounds_toArray, List.set_cons_zero, List.set_cons_succ, i64_w, i32_w]
        rfl
      refine pure_ (i := 5) (N := some 18) (v := ?_) (a' := ?_) #[true, true, true, true, true, true, false] rfl rfl (by kernel_rfl) (fun _ _ _ h => h) (Or.inl ⟨by rfl, ?_⟩) ?_ ?_
      rotate_left
      · intro w'
        go_simp
        with_reducible rfl
      rotate_left
      · simp only [Act.put, List.setIfInBounds_toArray, List.set_cons_zero, List.set_cons_succ, i64_w, i32_w]
        rfl
      refine pure_ (i := 6) (N := some 5) (v := ?_) (a' := ?_) #[true, true, true, true, true, true, true] rfl rfl (by kernel_rfl) (fun _ _ _ h => h) (Or.inl ⟨by rfl, ?_⟩) ?_ ?_
      rotate_left
      · intro w'
        go_simp
        with_reducible rfl
      rotate_left
      · simp only [Act.put, List.setIfInBounds_toArray, List.set_cons_zero, List.set_cons_succ, i64_w, i32_w]
        rfl
      refine done_ (by kernel_rfl) ?_

      -- END 3
      have hmin : min (4 : Int) ((4 * m - 4 * i : Nat) : Int) = 4 := by omega
      simp only [RoundRegion.onlyN, hmin]
      have hj2 : J (List.range i) wr.drew := hJ _ _ _ none HJ.out ⟨rfl, rfl, rfl, Nat.le_refl _, fun _ _ _ => rfl⟩ (fun r e => by cases e)
      have hz2 : ChunkZ B (4 * m) c ad wr.drew := ⟨hHeld.1, hHeld.2⟩
      generalize wr.drew = w2 at hj2 hz2 hHeld ⊢
      clear HJ HB hmw hnw
      obtain ⟨hmw, hnw⟩ := hHeld
      obtain ⟨fn, tmps, assign, body, hy, hR⟩ := hY i w2 hj2 h
      have HRR := Aside0.mk hR
      have HZ := Aside0.mk hz2
      clear hR hj2 hz2 hmin
      have hw1 : wrap64 (4 * (i : Int) + 4) = 4 * (i : Int) + 4 := wrap_id (by omega) (by omega)
      have c1 : (4 * (i : Int) ≤ 4 * (i : Int) + 4) = True := eq_true (by omega)
      have c2 : (0 ≤ 4 * (i : Int) + 4) = True := eq_true (by omega)
      have c3 : (4 * (i : Int) + 4 ≤ (c : Int)) = True := eq_true (by omega)
      have c4 : (4 * (i : Int) + 4).toNat = 4 * i + 4 := by omega
      gi_wp2_with fail
      refine HRR.out.mono ?_
      rintro e W3 (⟨rfl, hJ3, hk3⟩ | ⟨rfl, hJx3⟩)
      · have HJ3 := Aside0.mk hJ3
        have HK3 := Aside0.mk hk3
        have hn3 := (HZ.out.keep hk3).num
        clear hJ3 hk3 HRR hy
        gi_wp2
        go_roundw
        case rel => exact ⟨i + 1, congrArg (Value.int .i64) (by omega), by omega, HJ3, ⟨HZ.out.keep HK3.out⟩⟩
        case measure => first | (simp [intOf]; done) | (simp [intOf]; omega)
      · have HJ3 := Aside0.mk hJx3
        clear hJx3 HRR hy
        gi_wp2
        refine bodyPost_ret (results_none rfl _ _ _) rfl ?_
        exact ⟨⟨_, rfl⟩, .inr ⟨i + 1, by omega, HJ3.out⟩⟩
    · have b0 : decide (4 * (i : Int) < 4 * (m : Int)) = false := decide_eq_false (by omega)
      obtain rfl : i = m := by omega
      gi_wp2
      go_end0
      exact ⟨⟨_, rfl⟩, .inl HJ.out⟩
theorem chunk1_stops (n : Nat) (hn : 1 ≤ n) (B m c : Nat) (ad : Addr) (hm : m ≤ 1000) (hc : 4 * m ≤ c) (w0 : World) (hZ : ChunkZ B (4 * m) c ad w0) (h1 : B + 1 < w0.heap.size) :
    SeqStopsK Fence.wide n Tryz.prog 127 #[.pointer (some ⟨B, 0, none⟩), .pointer (some ⟨B + 1, 0, none⟩)] (fun x : {x : Nat // x < m} => #[Value.slice (some (ad.add (4 * x.val))) 4 4]) (ChunkK B) (fun ys => ys.map Subtype.val = List.range m) (fun pre => ∃ i, i ≤ m ∧ pre.map Subtype.val = List.range i) m w0 := by
  intro l J Jx W hW hJ hJx hY h0
  refine (chunk1_in n hn l B m c ad hm hc (fun pre W => ∃ p : List {x : Nat // x < m}, p.map Subtype.val = pre ∧ J p W) (fun pre W => ∃ p : List {x : Nat // x < m}, p.map Subtype.val = pre ∧ Jx p W) ?_ W ?_ (hZ.keep ⟨hW.size, fun o ho => (hW.block _ (by omega)).trans ho, fun o ho => (hW.block _ h1).trans ho⟩) ⟨[], rfl, h0⟩).mono ?_
  · rintro i W1 ⟨p, hp, hj⟩ hi
    obtain ⟨fn, tmps, assign, body, hy, hR⟩ := hY p ⟨i, hi⟩ W1 hj (by have := congrArg List.length hp; simp at this; omega)
    rw [List.range_succ]
    refine ⟨fn, tmps, assign, body, hy, hR.mono ?_⟩
    rintro e W' (⟨he, h1, h2⟩ | ⟨he, h1⟩)
    · exact .inl ⟨he, ⟨p ++ [⟨i, hi⟩], by rw [List.map_append, hp]; rfl, h1⟩, h2⟩
    · exact .inr ⟨he, ⟨p ++ [⟨i, hi⟩], by rw [List.map_append, hp]; rfl, h1⟩⟩
  · rintro pre A B row ⟨p, hp, hj⟩ hg hr
    exact ⟨p, hp, hJ p A B row hj hg hr⟩
  · rintro e W' ⟨hv, ⟨p, hp, h⟩ | ⟨i, hi, p, hp, h⟩⟩
    · exact ⟨hv, .inl ⟨p, hp, h⟩⟩
    · exact ⟨hv, .inr ⟨p, ⟨i, hi, hp⟩, h⟩⟩
end
end Go.Proofs.YtilobbjnmnnmnaaGreatDoor.AddrLib
