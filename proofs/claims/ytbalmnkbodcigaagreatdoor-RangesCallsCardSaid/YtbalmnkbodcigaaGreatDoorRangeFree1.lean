/- Whether some range of a row has an address: the search through the row, with the closure that asks each range. -/
import Derived.Test.YtbalmnkbodcigaaGreatDoorRangeRow
import Derived.RangeFuncBound
import Derived.RangeFuncBox
import Derived.RangeFuncCalls
import Derived.RangeFuncGives
import Derived.RangeFuncLeaves
import Derived.RangeFuncNested
import Derived.RangeFuncWrites
import Derived.TacticsInMore
import Derived.LoopIn
import Derived.LoopNIn
import Derived.OwnWalkIn
set_option linter.unusedSimpArgs false
set_option linter.unusedVariables false
namespace Go.Proofs.YtbalmnkbodcigaaGreatDoor.RangeFree
open Go Go.RowKit Go.Maps Go.Proofs.YtbalmnkbodcigaaGreatDoorW.PrintWords Go.Proofs.YtbalmnkbodcigaaGreatDoorW.PrintLast Go.Proofs.YtbalmnkbodcigaaGreatDoorW.PrintMore Go.Proofs.YtbalmnkbodcigaaGreatDoor.RangeRow

structure Adr where
  six : Bool
  hi : Int
  lo : Int
def Adr.val (x : Adr) : Value := .agg #[.bool x.six, .int .u64 x.hi, .int .u64 x.lo]
/-- Whether some range has an address, in order, up to the first one that has it. -/
def anyF (hasF : Rng → Adr → Option Bool) (a : Adr) : List Rng → Option Bool
  | [] => some false
  | x :: l => (hasF x a).bind fun v => if v = true then some true else anyF hasF a l
def HasLaw (hasF : Rng → Adr → Option Bool) : Prop := ∀ (x : Rng) (a : Adr) (v : Bool) (w : World), hasF x a = some v → Calls Tryz.prog 17 #[x.val, a.val] w fun e w' => e = .returned (.bool v) ∧ Below w.heap.size w w'
theorem free1_calls {hasF : Rng → Adr → Option Bool} (HH : HasLaw hasF) (x : Rng) (a : Adr) (v : Bool) (h : hasF x a = some v) (B : Nat) (w : World) (hB : B < w.heap.size) (c0 : w.cell? ⟨B, 0, none⟩ = some (.bool a.six)) (c1 : w.cell? ⟨B, 1, none⟩ = some (.int .u64 a.hi)) (c2 : w.cell? ⟨B, 2, none⟩ = some (.int .u64 a.lo)) :
    Calls Tryz.prog 42 #[x.val, .pointer (some ⟨B, 0, none⟩)] w fun e w' => e = .returned (.bool v) ∧ Below w.heap.size w w' := by
  obtain ⟨six, hi, lo, b⟩ := x
  obtain ⟨s2, h2, l2⟩ := a
  have HF := Aside0.mk (HH ⟨six, hi, lo, b⟩ ⟨s2, h2, l2⟩ v (w.alloc (.cells #[.bool six, .int .u64 hi, .int .u64 lo, .int .i64 b] 26)) h)
  clear h HH
  simp only [Rng.val, Adr.val] at *
  go_enter Tryz.func42, Tryz.ntmps42
  have d0 := (World.cell?_alloc_lt w (.cells #[.bool six, .int .u64 hi, .int .u64 lo, .int .i64 b] 26) ⟨B, 0, none⟩ hB).trans c0
  have d1 := (World.cell?_alloc_lt w (.cells #[.bool six, .int .u64 hi, .int .u64 lo, .int .i64 b] 26) ⟨B, 1, none⟩ hB).trans c1
  have d2 := (World.cell?_alloc_lt w (.cells #[.bool six, .int .u64 hi, .int .u64 lo, .int .i64 b] 26) ⟨B, 2, none⟩ hB).trans c2
  clear c0 c1 c2
  go_wp2_with (go_at_call 17; refine HF.out.mono ?_; rintro e w1 ⟨rfl, hb⟩; have HB := Aside0.mk hb; clear hb HF)
  go_ret
  exact ⟨rfl, (((Below.refl _ w).alloc (Nat.le_refl _) _).trans (HB.out.mono (by simp)))⟩
theorem wrap_small (i : Nat) (h : (i : Int) ≤ 4000000) : wrap64 ((i : Int) + 1) = ((i + 1 : Nat) : Int) := by unfold wrap64; omega
theorem rd_get {l : List Rng} {i : Nat} (hi : i < l.length) : rd_R l (i : Int) = l[i] := by
  unfold rd_R
  rw [Int.toNat_natCast, List.getD_eq_getElem?_getD, List.getElem?_eq_getElem hi]
  rfl
set_option maxRecDepth 100000 in
set_option maxHeartbeats 8000000 in
theorem index_calls {hasF : Rng → Adr → Option Bool} (HH : HasLaw hasF) (a : Adr) (l : List Rng) (v : Bool) (h : anyF hasF a l = some v) (hlen : (l.length : Int) ≤ 4000000) (A : Option Addr) (c B : Nat) (w : World) (hR : Kd.C kR w A l.length l) (hB : B < w.heap.size) (c0 : w.cell? ⟨B, 0, none⟩ = some (.bool a.six)) (c1 : w.cell? ⟨B, 1, none⟩ = some (.int .u64 a.hi)) (c2 : w.cell? ⟨B, 2, none⟩ = some (.int .u64 a.lo)) :
    Calls Tryz.prog 64 #[.slice A l.length c, .func (.func 42) #[] #[.pointer (some ⟨B, 0, none⟩)]] w fun e w' => ∃ r : Int, e = .returned (.int .i64 r) ∧ decide (r ≥ 0) = v ∧ Below w.heap.size w w' := by
  have HA := Aside0.mk h
  have HR := Aside0.mk hR
  have HL := Aside0.mk hlen
  have H1 : Aside0 (∀ (x : Rng) (u : Bool) (W : World), Below w.heap.size w W → hasF x a = some u → Calls Tryz.prog 42 #[x.val, .pointer (some ⟨B, 0, none⟩)] W fun e w' => e = .returned (.bool u) ∧ Below W.heap.size W w') :=
    ⟨fun x u W hW hu => free1_calls HH x a u hu B W (Nat.lt_of_lt_of_le hB hW.size) ((hW.cell (p := ⟨B, 0, none⟩) hB).trans c0) ((hW.cell (p := ⟨B, 1, none⟩) hB).trans c1) ((hW.cell (p := ⟨B, 2, none⟩) hB).trans c2)⟩
  have HB := Aside0.mk (Below.refl w.heap.size w)
  clear h hR HH c0 c1 c2 hlen
  go_enter Tryz.func64, Tryz.ntmps64
  go_wp2
  go_loopg [8] l.length (fun kq v8 w' => ∃ i : Nat, v8 = .int .i64 (i : Int) ∧ Aside0 (i + kq = l.length) ∧ Aside0 (anyF hasF a (l.drop i) = some v) ∧ Aside0 (Below w.heap.size w w'))
  case atStart => exact ⟨0, rfl, ⟨by omega⟩, HA, HB⟩
  case round =>
    clear HB HA
    obtain ⟨i, rfl, HN, HA, HB⟩ := hrel
    have hN := HN.out
    by_cases hi : i < l.length
    · obtain ⟨ad, rfl, x0, x1, x2, x3⟩ := at_R (Kd.C_below HR.out HB.out) (i : Int) (by omega) (by omega)
      rw [Int.toNat_natCast, rd_get hi] at x0 x1 x2 x3
      have hd : l.drop i = l[i] :: l.drop (i + 1) := List.drop_eq_getElem_cons hi
      have ha := HA.out
      rw [hd] at ha
      obtain ⟨u, hu, hrest⟩ := Option.bind_eq_some_iff.mp ha
      obtain ⟨x, hx⟩ : ∃ x, l[i] = x := ⟨_, rfl⟩
      rw [hx] at x0 x1 x2 x3 hu
      have HC := Aside0.mk (H1.out x u wr HB.out hu)
      have HM : Aside0 ((i : Int) ≤ 4000000) := ⟨by have := HL.out; omega⟩
      have HREST := Aside0.mk hrest
      have q1 : (i : Int) < (l.length : Int) := by omega
      obtain ⟨xs, xh, xl, xb⟩ := x
      clear hd ha hu hrest hx
      simp only [Rng.val] at HC
      cases u with
      | true =>
        go_wp2_with (go_at_call 42; refine HC.out.mono ?_; rintro e w1 ⟨rfl, hb⟩; have HB1 := Aside0.mk hb; clear hb HC)
        go_ret
        exact ⟨_, rfl, by (have hr := HREST.out; rw [if_pos trivial] at hr; rw [← Option.some.inj hr]; exact decide_eq_true (by omega)), HB.out.trans (HB1.out.mono HB.out.size)⟩
      | false =>
        go_wp2_with (go_at_call 42; refine HC.out.mono ?_; rintro e w1 ⟨rfl, hb⟩; have HB1 := Aside0.mk hb; clear hb HC)
        go_roundg (gk - 1)
        case measure => omega
        case rel => exact ⟨i + 1, by rw [wrap_small i HM.out], ⟨by omega⟩, ⟨HREST.out⟩, ⟨HB.out.trans (HB1.out.mono HB.out.size)⟩⟩
    · go_wp2
      go_ret
      refine ⟨_, rfl, ?_, HB.out⟩
      have ha := HA.out
      rw [List.drop_eq_nil_of_le (by omega)] at ha
      exact Option.some.inj ha
theorem contains_calls {hasF : Rng → Adr → Option Bool} (HH : HasLaw hasF) (a : Adr) (l : List Rng) (v : Bool) (h : anyF hasF a l = some v) (hlen : (l.length : Int) ≤ 4000000) (A : Option Addr) (c B : Nat) (w : World) (hR : Kd.C kR w A l.length l) (hB : B < w.heap.size) (c0 : w.cell? ⟨B, 0, none⟩ = some (.bool a.six)) (c1 : w.cell? ⟨B, 1, none⟩ = some (.int .u64 a.hi)) (c2 : w.cell? ⟨B, 2, none⟩ = some (.int .u64 a.lo)) :
    Calls Tryz.prog 41 #[.slice A l.length c, .func (.func 42) #[] #[.pointer (some ⟨B, 0, none⟩)]] w fun e w' => e = .returned (.bool v) ∧ Below w.heap.size w w' := by
  have HC := Aside0.mk (index_calls HH a l v h hlen A c B w hR hB c0 c1 c2)
  clear h hR HH c0 c1 c2 hlen
  go_enter Tryz.func41, Tryz.ntmps41
  go_wp2_with (go_at_call 64; refine HC.out.mono ?_; rintro e w1 ⟨r, rfl, rfl, hb⟩; have HB := Aside0.mk hb; clear hb HC)
  go_ret
  exact ⟨by first | rfl | (simp; done), HB.out⟩
theorem each_calls (n : Nat) (x : Rng) (w : World) : CallsIn Fence.wide n Tryz.prog 40 #[x.val] w fun e w' => e = .returned (.func (.func 63) #[] #[.pointer (some ⟨w.heap.size, 0, none⟩)]) ∧ w' = w.alloc (.cells #[.bool x.six, .int .u64 x.hi, .int .u64 x.lo, .int .i64 x.bits] 26) := by
  obtain ⟨xs, xh, xl, xb⟩ := x
  simp only [Rng.val]
  refine callsIn_of_wp Tryz.func40 rfl trivial ?_ rfl
  simp only [Tryz.ntmps40, List.size_toArray, List.length_cons, List.length_nil, Nat.reduceAdd, Nat.reduceSub, Array.replicate_succ, Array.replicate_zero, List.push_toArray, List.append_toArray, List.nil_append, List.cons_append]
  gi_wp2
  go_ret
  exact ⟨rfl, rfl⟩
end Go.Proofs.YtbalmnkbodcigaaGreatDoor.RangeFree
