/- What the iterator over a range's places yields: its addresses, one by one. -/
import Derived.Test.YtbalmnkbodcigaaGreatDoorRangeFree1
set_option linter.unusedSimpArgs false
set_option linter.unusedVariables false
namespace Go.Proofs.YtbalmnkbodcigaaGreatDoor.RangeFree
open Go Go.RowKit Go.Maps Go.Proofs.YtbalmnkbodcigaaGreatDoorW.PrintWords Go.Proofs.YtbalmnkbodcigaaGreatDoorW.PrintLast Go.Proofs.YtbalmnkbodcigaaGreatDoorW.PrintMore Go.Proofs.YtbalmnkbodcigaaGreatDoor.RangeRow

def SizeLaw (sizeF : Rng → Option Int) : Prop := ∀ (x : Rng) (v : Int) (w : World), sizeF x = some v → Calls Tryz.prog 13 #[x.val] w fun e w' => e = .returned (.int .i64 v) ∧ Below w.heap.size w w'
def AddLaw (addF : Adr → Int → Option (Bool × Int × Int × Bool)) : Prop := ∀ (a : Adr) (n : Int) (t : Bool × Int × Int × Bool) (w : World), addF a n = some t → Calls Tryz.prog 32 #[a.val, .int .u64 n] w fun e w' => e = .returned (.tuple #[.agg #[.bool t.1, .int .u64 t.2.1, .int .u64 t.2.2.1], .bool t.2.2.2]) ∧ Below w.heap.size w w'
/-- One block stays. -/
def KpE (B : Nat) (A C : World) : Prop := A.heap.size ≤ C.heap.size ∧ ∀ o, A.heap[B]? = some o → C.heap[B]? = some o
theorem KpE.trans {B : Nat} {a b c : World} (h : KpE B a b) (k : KpE B b c) : KpE B a c := ⟨Nat.le_trans h.1 k.1, fun o ho => k.2 o (h.2 o ho)⟩
theorem cell_of {W : World} {B : Nat} {cs : Array Value} {T : TypeId} {fz : Nat × Nat} (h : W.heap[B]? = some (.cells cs T fz)) (i : Nat) : W.cell? ⟨B, i, none⟩ = cs[i]? := by simp [World.cell?, h]
theorem u64_nat (i : Nat) (h : (i : Int) ≤ 65536) : IntKind.u64.wrap (i : Int) = (i : Int) := by
  simp [IntKind.wrap, IntKind.bits, IntKind.signed]
  omega
theorem left_step {i n : Nat} (h : (i : Int) ≤ 4000000) (hi : i < n) : n - (intOf (Value.int .i64 (wrap64 ((i : Int) + 1)))).toNat < n - (intOf (Value.int .i64 (i : Int))).toNat := by
  have key : ∀ x : Int, intOf (Value.int .i64 x) = x := fun _ => rfl
  rw [key, key, wrap_small i h, Int.toNat_natCast, Int.toNat_natCast]
  omega
set_option maxRecDepth 100000 in
set_option maxHeartbeats 8000000 in
theorem each1_in {α : Type} (q : α → Adr) {sizeF : Rng → Option Int} {addF : Adr → Int → Option (Bool × Int × Int × Bool)} (HS : SizeLaw sizeF) (HD : AddLaw addF) (n : Nat) (hn : 1 ≤ n) (l Be : Nat) (x : Rng) (ls : List α) (hsz : sizeF x = some (ls.length : Int)) (hlen : (ls.length : Int) ≤ 65536)
    (hadd : ∀ i (h : i < ls.length), ∃ ok, addF ⟨x.six, x.hi, x.lo⟩ (i : Int) = some ((q ls[i]).six, (q ls[i]).hi, (q ls[i]).lo, ok)) (W : World) (J Jx : List α → World → Prop)
    (hY : ∀ pre y W1, J pre W1 → pre ++ [y] <+: ls → YieldAt Fence.wide (n - 1) Tryz.prog l #[(q y).val] W1 fun e W' => (e = .returned (.bool true) ∧ J (pre ++ [y]) W' ∧ KpE Be W1 W') ∨ (e = .returned (.bool false) ∧ Jx (pre ++ [y]) W'))
    (hJ : AbidesFrom W.heap.size J) (hm : W.heap[Be]? = some (.cells #[.bool x.six, .int .u64 x.hi, .int .u64 x.lo, .int .i64 x.bits] 26 (0, 0))) (h0 : J [] W) :
    CallsIn Fence.wide n Tryz.prog 63 #[.func (.yield l) #[] #[], .pointer (some ⟨Be, 0, none⟩)] W fun e W' => (∃ v, e = .returned v) ∧ ((∃ ss : List α, ss = ls ∧ J ss W') ∨ (∃ pre, pre <+: ls ∧ Jx pre W')) := by
  obtain ⟨xs, xh, xl, xb⟩ := x
  refine callsIn_of_wp Tryz.func63 rfl trivial ?_ rfl
  simp only [Tryz.ntmps63, List.size_toArray, List.length_cons, List.length_nil, Nat.reduceAdd, Nat.reduceSub, Array.replicate_succ, Array.replicate_zero, List.push_toArray, List.append_toArray, List.nil_append, List.cons_append]
  have H0 := Aside0.mk h0
  have HS1 := Aside0.mk (HS ⟨xs, xh, xl, xb⟩ _ W hsz)
  have c0 : W.cell? ⟨Be, 0, none⟩ = some (.bool xs) := cell_of hm 0
  have c1 : W.cell? ⟨Be, 1, none⟩ = some (.int .u64 xh) := cell_of hm 1
  have c2 : W.cell? ⟨Be, 2, none⟩ = some (.int .u64 xl) := cell_of hm 2
  have c3 : W.cell? ⟨Be, 3, none⟩ = some (.int .i64 xb) := cell_of hm 3
  have HM := Aside0.mk hm
  have HLEN := Aside0.mk hlen
  have HAD := Aside0.mk hadd
  have hBe : Be < W.heap.size := (Array.getElem?_eq_some_iff.1 hm).1
  clear h0 hm hlen hadd hsz HS
  simp only [Rng.val] at HS1
  gi_wp2_with (refine ⟨trivial, ?_⟩; gi_at_call 13; (refine (callsIn_wide.2 HS1.out).mono ?_); rintro e w1 ⟨rfl, hb⟩; have HB1 := Aside0.mk hb; clear hb HS1)
  clear c0 c1 c2 c3
  gi_loopw [8] (fun v8 wr => ∃ i : Nat, v8 = .int .i64 (i : Int) ∧ Aside0 (i ≤ ls.length) ∧ Aside0 (wr.heap[Be]? = some (.cells #[.bool xs, .int .u64 xh, .int .u64 xl, .int .i64 xb] 26 (0, 0))) ∧ Aside0 (J (ls.take i) wr) ∧ Aside0 (W.heap.size ≤ wr.heap.size))
    (fun v8 _ => ls.length - (intOf v8).toNat)
  case atStart =>
    exact ⟨0, rfl, ⟨Nat.zero_le _⟩, ⟨(HB1.out.block Be hBe).trans HM.out⟩, ⟨hJ _ _ _ none H0.out (grown_of_below HB1.out none) (fun r e => by cases e)⟩, ⟨HB1.out.size⟩⟩
  case round =>
    clear HM H0 HB1
    obtain ⟨i, rfl, HI, HM, HJ, HS⟩ := hrel
    have hI := HI.out
    by_cases hi : i < ls.length
    · obtain ⟨ok, hok⟩ := HAD.out i hi
      have hxs : ls.take (i + 1) = ls.take i ++ [ls[i]] := by rw [List.take_succ_eq_append_getElem hi]
      obtain ⟨y, hy0⟩ : ∃ y, ls[i] = y := ⟨_, rfl⟩
      rw [hy0] at hok hxs
      have HXS := Aside0.mk hxs
      have HD1 := Aside0.mk (HD ⟨xs, xh, xl⟩ _ _ wr hok)
      have HL : Aside0 ((i : Int) ≤ 65536) := ⟨by have := HLEN.out; omega⟩
      have c0 : wr.cell? ⟨Be, 0, none⟩ = some (.bool xs) := cell_of HM.out 0
      have c1 : wr.cell? ⟨Be, 1, none⟩ = some (.int .u64 xh) := cell_of HM.out 1
      have c2 : wr.cell? ⟨Be, 2, none⟩ = some (.int .u64 xl) := cell_of HM.out 2
      have q1 : (i : Int) < (ls.length : Int) := by omega
      have q2 := u64_nat i HL.out
      clear hok hxs hy0
      simp only [Adr.val] at HD1
      gi_wp2_with (first | (refine ⟨trivial, ?_⟩; gi_at_call 32; (refine (callsIn_wide.2 HD1.out).mono ?_); rintro e w2 ⟨rfl, hb⟩; have HB2 := Aside0.mk hb; clear hb HD1; obtain ⟨fn, tmps, assign, body, hy, hYR⟩ := hY (ls.take i) y (w2.alloc (.cells #[.bool (q y).six, .int .u64 (q y).hi, .int .u64 (q y).lo] 24)) (hJ _ _ _ none (hJ _ _ _ none HJ.out (grown_of_below HB2.out none) (fun r e => by cases e)) (World.grownBy_alloc _ _ _) (fun r e => by cases e)) (by rw [← HXS.out]; exact List.take_prefix _ _); have HYR := Aside0.mk hYR; clear hYR; simp only [Adr.val] at hy))
      refine HYR.out.mono ?_
      have HM2 := Aside0.mk (show (w2.alloc (.cells #[.bool (q y).six, .int .u64 (q y).hi, .int .u64 (q y).lo] 24)).heap[Be]? = some (.cells #[.bool xs, .int .u64 xh, .int .u64 xl, .int .i64 xb] 26 (0, 0)) from (Below.heap_alloc _ _ _ (by have := HS.out; have := HB2.out.size; omega)).trans ((HB2.out.block Be (by have := HS.out; omega)).trans HM.out))
      have HZ2 := Aside0.mk (show W.heap.size ≤ (w2.alloc (.cells #[.bool (q y).six, .int .u64 (q y).hi, .int .u64 (q y).lo] 24)).heap.size by have := HS.out; have := HB2.out.size; simp; omega)
      rintro e W3 (⟨rfl, hJ3, hk3⟩ | ⟨rfl, hJx3⟩)
      · have HJ3 := Aside0.mk hJ3
        have HK3 := Aside0.mk hk3
        clear hJ3 hk3 HYR hy c0 c1 c2
        gi_wp2
        go_roundw
        case rel => exact ⟨i + 1, by rw [wrap_small i (by have := HL.out; omega)], ⟨hi⟩, ⟨HK3.out.2 _ HM2.out⟩, ⟨by rw [HXS.out]; exact HJ3.out⟩, ⟨Nat.le_trans HZ2.out HK3.out.1⟩⟩
        case measure => exact left_step (by have := HL.out; omega) hi
      · have HX := Aside0.mk (show ls.take i ++ [y] <+: ls by rw [← HXS.out]; exact List.take_prefix _ _)
        have HJ3 := Aside0.mk hJx3
        clear hJx3 HYR hy c0 c1 c2
        gi_wp2
        (try simp only [Exit.inBlock, Exit.then])
        refine bodyPost_ret (results_none rfl _ _ _) rfl ?_
        exact ⟨⟨_, rfl⟩, .inr ⟨_, HX.out, HJ3.out⟩⟩
    · have HE := Aside0.mk (show ls.take i = ls by rw [List.take_of_length_le]; omega)
      gi_wp2
      go_end0
      exact ⟨⟨_, rfl⟩, .inl ⟨ls, rfl, by rw [← HE.out]; exact HJ.out⟩⟩
theorem each1_stops {α : Type} (q : α → Adr) {sizeF : Rng → Option Int} {addF : Adr → Int → Option (Bool × Int × Int × Bool)} (HS : SizeLaw sizeF) (HD : AddLaw addF) (n : Nat) (hn : 1 ≤ n) (Be : Nat) (x : Rng) (ls : List α) (hsz : sizeF x = some (ls.length : Int)) (hlen : (ls.length : Int) ≤ 65536)
    (hadd : ∀ i (h : i < ls.length), ∃ ok, addF ⟨x.six, x.hi, x.lo⟩ (i : Int) = some ((q ls[i]).six, (q ls[i]).hi, (q ls[i]).lo, ok)) (w : World) (hm : w.heap[Be]? = some (.cells #[.bool x.six, .int .u64 x.hi, .int .u64 x.lo, .int .i64 x.bits] 26 (0, 0))) :
    SeqStopsK Fence.wide n Tryz.prog 63 #[.pointer (some ⟨Be, 0, none⟩)] (fun y : α => #[(q y).val]) (KpE Be) (fun ys => ys = ls) (fun pre => pre <+: ls) ls.length w := by
  intro l J Jx W hW hJ _ hY h0
  have hBe : Be < w.heap.size := (Array.getElem?_eq_some_iff.1 hm).1
  refine each1_in q HS HD n hn l Be x ls hsz hlen hadd W J Jx (fun pre y W1 hj hp => hY pre y W1 hj ?_) hJ ((hW.block Be hBe).trans hm) h0
  have := hp.length_le
  rw [List.length_append] at this
  simp at this
  omega
end Go.Proofs.YtbalmnkbodcigaaGreatDoor.RangeFree
