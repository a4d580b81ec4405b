/- This text proves, for each Go function named below, which plain Lean function its call computes, in whatever memory; a program of this session has written it. -/
import Derived.Test.YthimngabaliapaaOSevenx0
import Derived.Test.YthimngabaliapaaOSevenx1
namespace Go.Proofs.Ythimngabaliapaa.OSeven
open Go.RowKit Go.Proofs.YthimngabaliapaaW.PrintWords Go.Proofs.YthimngabaliapaaW.PrintLast Go.Proofs.YthimngabaliapaaW.PrintMore
attribute [local go_sem] max2_int min2_int max_two min_two max_three min_three max_four min_four   -- for this text's walks alone
set_option linter.unusedVariables false
set_option linter.unusedSimpArgs false

section
open Go.Shelf
attribute [local go_sem] Oper.semAt_some
def seqB (xs : List ByteArray) (m : Nat) : List (Int × ByteArray) := (((List.range xs.length).drop m).reverse).map fun (i : Nat) => ((i : Int), rdOf ByteArray.empty xs (i : Int))
theorem seqB_step (xs : List ByteArray) (m : Nat) (h : m < xs.length) : seqB xs m = seqB xs (m + 1) ++ [((m : Int), rdOf ByteArray.empty xs (m : Int))] := by
  unfold seqB
  rw [List.drop_eq_getElem_cons (by simpa using h), List.reverse_cons, List.map_append, List.getElem_range]
  rfl
theorem seqB_top (xs : List ByteArray) : seqB xs xs.length = [] := by
  unfold seqB
  rw [List.drop_eq_nil_of_le (by simp)]
  rfl
theorem seqB_pre (xs : List ByteArray) (m : Nat) : seqB xs m <+: seqB xs 0 := by
  induction m with
  | zero => exact List.prefix_refl _
  | succ m ih =>
    by_cases h : m < xs.length
    · rw [seqB_step xs m h] at ih
      exact (List.prefix_append _ _).trans ih
    · have : seqB xs (m + 1) = [] := by
        unfold seqB
        rw [List.drop_eq_nil_of_le (by simp; omega)]
        rfl
      rw [this]
      exact List.nil_prefix
theorem seqB_mem {xs : List ByteArray} {x : Int × ByteArray} (h : x ∈ seqB xs 0) : ∃ m : Nat, m < xs.length ∧ x = ((m : Int), rdOf ByteArray.empty xs (m : Int)) := by
  unfold seqB at h
  simp only [List.drop_zero, List.map_reverse, List.mem_reverse, List.mem_map, List.mem_range] at h
  obtain ⟨m, hm, rfl⟩ := h
  exact ⟨m, hm, rfl⟩
theorem seqB_len (xs : List ByteArray) : (seqB xs 0).length = xs.length := by
  unfold seqB
  simp

set_option maxRecDepth 100000 in
set_option maxHeartbeats 1000000 in
theorem back1_in (n : Nat) (hn : 1 ≤ n) (l Bm : Nat) (A : Option Addr) (c : Nat) (xs : List ByteArray) (hmax : xs.length ≤ 1000000) (w0 : World) (hB : Bm < w0.heap.size) (hm : w0.cell? ⟨Bm, 0, none⟩ = some (.slice A xs.length c)) (hC : Kd.C Kd.string w0 A xs.length xs)
    (J Jx : List (Int × ByteArray) → World → Prop) (N : Nat) (hN : xs.length ≤ N)
    (hY : ∀ pre x W, J pre W → pre ++ [x] <+: seqB xs 0 → pre.length < N → YieldAt Fence.wide (n - 1) Try.prog l #[.int .i64 x.1, .string x.2] W fun e W' => (e = .returned (.bool true) ∧ J (pre ++ [x]) W' ∧ Below w0.heap.size W W') ∨ (e = .returned (.bool false) ∧ Jx (pre ++ [x]) W'))
    (W : World) (hJ : AbidesFrom W.heap.size J) (hW : Below w0.heap.size w0 W) (h0 : J [] W) :
    CallsIn Fence.wide n Try.prog 69 #[.func (.yield l) #[] #[], .pointer (some ⟨Bm, 0, none⟩)] W fun e W' => (∃ v, e = .returned v) ∧ ((∃ ss : List (Int × ByteArray), ss = seqB xs 0 ∧ J ss W') ∨ (∃ pre, pre <+: seqB xs 0 ∧ Jx pre W')) := by
  refine callsIn_of_wp Try.func69 rfl trivial ?_ rfl
  simp only [Try.ntmps69, List.size_toArray, List.length_cons, List.length_nil, Nat.reduceAdd, Nat.reduceSub, Array.replicate_succ, Array.replicate_zero, List.push_toArray, List.append_toArray, List.nil_append, List.cons_append]
  have hmW : W.cell? ⟨Bm, 0, none⟩ = some (.slice A xs.length c) := (hW.cell (p := ⟨Bm, 0, none⟩) hB).trans hm
  have hw : wrap64 ((xs.length : Int) - 1) = (xs.length : Int) - 1 := wrap_id (by omega) (by omega)
  gi_wp2
  gi_loopw [3] (fun vi wr => ∃ (m : Nat) (i : Int), vi = .int .i64 i ∧ i + 1 = (m : Int) ∧ m ≤ xs.length ∧ Aside0 (J (seqB xs m) wr) ∧ Aside0 (Below w0.heap.size w0 wr))
    (fun vi _ => (intOf vi + 1).toNat)
  case atStart =>
    refine ⟨xs.length, (xs.length : Int) - 1, by first | rfl | rw [hw], by omega, Nat.le_refl _, ⟨?_⟩, ⟨?_⟩⟩
    · rw [seqB_top]
      first | exact h0 | exact hJ _ _ _ none h0 (grownBy_drewN_ _ _) (fun r e => by cases e)
    · first | exact hW | exact pw_below_drewN hW _
  case round =>
    obtain ⟨m, i, rfl, hi, hml, HJ, HB⟩ := hrel
    cases m with
    | zero =>
      have hi' : i = -1 := by omega
      subst hi'
      gi_wp2
      go_end0
      exact ⟨⟨_, rfl⟩, .inl ⟨_, rfl, HJ.out⟩⟩
    | succ m =>
      have hi' : i = (m : Int) := by omega
      subst hi'
      obtain ⟨ad, e1, hx⟩ := Kd.at_string (Kd.C_below hC HB.out) (m : Int) (by omega) (by omega)
      subst e1
      rw [Int.toNat_natCast] at hx
      have hst := seqB_step xs m (by omega)
      have hpre := seqB_pre xs m
      rw [hst] at hpre
      have hlen : (seqB xs (m + 1)).length < N := by
        have := hpre.length_le
        rw [seqB_len, List.length_append] at this
        simp at this
        omega
      obtain ⟨fn, tmps, assign, body, hy, hR⟩ := hY _ _ wr HJ.out hpre hlen
      have HRR := Aside0.mk hR
      have HP := Aside0.mk hpre
      have HS := Aside0.mk hst
      clear hR hpre hst
      dsimp only at hy
      generalize rdOf ByteArray.empty xs (m : Int) = x at hx hy HRR HP HS
      have hmw : wr.cell? ⟨Bm, 0, none⟩ = some (.slice (some ad) xs.length c) := (HB.out.cell (p := ⟨Bm, 0, none⟩) hB).trans hm
      have b0 : decide (0 ≤ (m : Int)) = true := decide_eq_true (by omega)
      have p1 : (0 ≤ (m : Int)) = True := eq_true (by omega)
      have q1 : ((m : Int) < (xs.length : Int)) = True := eq_true (by omega)
      gi_wp2_with fail
      refine HRR.out.mono ?_
      rintro e W3 (⟨rfl, hJ3, hk3⟩ | ⟨rfl, hJx3⟩)
      · have HJ3 := Aside0.mk hJ3
        have HK3 := Aside0.mk hk3
        have hw2 : wrap64 ((m : Int) - 1) = (m : Int) - 1 := wrap_id (by omega) (by omega)
        clear hJ3 hk3 HRR hy
        gi_wp2
        go_roundw
        case rel => exact ⟨m, (m : Int) - 1, by first | rfl | rw [hw2], by omega, by omega, ⟨by rw [HS.out]; exact HJ3.out⟩, ⟨HB.out.trans HK3.out⟩⟩
        case measure => first | (simp [intOf]; done) | (simp [intOf]; omega)
      · have HJ3 := Aside0.mk hJx3
        clear hJx3 HRR hy
        gi_wp2

        refine bodyPost_ret (results_none rfl _ _ _) rfl ?_
        exact ⟨⟨_, rfl⟩, .inr ⟨_, HP.out, HJ3.out⟩⟩

theorem back1_stopsQ (n : Nat) (hn : 1 ≤ n) (Bm : Nat) (A : Option Addr) (c : Nat) (xs : List ByteArray) (hmax : xs.length ≤ 1000000) (w0 : World) (hB : Bm < w0.heap.size) (hm : w0.cell? ⟨Bm, 0, none⟩ = some (.slice A xs.length c)) (hC : Kd.C Kd.string w0 A xs.length xs) :
    SeqStopsK Fence.wide n Try.prog 69 #[.pointer (some ⟨Bm, 0, none⟩)] (fun x : { x : Int × ByteArray // ∃ m : Nat, m < xs.length ∧ x = ((m : Int), rdOf ByteArray.empty xs (m : Int)) } => #[Value.int .i64 x.1.1, Value.string x.1.2]) (Below w0.heap.size) (fun ys => ys.map Subtype.val = seqB xs 0) (fun pre => pre.map Subtype.val <+: seqB xs 0) xs.length w0 := by
  intro l J Jx W hW hJ hJx hY h0
  refine (back1_in n hn l Bm A c xs hmax w0 hB hm hC (fun pre W => ∃ p : List { x : Int × ByteArray // ∃ m : Nat, m < xs.length ∧ x = ((m : Int), rdOf ByteArray.empty xs (m : Int)) }, p.map Subtype.val = pre ∧ J p W) (fun pre W => ∃ p : List { x : Int × ByteArray // ∃ m : Nat, m < xs.length ∧ x = ((m : Int), rdOf ByteArray.empty xs (m : Int)) }, p.map Subtype.val = pre ∧ Jx p W) _ (Nat.le_refl _) ?_ W ?_ hW ⟨[], rfl, h0⟩).mono ?_
  · rintro pre x W1 ⟨p, rfl, hj⟩ hp hl
    have hx := seqB_mem (hp.subset (List.mem_append_right _ (List.mem_singleton.2 rfl)))
    obtain ⟨fn, tmps, assign, body, hy, hR⟩ := hY p ⟨x, hx⟩ W1 hj (by simpa using hl)
    refine ⟨fn, tmps, assign, body, hy, hR.mono ?_⟩
    rintro e W' (⟨he, h1, h2⟩ | ⟨he, h1⟩)
    · exact .inl ⟨he, ⟨p ++ [⟨x, hx⟩], by simp, h1⟩, h2⟩
    · exact .inr ⟨he, ⟨p ++ [⟨x, hx⟩], by simp, h1⟩⟩
  · rintro pre A B row ⟨p, hp, hj⟩ hg hr
    exact ⟨p, hp, hJ p A B row hj hg hr⟩
  · rintro e W' ⟨hv, ⟨ss, hss, p, hp, hj⟩ | ⟨pre, hpre, p, hp, hj⟩⟩
    · exact ⟨hv, .inl ⟨p, hp.trans hss, hj⟩⟩
    · exact ⟨hv, .inr ⟨p, by show p.map Subtype.val <+: _; rw [hp]; exact hpre, hj⟩⟩
theorem back_calls (n : Nat) (v : Value) (hv : v.oneCell' = true) (w : World) : CallsIn Fence.wide n Try.prog 45 #[v] w fun e w' => e = .returned (.func (.func 69) #[] #[.pointer (some ⟨w.heap.size, 0, none⟩)]) ∧ w' = w.alloc (.cells #[v] 27) := by
  refine callsIn_of_wp Try.func45 rfl trivial ?_ rfl
  simp only [Try.ntmps45, List.size_toArray, List.length_cons, List.length_nil, Nat.reduceAdd, Nat.reduceSub, Array.replicate_succ, Array.replicate_zero, List.push_toArray, List.append_toArray, List.nil_append, List.cons_append]
  gi_wp2
  go_ret
  exact ⟨rfl, rfl⟩


def pairsU (x y : List ByteArray) : List (ByteArray × ByteArray) := y.zip (x.drop (x.length - y.length))
def allSame (l : List (ByteArray × ByteArray)) : Option Bool := if l.all (fun p => (label_Same.f p.1 p.2).isSome) then some (l.all fun p => label_Same.f p.1 p.2 == some true) else none
def name_Under.f (k : Nat) (a0 a1 : ByteArray) : Option Bool :=
  (name_Check.f k a0).bind fun t => if t = 0 then ((name_Check.f k a1).bind fun u => if u = 0 then ((name_Labels.f k a0).bind fun x => (name_Labels.f k a1).bind fun y => if x.length < y.length then some false else allSame (pairsU x y)) else some false) else some false

theorem under_results (tmps : Array Value) (g : Nat) (b : Bool) (w : World) (hp : tmps.getD 4 undef = .pointer (some ⟨g, 0, none⟩)) (hc : w.cell? ⟨g, 0, none⟩ = some (.bool b)) : (results Try.f16 tmps).run Try.prog w = .ok (.bool b) w := by
  have hr : Try.f16.results = #[ResultVar.cell 4 4] := by kernel_rfl
  have hp' : tmps[4]?.getD undef = .pointer (some ⟨g, 0, none⟩) := by simpa using hp
  simp [results, hr, go_sem, hc, hp']
set_option maxRecDepth 100000 in
set_option maxHeartbeats 2000000 in
theorem under_bad1 (k : Nat) (a0 a1 : ByteArray) (c : Int) (hc : c ≠ 0) (hk : name_Check.f k a0 = some c) (w : World) :
    Calls Try.prog 16 #[.string a0, .string a1] w fun e W' => e = .returned (.bool false) ∧ Below w.heap.size w W' := by
  have HC := Aside0.mk hk
  have hc1 : (c == 0) = false := beq_eq_false_iff_ne.2 hc
  have hc2 : (c != 0) = true := bne_iff_ne.2 hc
  clear hk hc
  go_enter Try.func16, Try.ntmps16
  go_wp2_with (go_at_call 12; (with_reducible refine (name_Check.calls k a0 c _ HC.out).mono ?_); rintro e w' ⟨rfl, ⟨nd, rfl⟩⟩)
  refine bodyPost_ret (under_results _ w.heap.size false _ rfl ((show Boxed _ w.heap.size 4 (.bool false) from Boxed.new w 4 (.bool false)).set (.bool false)).cell) rfl ?_
  exact ⟨rfl, below_set (pw_below_drewN (below_alloc (Below.refl _ _) _) _) (Nat.le_refl _)⟩
set_option maxRecDepth 100000 in
set_option maxHeartbeats 2000000 in
theorem under_bad2 (k : Nat) (a0 a1 : ByteArray) (c : Int) (hc : c ≠ 0) (hk0 : name_Check.f k a0 = some 0) (hk : name_Check.f k a1 = some c) (w : World) :
    Calls Try.prog 16 #[.string a0, .string a1] w fun e W' => e = .returned (.bool false) ∧ Below w.heap.size w W' := by
  have HC0 := Aside0.mk hk0
  have HC := Aside0.mk hk
  have hc1 : (c == 0) = false := beq_eq_false_iff_ne.2 hc
  have hc2 : (c != 0) = true := bne_iff_ne.2 hc
  clear hk hc hk0
  go_enter Try.func16, Try.ntmps16
  go_wp2_with (first
    | (go_at_call 12; (with_reducible refine (name_Check.calls k a0 0 _ HC0.out).mono ?_); rintro e w' ⟨rfl, ⟨nd, rfl⟩⟩)
    | (go_at_call 12; (with_reducible refine (name_Check.calls k a1 c _ HC.out).mono ?_); rintro e w' ⟨rfl, ⟨nd2, rfl⟩⟩))
  refine bodyPost_ret (under_results _ w.heap.size false _ rfl ((show Boxed _ w.heap.size 4 (.bool false) from Boxed.new w 4 (.bool false)).set (.bool false)).cell) rfl ?_
  exact ⟨rfl, below_set (pw_below_drewN (below_alloc (Below.refl _ _) _) _) (Nat.le_refl _)⟩

set_option maxRecDepth 100000 in
set_option maxHeartbeats 2000000 in
theorem under_short (k : Nat) (a0 a1 : ByteArray) (x y : List ByteArray) (hk0 : name_Check.f k a0 = some 0) (hk1 : name_Check.f k a1 = some 0) (hx : name_Labels.f k a0 = some x) (hy : name_Labels.f k a1 = some y) (hlt : x.length < y.length) (w : World) :
    Calls Try.prog 16 #[.string a0, .string a1] w fun e W' => e = .returned (.bool false) ∧ Below w.heap.size w W' := by
  have HC0 := Aside0.mk hk0
  have HC1 := Aside0.mk hk1
  have HX := Aside0.mk hx
  have HY := Aside0.mk hy
  have hl : decide ((x.length : Int) < (y.length : Int)) = true := decide_eq_true (by omega)
  clear hk1 hk0 hx hy
  go_enter Try.func16, Try.ntmps16
  go_wp2_with (first
    | (go_at_call 12; (with_reducible refine (name_Check.calls k a0 0 _ HC0.out).mono ?_); rintro e w' ⟨rfl, ⟨nd, rfl⟩⟩)
    | (go_at_call 12; (with_reducible refine (name_Check.calls k a1 0 _ HC1.out).mono ?_); rintro e w' ⟨rfl, ⟨nd2, rfl⟩⟩)
    | (go_at_call 14; (with_reducible refine (name_Labels.calls k a0 x _ HX.out).mono ?_); rintro e w3 ⟨v3, rfl, hr3, hb3⟩; have HR3 := Aside0.mk hr3; have HB3 := Aside0.mk hb3; clear hr3 hb3; obtain ⟨A3, c3, e3⟩ := Kd.R_slice HR3.out; subst e3)
    | (go_at_call 14; (with_reducible refine (name_Labels.calls k a1 y _ HY.out).mono ?_); rintro e w4 ⟨v4, rfl, hr4, hb4⟩; have HR4 := Aside0.mk hr4; have HB4 := Aside0.mk hb4; clear hr4 hb4; obtain ⟨A4, c4, e4⟩ := Kd.R_slice HR4.out; subst e4;
       have hx4 : Boxed w4 w.heap.size 4 (.bool false) := by
        have b0 : Boxed ((w.alloc (Obj.cells #[Value.bool false] 4)).drewN (nd + nd2)) w.heap.size 4 (.bool false) := Boxed.new w 4 (.bool false)
        exact (HB4.out.block _ (Nat.lt_of_lt_of_le b0.lt HB3.out.size)).trans ((HB3.out.block _ b0.lt).trans b0);
       have q1 := (hx4.alloc (.cells #[.slice A3 x.length c3] 27)).cell; have q2 := (hx4.alloc (.cells #[.slice A3 x.length c3] 27)).frozen; have q3 := ((hx4.alloc (.cells #[.slice A3 x.length c3] 27)).set (.bool false)).cell; have HX4 := Aside0.mk hx4; clear hx4))
  refine bodyPost_ret (under_results _ w.heap.size false _ rfl q3) rfl ?_
  have hs : w.heap.size ≤ w3.heap.size := Nat.le_trans (by simp) HB3.out.size
  refine ⟨rfl, below_set (below_alloc ?_ _) (Nat.le_refl _)⟩
  exact ((pw_below_drewN (below_alloc (Below.refl _ _) _) _).trans (HB3.out.mono (by simp))).trans (HB4.out.mono hs)

theorem name_Labels_le {k : Nat} {a : ByteArray} {r : List ByteArray} (h : name_Labels.f k a = some r) : r.length ≤ 254 := by
  unfold name_Labels.f at h
  cases hk : name_Check.f k a with
  | none => rw [hk] at h; cases h
  | some t =>
    rw [hk, Option.bind_some] at h
    by_cases ht : t = 0
    · rw [if_pos ht] at h
      by_cases hs : a.size ≤ 254 ∧ (labelsP a).length ≤ 254
      · rw [if_pos hs] at h
        obtain rfl := Option.some.inj h
        exact hs.2
      · rw [if_neg hs] at h; cases h
    · rw [if_neg ht] at h
      obtain rfl := Option.some.inj h
      exact Nat.zero_le _
theorem seqB_has {xs : List ByteArray} {m : Nat} (h : m < xs.length) : ((m : Int), rdOf ByteArray.empty xs (m : Int)) ∈ seqB xs 0 := by
  unfold seqB
  simp only [List.drop_zero, List.map_reverse, List.mem_reverse, List.mem_map, List.mem_range]
  exact ⟨m, h, rfl⟩
theorem rdOf_at {l : List ByteArray} {m : Nat} (h : m < l.length) : rdOf ByteArray.empty l (m : Int) = l[m] := by
  unfold rdOf
  simp [List.getD, h]
theorem allSame_at {y z : List ByteArray} {r : Bool} (hl : z.length = y.length) (h : allSame (y.zip z) = some r) {m : Nat} (hm : m < y.length) :
    ∃ b, label_Same.f (rdOf ByteArray.empty y (m : Int)) (rdOf ByteArray.empty z (m : Int)) = some b ∧ (b = false → r = false) := by
  unfold allSame at h
  have hz : m < z.length := by omega
  rw [rdOf_at hm, rdOf_at hz]
  have hmem : (y[m], z[m]) ∈ y.zip z := by
    have : (y.zip z)[m]'(by simp; omega) = (y[m], z[m]) := by simp
    rw [← this]
    exact List.getElem_mem _
  by_cases c : (y.zip z).all (fun p => (label_Same.f p.1 p.2).isSome) = true
  · rw [if_pos c] at h
    obtain rfl := Option.some.inj h
    have h1 := List.all_eq_true.1 c _ hmem
    obtain ⟨b, hb⟩ := Option.isSome_iff_exists.1 h1
    refine ⟨b, hb, fun hf => ?_⟩
    subst hf
    rw [List.all_eq_false]
    refine ⟨_, hmem, ?_⟩
    rw [hb]
    simp
  · rw [if_neg c] at h; cases h
theorem allSame_true {y z : List ByteArray} {r : Bool} (hl : z.length = y.length) (h : allSame (y.zip z) = some r) (ht : ∀ m : Nat, m < y.length → label_Same.f (rdOf ByteArray.empty y (m : Int)) (rdOf ByteArray.empty z (m : Int)) = some true) : r = true := by
  unfold allSame at h
  by_cases c : (y.zip z).all (fun p => (label_Same.f p.1 p.2).isSome) = true
  · rw [if_pos c] at h
    obtain rfl := Option.some.inj h
    rw [List.all_eq_true]
    intro p hp
    obtain ⟨m, hm, rfl⟩ := List.getElem_of_mem hp
    have hm' : m < y.length := by simp at hm; omega
    have := ht m hm'
    rw [rdOf_at hm', rdOf_at (by omega)] at this
    simp [this]
  · rw [if_neg c] at h; cases h
set_option maxRecDepth 100000 in
set_option maxHeartbeats 4000000 in
theorem under_in (n : Nat) (hn : 3 ≤ n) (k : Nat) (a0 a1 : ByteArray) (x y : List ByteArray) (r : Bool) (hk0 : name_Check.f k a0 = some 0) (hk1 : name_Check.f k a1 = some 0) (hx : name_Labels.f k a0 = some x) (hy : name_Labels.f k a1 = some y) (hlt : ¬ x.length < y.length) (hr : allSame (pairsU x y) = some r) (w : World) :
    CallsIn Fence.wide n Try.prog 16 #[.string a0, .string a1] w fun e W' => e = .returned (.bool r) ∧ Below w.heap.size w W' := by
  have h1 : 1 ≤ n := by omega
  have hxl := name_Labels_le hx
  have hyl := name_Labels_le hy
  have HC0 := Aside0.mk hk0
  have HC1 := Aside0.mk hk1
  have HX := Aside0.mk hx
  have HY := Aside0.mk hy
  have HR := Aside0.mk hr
  have hl : decide ((x.length : Int) < (y.length : Int)) = false := decide_eq_false (by omega)
  have hw : wrap64 ((x.length : Int) - (y.length : Int)) = (x.length : Int) - (y.length : Int) := wrap_id (by omega) (by omega)
  have hq : x.length - (x.length - y.length) = y.length := by omega
  have hdl : (x.drop (x.length - y.length)).length = y.length := by rw [List.length_drop]; omega
  clear hk1 hk0 hx hy hr
  refine callsIn_of_wp_marks Try.func16 rfl trivial ?_ rfl
  simp only [Try.ntmps16, List.size_toArray, List.length_cons, List.length_nil, Nat.reduceAdd, Nat.reduceSub, Array.replicate_succ, Array.replicate_zero, List.push_toArray, List.append_toArray, List.nil_append, List.cons_append]
  gi_wp2_with (first
    | (refine ⟨trivial, ?_⟩; gi_at_call 12; (with_reducible refine CallsIn.mono (callsIn_wide.2 (name_Check.calls k a0 0 _ HC0.out)) ?_); rintro e w' ⟨rfl, ⟨nd, rfl⟩⟩)
    | (refine ⟨trivial, ?_⟩; gi_at_call 12; (with_reducible refine CallsIn.mono (callsIn_wide.2 (name_Check.calls k a1 0 _ HC1.out)) ?_); rintro e w' ⟨rfl, ⟨nd2, rfl⟩⟩)
    | (refine ⟨trivial, ?_⟩; gi_at_call 14; (with_reducible refine CallsIn.mono (callsIn_wide.2 (name_Labels.calls k a0 x _ HX.out)) ?_); rintro e w3 ⟨v3, rfl, hr3, hb3⟩; have HR3 := Aside0.mk hr3; have HB3 := Aside0.mk hb3; clear hr3 hb3; obtain ⟨A3, c3, e3⟩ := Kd.R_slice HR3.out; subst e3; obtain ⟨A5, hA5⟩ : ∃ A5, (if c3 = x.length - y.length then A3 else Option.map (fun z => z.add (x.length - y.length)) A3) = A5 := ⟨_, rfl⟩)
    | (refine ⟨trivial, ?_⟩; gi_at_call 14; (with_reducible refine CallsIn.mono (callsIn_wide.2 (name_Labels.calls k a1 y _ HY.out)) ?_); rintro e w4 ⟨v4, rfl, hr4, hb4⟩; have HR4 := Aside0.mk hr4; have HB4 := Aside0.mk hb4; clear hr4 hb4; obtain ⟨A4, c4, e4⟩ := Kd.R_slice HR4.out; subst e4)
    | (refine ⟨trivial, ?_⟩; gi_at_call 45; (with_reducible refine CallsIn.mono (back_calls (n - 1) _ rfl _) ?_); rintro e w5 ⟨rfl, rfl⟩))
  obtain ⟨c5, hc5⟩ : ∃ c5, c3 - (x.length - y.length) = c5 := ⟨_, rfl⟩
  rw [hc5]
  have hs3 : w.heap.size < w3.heap.size := Nat.lt_of_lt_of_le (by simp) HB3.out.size
  have hs4 : w3.heap.size ≤ w4.heap.size := HB4.out.size
  have hCx4 : Kd.C Kd.string w4 A5 (x.drop (x.length - y.length)).length (x.drop (x.length - y.length)) := by
    have := Kd.C_drop (m := x.length - y.length) (c := c3) (Kd.C_below (Kd.R_reads' HR3.out).2.2 HB4.out) (by omega) (Kd.R_reads' HR3.out).2.1
    rw [show Kd.string.sz = 1 from rfl, Nat.mul_one] at this
    rw [← hA5]
    exact this
  have hCy4 : Kd.C Kd.string w4 A4 y.length y := (Kd.R_reads' HR4.out).2.2
  have hx4 : Boxed w4 w.heap.size 4 (.bool false) := by
    have b0 : Boxed ((w.alloc (Obj.cells #[Value.bool false] 4)).drewN (nd + nd2)) w.heap.size 4 (.bool false) := Boxed.new w 4 (.bool false)
    exact (HB4.out.block _ (Nat.lt_of_lt_of_le b0.lt HB3.out.size)).trans ((HB3.out.block _ b0.lt).trans b0)
  have hb4 : Below w.heap.size w w4 := ((pw_below_drewN (below_alloc (Below.refl _ _) _) _).trans (HB3.out.mono (by simp))).trans (HB4.out.mono (by omega))
  have hall : Below w4.heap.size w4 ((w4.alloc (Obj.cells #[Value.slice A5 y.length c5] 27)).alloc (Obj.cells #[Value.slice A4 y.length c4] 27)) := (((Below.refl _ w4).alloc (Nat.le_refl _) _).alloc (by simp) _)
  have hsW : ((w4.alloc (Obj.cells #[Value.slice A5 y.length c5] 27)).alloc (Obj.cells #[Value.slice A4 y.length c4] 27)).heap.size = w4.heap.size + 2 := by simp
  have hR1 := ((hx4.alloc (Obj.cells #[Value.slice A5 y.length c5] 27)).alloc (Obj.cells #[Value.slice A4 y.length c4] 27))
  have hX1 := ((Boxed.new w4 27 (Value.slice A5 y.length c5)).alloc (Obj.cells #[Value.slice A4 y.length c4] 27))
  have hY1 := Boxed.new (w4.alloc (Obj.cells #[Value.slice A5 y.length c5] 27)) 27 (Value.slice A4 y.length c4)
  rw [World.size_alloc] at hY1
  have hCx := Kd.C_below hCx4 hall
  have hCy := Kd.C_below hCy4 hall
  have hbW := hb4.trans (hall.mono (by omega))
  rw [hdl] at hCx
  generalize ((w4.alloc (Obj.cells #[Value.slice A5 y.length c5] 27)).alloc (Obj.cells #[Value.slice A4 y.length c4] 27)) = W1 at *
  have hseq := back1_stopsQ (n - 1) (by omega) (w4.heap.size + 1) A4 c4 y (by omega) W1 (by omega) hY1.cell hCy
  have hR0 := HR.out
  unfold pairsU at hR0
  generalize x.drop (x.length - y.length) = xd at hCx hdl hR0
  have HR0 := Aside0.mk hR0
  clear hR0 HR HX HY HC0 HC1 HR3 HR4 HB3 HB4 hCx4 hCy4 hx4 hb4 hall hA5
  refine wpIn_rangeFunc_ownG rfl h1 (gf := 69) (lb := #[.pointer (some ⟨w4.heap.size + 1, 0, none⟩)]) rfl trivial (enters_of Try.func69 (by kernel_rfl) rfl) hseq (fun a b => a.trans b) (belowK_b (Nat.le_refl _)) (Below.refl _ _) (fun _ => rfl)
    (fun pre W => (∀ z ∈ pre, label_Same.f z.1.2 (rdOf ByteArray.empty xd z.1.1) = some true) ∧ Below W1.heap.size W1 W)
    (fun c pre W => ((c = .ret ∧ r = false) ∧ Boxed W w.heap.size 4 (.bool false)) ∧ Below w.heap.size w W)
    (OwnFrom.and (fun _ _ _ _ hs _ _ => hs) (ownFrom_below (Nat.le_refl _) (Nat.le_refl _)))
    (fun c => OwnFrom.and (OwnFrom.and (fun _ _ _ _ hs _ _ => hs) (Own.from (boxed_own _ _ _) _)) (ownFrom_below (Nat.le_refl _) (by omega)))
    ⟨fun z hz => (by cases hz), Below.refl _ _⟩
    (fun z => { tmps := #[.string a0, .string a1, undef, undef, .pointer (some ⟨w.heap.size, 0, none⟩), .pointer (some ⟨w4.heap.size, 0, none⟩), .slice A4 y.length c4, .int .i64 z.1.1, .string z.1.2, .string a0, .int .i64 0, .bool false, .bool false, .string a1, .int .i64 0, .bool false, .bool false, .string a0, .slice A3 x.length c3, .string a1, .slice A4 y.length c4, .slice A3 x.length c3, .int .i64 x.length, .slice A4 y.length c4, .int .i64 y.length, .bool false, .slice A3 x.length c3, .slice A3 x.length c3, .int .i64 x.length, .slice A4 y.length c4, .int .i64 y.length, .int .i64 ((x.length : Int) - (y.length : Int)), .slice A5 y.length c5, .slice A4 y.length c4, .func (.func 69) #[] #[.pointer (some ⟨w4.heap.size + 1, 0, none⟩)], .int .i64 z.1.1, .string z.1.2, undef, undef, undef, undef, undef, undef, undef], defers := [] }) ?assign ?body ?done ?stop
  case assign =>
    intro l z W K hK
    gi_wp2
    exact hK
  case body =>
    rintro l pre ⟨⟨zi, p⟩, hz⟩ W ⟨hpre, hB1⟩ hlt
    have hz' := hz
    obtain ⟨m, hm, hzeq⟩ := hz'
    have hzp : p = rdOf ByteArray.empty y (m : Int) := congrArg Prod.snd hzeq
    obtain rfl : zi = (m : Int) := congrArg Prod.fst hzeq
    clear hzeq
    obtain ⟨b, hb, hbr⟩ := allSame_at hdl HR0.out hm
    rw [← hzp] at hb
    have HZP := Aside0.mk hzp
    clear hzp
    obtain ⟨ad, e1, hxm⟩ := Kd.at_string (Kd.C_below hCx hB1) (m : Int) (by omega) (by omega)
    subst e1
    rw [Int.toNat_natCast] at hxm
    have p1 : (0 ≤ (m : Int)) = True := eq_true (by omega)
    have q1 : ((m : Int) < (y.length : Int)) = True := eq_true (by omega)
    have hX := (hB1.block _ hX1.lt).trans hX1
    have hXc := Boxed.cell hX
    have hRW : Boxed W w.heap.size 4 (.bool false) := (hB1.block _ hR1.lt).trans hR1
    have hRc := Boxed.cell hRW
    have hRf := Boxed.frozen hRW
    have h12 : 1 ≤ n - 1 - 1 := by omega
    have hW1s : w.heap.size ≤ W1.heap.size := by omega
    have hWs := hB1.size
    have HP := Aside0.mk hpre
    clear hpre
    obtain ⟨q, hqq⟩ : ∃ q, rdOf ByteArray.empty xd (m : Int) = q := ⟨_, rfl⟩
    rw [hqq] at hxm hb
    have HB := Aside0.mk hb
    have HQQ := Aside0.mk hqq
    clear hb hqq
    dsimp only
    have HT := fun (W : World) => (callsIn_wide (n := n - 1 - 1 - 1)).2 (label_Same.calls p q b W HB.out)
    cases b with
    | true =>
      gi_wp2_with (refine ⟨trivial, ?_⟩; gi_at_call 46; (with_reducible refine CallsIn.mono (CallsIn.inRound (F := Fence.wide) l (HT _)) ?_); rintro e w7 ⟨rfl, hb7⟩)
      have hk7 : KeepsFrom W1.heap.size W w7 := ⟨hb7.size, fun k o _ hk _ => (hb7.block k (Array.getElem?_eq_some_iff.1 hk).1).trans hk⟩
      refine ⟨hk7, hb7.mono hWs, ?_, hB1.trans (hb7.mono hWs)⟩
      intro z hz
      rcases List.mem_append.1 hz with hz | hz
      · exact HP.out z hz
      · obtain rfl := List.mem_singleton.1 hz
        dsimp only
        rw [HQQ.out]
        exact HB.out
    | false =>
      gi_wp2_with (refine ⟨trivial, ?_⟩; gi_at_call 46; (with_reducible refine CallsIn.mono (CallsIn.inRound (F := Fence.wide) l (HT _)) ?_); rintro e w7 ⟨rfl, hb7⟩; have r7 : Boxed w7 w.heap.size 4 (.bool false) := (hb7.block _ hRW.lt).trans hRW; have r7c := r7.cell; have r7f := r7.frozen)
      have hk7 : KeepsFrom W1.heap.size W w7 := ⟨hb7.size, fun k o _ hk _ => (hb7.block k (Array.getElem?_eq_some_iff.1 hk).1).trans hk⟩
      have hk8 : KeepsFrom W1.heap.size w7 (w7.setCell ⟨w.heap.size, 0, none⟩ (.bool false)) := (KeepsOthers.setCell w7 ⟨w.heap.size, 0, none⟩ (.bool false)).from _
      exact ⟨hk7.trans hk8, ⟨⟨rfl, hbr trivial⟩, r7.set (.bool false)⟩, (hbW.trans ((hB1.trans (hb7.mono hWs)).mono hW1s)).setCell (p := ⟨w.heap.size, 0, none⟩) (Nat.le_refl _) _⟩
  case done =>
    rintro D ys W hD hys ⟨hpre, hB1⟩ hK
    have hW1s : w.heap.size ≤ W1.heap.size := by omega
    have hRW : Boxed W w.heap.size 4 (.bool false) := (hB1.block _ hR1.lt).trans hR1
    have hRc := hRW.cell
    have hRf := hRW.frozen
    have hrt : r = true := by
      refine allSame_true hdl HR0.out (fun m hm => ?_)
      have hmem : ((m : Int), rdOf ByteArray.empty y (m : Int)) ∈ ys.map Subtype.val := by
        rw [hys]
        exact seqB_has hm
      obtain ⟨z, hz, hze⟩ := List.mem_map.1 hmem
      have := hpre z hz
      rw [hze] at this
      exact this
    subst hrt
    clear hpre hys
    gi_wp2
    have hK' := (KeepsOthers.setCell W ⟨w.heap.size, 0, none⟩ (.bool true)).same D _ hK rfl
    refine ⟨by simp, .inl ⟨_, _, rfl, run_takeDeferred hK', ?_⟩⟩
    have hc5 := cell_kept (hRW.set (.bool true)).cell (grownBy_putObj' _ D (.deferred none)) (fun r e => by cases e; exact ⟨_, hK', rfl⟩)
    exact ⟨.bool true, under_results _ w.heap.size true _ rfl hc5, rfl, ((hbW.trans (hB1.mono hW1s)).setCell (p := ⟨w.heap.size, 0, none⟩) (Nat.le_refl _) _).trans (belowK_b (w := w) (Nat.le_refl _) _ D _ _ (by omega) hK' rfl rfl)⟩
  case stop =>
    rintro D c pre W hD hpre ⟨⟨⟨rfl, hrf⟩, bR1⟩, hB1⟩ hK
    subst hrf
    gi_wp2
    refine ⟨by simp, .inl ⟨_, _, rfl, run_takeDeferred hK, ?_⟩⟩
    have hc5 := cell_kept bR1.cell (grownBy_putObj' _ D (.deferred none)) (fun r e => by cases e; exact ⟨_, hK, rfl⟩)
    exact ⟨.bool false, under_results _ w.heap.size false _ rfl hc5, rfl, hB1.trans (belowK_b (w := w) (Nat.le_refl _) W D _ _ (by omega) hK rfl rfl)⟩

theorem name_Under.calls (k : Nat) (a0 a1 : ByteArray) (r : Bool) (w : World) (h : name_Under.f k a0 a1 = some r) :
    Calls Try.prog 16 #[.string a0, .string a1] w fun e w' => e = .returned (.bool r) ∧ Below w.heap.size w w' := by
  unfold name_Under.f at h
  cases hk : name_Check.f k a0 with
  | none => rw [hk] at h; cases h
  | some t =>
    rw [hk, Option.bind_some] at h
    by_cases ht : t = 0
    · subst ht
      rw [if_pos rfl] at h
      cases hk1 : name_Check.f k a1 with
      | none => rw [hk1] at h; cases h
      | some u =>
        rw [hk1, Option.bind_some] at h
        by_cases hu : u = 0
        · subst hu
          rw [if_pos rfl] at h
          cases hx : name_Labels.f k a0 with
          | none => rw [hx] at h; cases h
          | some x =>
            rw [hx, Option.bind_some] at h
            cases hy : name_Labels.f k a1 with
            | none => rw [hy] at h; cases h
            | some y =>
              rw [hy, Option.bind_some] at h
              by_cases hl : x.length < y.length
              · rw [if_pos hl] at h
                obtain rfl := Option.some.inj h
                exact under_short k a0 a1 x y hk hk1 hx hy hl w
              · rw [if_neg hl] at h
                exact (callsIn_wide (n := 9)).1 (under_in 9 (by omega) k a0 a1 x y r hk hk1 hx hy hl h w)
        · rw [if_neg hu] at h
          obtain rfl := Option.some.inj h
          exact under_bad2 k a0 a1 u hu hk hk1 w
    · rw [if_neg ht] at h
      obtain rfl := Option.some.inj h
      exact under_bad1 k a0 a1 t ht hk w
theorem name_Under.mono : ∀ a0 a1 k, LeO (name_Under.f k a0 a1) (name_Under.f (k + 1) a0 a1) := by
  intro a0 a1 k
  unfold name_Under.f
  exact LeO.bind (name_Check.mono a0 k) (fun _ => LeO.ite (LeO.bind (name_Check.mono a1 k) (fun _ => LeO.ite (LeO.bind (name_Labels.mono a0 k) (fun _ => LeO.bind (name_Labels.mono a1 k) (fun _ => LeO.refl _))) (LeO.refl _))) (LeO.refl _))
end

/-! ### stringslite_HasPrefix: function 70 -/
def stringslite_HasPrefix.f (a0 : ByteArray) (a1 : ByteArray) : Option (Bool) := if (a0.size : Int) ≥ (a1.size : Int) then (if 0 ≤ (a1.size : Int) then (if (a1.size : Int) ≤ (a0.size : Int) then (some ((a0.extract 0 ((a1.size : Int) : Int).toNat).toList == a1.toList)) else (none)) else (none)) else (some false)
set_option maxHeartbeats 8000000 in
set_option maxRecDepth 100000 in
theorem stringslite_HasPrefix.calls (a0 : ByteArray) (a1 : ByteArray) (r : Bool) (w : World) (h : stringslite_HasPrefix.f a0 a1 = some r) :
    Calls Try.prog 70 #[.string a0, .string a1] w fun e w' => e = .returned (.bool r) ∧ Drawn0 w w' := by
  have H : (if (a0.size : Int) ≥ (a1.size : Int) then (if 0 ≤ (a1.size : Int) then (if (a1.size : Int) ≤ (a0.size : Int) then (some ((a0.extract 0 ((a1.size : Int) : Int).toNat).toList == a1.toList)) else (none)) else (none)) else (some false)) = some r := h
  clear h
  by_cases c3 : (a0.size : Int) ≥ (a1.size : Int)
  · rw [if_pos c3] at H
    have c3b0 : decide ((a1.size : Int) ≤ (a0.size : Int)) = true := decide_eq_true c3
    have c3b1 : decide (a1.size ≤ a0.size) = true := decide_eq_true (Int.ofNat_le.mp c3)
    clear c3
    by_cases c4 : 0 ≤ (a1.size : Int)
    · rw [if_pos c4] at H
      have c4b0 := eq_true c4
      have c4b1 : decide (0 ≤ (a1.size : Int)) = true := decide_eq_true c4
      clear c4
      by_cases c5 : (a1.size : Int) ≤ (a0.size : Int)
      · rw [if_pos c5] at H
        have c5b0 := eq_true c5
        have c5b1 : decide ((a1.size : Int) ≤ (a0.size : Int)) = true := decide_eq_true c5
        clear c5
        obtain rfl := Option.some.inj H
        go_enter Try.func70, Try.ntmps70
        go_wp2
        go_ret
        exact ⟨by first | rfl | (simp; done) | (simp [*]; done), by repeat (first | exact Drawn0.refl _ | apply Drawn0.step)⟩
      · rw [if_neg c5] at H
        exact absurd H (by simp)
    · rw [if_neg c4] at H
      exact absurd H (by simp)
  · rw [if_neg c3] at H
    have c3b0 : decide ((a1.size : Int) ≤ (a0.size : Int)) = false := decide_eq_false c3
    have c3b1 : decide (a1.size ≤ a0.size) = false := decide_eq_false (fun h => c3 (Int.ofNat_le.mpr h))
    clear c3
    obtain rfl := Option.some.inj H
    go_enter Try.func70, Try.ntmps70
    go_wp2
    go_ret
    exact ⟨by first | rfl | (simp; done) | (simp [*]; done), by repeat (first | exact Drawn0.refl _ | apply Drawn0.step)⟩

/-! ### strings_HasPrefix: function 47 -/
def strings_HasPrefix.f (a0 : ByteArray) (a1 : ByteArray) : Option (Bool) := (stringslite_HasPrefix.f a0 a1).bind fun t108 => (some t108)
set_option maxHeartbeats 8000000 in
set_option maxRecDepth 100000 in
theorem strings_HasPrefix.calls (a0 : ByteArray) (a1 : ByteArray) (r : Bool) (w : World) (h : strings_HasPrefix.f a0 a1 = some r) :
    Calls Try.prog 47 #[.string a0, .string a1] w fun e w' => e = .returned (.bool r) ∧ Drawn0 w w' := by
  have H : ((stringslite_HasPrefix.f a0 a1).bind fun t108 => (some t108)) = some r := h
  clear h
  replace H := Option.bind_eq_some_iff.mp H
  obtain ⟨t108, A30, H⟩ := H
  replace H : (some t108) = some r := H
  have A3 := Aside0.mk A30
  clear A30
  obtain rfl := Option.some.inj H
  go_enter Try.func47, Try.ntmps47
  go_wp2_with (first | ((with_reducible refine gate_callee (f := 70) rfl ?_); refine goesL_ (some 7) rfl rfl Try.func70 (by kernel_rfl) rfl #[.string a0, .string a1] rfl (by (try simp only [List.map_toArray, List.map_cons, List.map_nil]); first | done | rfl | (simp only [List.length_drop, List.length_take]; rfl)) ?_; (with_reducible refine (stringslite_HasPrefix.calls a0 a1 t108 _ A3.out).mono ?_); rintro e w' ⟨rfl, ⟨nd, rfl⟩⟩; refine ⟨_, rfl, ?_⟩))
  go_ret
  exact ⟨by first | rfl | (simp; done) | (simp [*]; done), by repeat (first | exact Drawn0.refl _ | apply Drawn0.step)⟩

/-! ### name_Wild: function 18 -/
def name_Wild.f (k : Nat) (a0 : ByteArray) : Option (Bool) := (name_Check.f k a0).bind fun t109 => (if t109 = 0 then ((strings_HasPrefix.f a0 (⟨#[1, 42]⟩ : ByteArray)).bind fun t110 => (some t110)) else (some false))
theorem name_Wild.mono : ∀ a0 k, LeO (name_Wild.f k a0) (name_Wild.f (k + 1) a0) := by
  intro a0 k
  unfold name_Wild.f
  repeat' first
      | (with_reducible exact name_Check.mono _ _)
      | (with_reducible exact LeO.refl _)
      | (with_reducible exact LeO.none _)
      | (with_reducible refine LeO.ite ?_ ?_)
      | (with_reducible refine LeO.bind ?_ (fun _ => ?_))
      | exact name_Check.mono _ _
      | exact LeO.none _
      | refine LeO.ite ?_ ?_
      | refine LeO.bind ?_ (fun _ => ?_)
set_option maxHeartbeats 8000000 in
set_option maxRecDepth 100000 in
theorem name_Wild.calls (k : Nat) (a0 : ByteArray) (r : Bool) (w : World) (h : name_Wild.f k a0 = some r) :
    Calls Try.prog 18 #[.string a0] w fun e w' => e = .returned (.bool r) ∧ Drawn0 w w' := by
  have H : ((name_Check.f k a0).bind fun t109 => (if t109 = 0 then ((strings_HasPrefix.f a0 (⟨#[1, 42]⟩ : ByteArray)).bind fun t110 => (some t110)) else (some false))) = some r := h
  clear h
  replace H := Option.bind_eq_some_iff.mp H
  obtain ⟨t109, A20, H⟩ := H
  replace H : (if t109 = 0 then ((strings_HasPrefix.f a0 (⟨#[1, 42]⟩ : ByteArray)).bind fun t110 => (some t110)) else (some false)) = some r := H
  have A2 := Aside0.mk A20
  clear A20
  by_cases c3 : t109 = 0
  · rw [if_pos c3] at H
    have c3b0 : (t109 == 0) = true := beq_iff_eq.mpr c3
    have c3b1 : (t109 != 0) = false := bne_eq_false_iff_eq.mpr c3
    clear c3
    replace H := Option.bind_eq_some_iff.mp H
    obtain ⟨t110, A40, H⟩ := H
    replace H : (some t110) = some r := H
    have A4 := Aside0.mk A40
    clear A40
    obtain rfl := Option.some.inj H
    go_enter Try.func18, Try.ntmps18
    go_wp2_with (first | ((with_reducible refine gate_callee (f := 12) rfl ?_); refine goesL_ (some 4) rfl rfl Try.func12 (by kernel_rfl) rfl #[.string a0] rfl (by (try simp only [List.map_toArray, List.map_cons, List.map_nil]); first | done | rfl | (simp only [List.length_drop, List.length_take]; rfl)) ?_; (with_reducible refine (name_Check.calls k a0 t109 _ A2.out).mono ?_); rintro e w' ⟨rfl, ⟨nd, rfl⟩⟩; refine ⟨_, rfl, ?_⟩) | (go_at_call 47; (with_reducible refine (strings_HasPrefix.calls a0 (⟨#[1, 42]⟩ : ByteArray) t110 _ A4.out).mono ?_); rintro e w' ⟨rfl, ⟨nd, rfl⟩⟩))
    go_ret
    exact ⟨by first | rfl | (simp; done) | (simp [*]; done), by repeat (first | exact Drawn0.refl _ | apply Drawn0.step)⟩
  · rw [if_neg c3] at H
    have c3b0 : (t109 == 0) = false := beq_eq_false_iff_ne.mpr c3
    have c3b1 : (t109 != 0) = true := bne_iff_ne.mpr c3
    obtain rfl := Option.some.inj H
    go_enter Try.func18, Try.ntmps18
    go_wp2_with (first | ((with_reducible refine gate_callee (f := 12) rfl ?_); refine goesL_ (some 4) rfl rfl Try.func12 (by kernel_rfl) rfl #[.string a0] rfl (by (try simp only [List.map_toArray, List.map_cons, List.map_nil]); first | done | rfl | (simp only [List.length_drop, List.length_take]; rfl)) ?_; (with_reducible refine (name_Check.calls k a0 t109 _ A2.out).mono ?_); rintro e w' ⟨rfl, ⟨nd, rfl⟩⟩; refine ⟨_, rfl, ?_⟩))
    go_ret
    exact ⟨by first | rfl | (simp; done) | (simp [*]; done), by repeat (first | exact Drawn0.refl _ | apply Drawn0.step)⟩

/-! ### name_Parent: function 24 -/
def name_Parent.f (k : Nat) (a0 : ByteArray) : Option (ByteArray × Bool) := (name_Check.f k a0).bind fun t111 => (if t111 = 0 then ((name_cut.f a0).bind fun bt112 => (if bt112.2.2 = true then (some (bt112.2.1, true)) else (some ((⟨#[]⟩ : ByteArray), false)))) else (some ((⟨#[]⟩ : ByteArray), false)))
theorem name_Parent.mono : ∀ a0 k, LeO (name_Parent.f k a0) (name_Parent.f (k + 1) a0) := by
  intro a0 k
  unfold name_Parent.f
  repeat' first
      | (with_reducible exact name_Check.mono _ _)
      | (with_reducible exact LeO.refl _)
      | (with_reducible exact LeO.none _)
      | (with_reducible refine LeO.ite ?_ ?_)
      | (with_reducible refine LeO.bind ?_ (fun _ => ?_))
      | exact name_Check.mono _ _
      | exact LeO.none _
      | refine LeO.ite ?_ ?_
      | refine LeO.bind ?_ (fun _ => ?_)
set_option maxHeartbeats 8000000 in
set_option maxRecDepth 100000 in
theorem name_Parent.calls (k : Nat) (a0 : ByteArray) (r1 : ByteArray) (r2 : Bool) (w : World) (h : name_Parent.f k a0 = some (r1, r2)) :
    Calls Try.prog 24 #[.string a0] w fun e w' => e = .returned (.tuple #[.string r1, .bool r2]) ∧ Drawn0 w w' := by
  have H : ((name_Check.f k a0).bind fun t111 => (if t111 = 0 then ((name_cut.f a0).bind fun bt112 => (if bt112.2.2 = true then (some (bt112.2.1, true)) else (some ((⟨#[]⟩ : ByteArray), false)))) else (some ((⟨#[]⟩ : ByteArray), false)))) = some (r1, r2) := h
  clear h
  replace H := Option.bind_eq_some_iff.mp H
  obtain ⟨t111, A20, H⟩ := H
  replace H : (if t111 = 0 then ((name_cut.f a0).bind fun bt112 => (if bt112.2.2 = true then (some (bt112.2.1, true)) else (some ((⟨#[]⟩ : ByteArray), false)))) else (some ((⟨#[]⟩ : ByteArray), false))) = some (r1, r2) := H
  have A2 := Aside0.mk A20
  clear A20
  by_cases c3 : t111 = 0
  · rw [if_pos c3] at H
    have c3b0 : (t111 == 0) = true := beq_iff_eq.mpr c3
    have c3b1 : (t111 != 0) = false := bne_eq_false_iff_eq.mpr c3
    clear c3
    replace H := Option.bind_eq_some_iff.mp H
    obtain ⟨⟨t112, t113, t114⟩, A40, H⟩ := H
    replace H : (if t114 = true then (some (t113, true)) else (some ((⟨#[]⟩ : ByteArray), false))) = some (r1, r2) := H
    have A4 := Aside0.mk A40
    clear A40
    by_cases c5 : t114 = true
    · subst c5
      have H1 : (some (t113, true)) = some (r1, r2) := by rw [if_pos rfl] at H; exact H
      clear H
      have H := H1
      clear H1
      simp only [Option.some.injEq, Prod.mk.injEq] at H
      obtain ⟨rfl, rfl⟩ := H
      go_enter Try.func24, Try.ntmps24
      go_wp2_with (first | ((with_reducible refine gate_callee (f := 12) rfl ?_); refine goesL_ (some 8) rfl rfl Try.func12 (by kernel_rfl) rfl #[.string a0] rfl (by (try simp only [List.map_toArray, List.map_cons, List.map_nil]); first | done | rfl | (simp only [List.length_drop, List.length_take]; rfl)) ?_; (with_reducible refine (name_Check.calls k a0 t111 _ A2.out).mono ?_); rintro e w' ⟨rfl, ⟨nd, rfl⟩⟩; refine ⟨_, rfl, ?_⟩) | ((with_reducible refine gate_callee (f := 40) rfl ?_); refine goesL_ (some 12) rfl rfl Try.func40 (by kernel_rfl) rfl #[.string a0] rfl (by (try simp only [List.map_toArray, List.map_cons, List.map_nil]); first | done | rfl | (simp only [List.length_drop, List.length_take]; rfl)) ?_; (with_reducible refine (name_cut.calls a0 t112 t113 true _ A4.out).mono ?_); rintro e w' ⟨rfl, ⟨nd, rfl⟩⟩; refine ⟨_, rfl, ?_⟩))
      go_ret2
      exact ⟨by first | rfl | (simp; done) | (simp [*]; done), by repeat (first | exact Drawn0.refl _ | apply Drawn0.step)⟩
    · replace c5 := Bool.eq_false_iff.mpr c5
      subst c5
      have H1 : (some ((⟨#[]⟩ : ByteArray), false)) = some (r1, r2) := by rw [if_neg (show ¬ (false = true) by decide)] at H; exact H
      clear H
      have H := H1
      clear H1
      simp only [Option.some.injEq, Prod.mk.injEq] at H
      obtain ⟨rfl, rfl⟩ := H
      go_enter Try.func24, Try.ntmps24
      go_wp2_with (first | ((with_reducible refine gate_callee (f := 12) rfl ?_); refine goesL_ (some 8) rfl rfl Try.func12 (by kernel_rfl) rfl #[.string a0] rfl (by (try simp only [List.map_toArray, List.map_cons, List.map_nil]); first | done | rfl | (simp only [List.length_drop, List.length_take]; rfl)) ?_; (with_reducible refine (name_Check.calls k a0 t111 _ A2.out).mono ?_); rintro e w' ⟨rfl, ⟨nd, rfl⟩⟩; refine ⟨_, rfl, ?_⟩) | ((with_reducible refine gate_callee (f := 40) rfl ?_); refine goesL_ (some 12) rfl rfl Try.func40 (by kernel_rfl) rfl #[.string a0] rfl (by (try simp only [List.map_toArray, List.map_cons, List.map_nil]); first | done | rfl | (simp only [List.length_drop, List.length_take]; rfl)) ?_; (with_reducible refine (name_cut.calls a0 t112 t113 false _ A4.out).mono ?_); rintro e w' ⟨rfl, ⟨nd, rfl⟩⟩; refine ⟨_, rfl, ?_⟩))
      go_ret2
      exact ⟨by first | rfl | (simp; done) | (simp [*]; done), by repeat (first | exact Drawn0.refl _ | apply Drawn0.step)⟩
  · rw [if_neg c3] at H
    have c3b0 : (t111 == 0) = false := beq_eq_false_iff_ne.mpr c3
    have c3b1 : (t111 != 0) = true := bne_iff_ne.mpr c3
    simp only [Option.some.injEq, Prod.mk.injEq] at H
    obtain ⟨rfl, rfl⟩ := H
    go_enter Try.func24, Try.ntmps24
    go_wp2_with (first | ((with_reducible refine gate_callee (f := 12) rfl ?_); refine goesL_ (some 8) rfl rfl Try.func12 (by kernel_rfl) rfl #[.string a0] rfl (by (try simp only [List.map_toArray, List.map_cons, List.map_nil]); first | done | rfl | (simp only [List.length_drop, List.length_take]; rfl)) ?_; (with_reducible refine (name_Check.calls k a0 t111 _ A2.out).mono ?_); rintro e w' ⟨rfl, ⟨nd, rfl⟩⟩; refine ⟨_, rfl, ?_⟩))
    go_ret2
    exact ⟨by first | rfl | (simp; done) | (simp [*]; done), by repeat (first | exact Drawn0.refl _ | apply Drawn0.step)⟩

/-! ### name_Matches: function 17 -/
def name_Matches.f (k : Nat) (a0 : ByteArray) (a1 : ByteArray) : Option (Bool) := (name_Parent.f k a0).bind fun bt115 => ((name_Wild.f k a0).bind fun t117 => (if t117 = true then ((name_Under.f k a1 bt115.1).bind fun t118 => (if t118 = true then ((name_Labels.f k a1).bind fun t119 => ((name_Labels.f k bt115.1).bind fun t122 => (some (decide ((t119.length : Int) > (t122.length : Int)))))) else (some false))) else (some false)))
theorem name_Matches.mono : ∀ a0 a1 k, LeO (name_Matches.f k a0 a1) (name_Matches.f (k + 1) a0 a1) := by
  intro a0 a1 k
  unfold name_Matches.f
  repeat' first
      | (with_reducible exact name_Labels.mono _ _)
      | (with_reducible exact name_Parent.mono _ _)
      | (with_reducible exact name_Under.mono _ _ _)
      | (with_reducible exact name_Wild.mono _ _)
      | (with_reducible exact LeO.refl _)
      | (with_reducible exact LeO.none _)
      | (with_reducible refine LeO.ite ?_ ?_)
      | (with_reducible refine LeO.bind ?_ (fun _ => ?_))
      | exact name_Labels.mono _ _
      | exact name_Parent.mono _ _
      | exact name_Under.mono _ _ _
      | exact name_Wild.mono _ _
      | exact LeO.none _
      | refine LeO.ite ?_ ?_
      | refine LeO.bind ?_ (fun _ => ?_)
set_option maxHeartbeats 8000000 in
set_option maxRecDepth 100000 in
theorem name_Matches.calls (k : Nat) (a0 : ByteArray) (a1 : ByteArray) (r : Bool) (w : World) (h : name_Matches.f k a0 a1 = some r) :
    Calls Try.prog 17 #[.string a0, .string a1] w fun e w' => e = .returned (.bool r) ∧ Below w.heap.size w w' := by
  have HB := Aside0.mk (Below.refl w.heap.size w)
  have H : ((name_Parent.f k a0).bind fun bt115 => ((name_Wild.f k a0).bind fun t117 => (if t117 = true then ((name_Under.f k a1 bt115.1).bind fun t118 => (if t118 = true then ((name_Labels.f k a1).bind fun t119 => ((name_Labels.f k bt115.1).bind fun t122 => (some (decide ((t119.length : Int) > (t122.length : Int)))))) else (some false))) else (some false)))) = some r := h
  clear h
  replace H := Option.bind_eq_some_iff.mp H
  obtain ⟨⟨t115, t116⟩, A30, H⟩ := H
  replace H : ((name_Wild.f k a0).bind fun t117 => (if t117 = true then ((name_Under.f k a1 t115).bind fun t118 => (if t118 = true then ((name_Labels.f k a1).bind fun t119 => ((name_Labels.f k t115).bind fun t122 => (some (decide ((t119.length : Int) > (t122.length : Int)))))) else (some false))) else (some false))) = some r := H
  have A3 := Aside0.mk A30
  clear A30
  replace H := Option.bind_eq_some_iff.mp H
  obtain ⟨t117, A40, H⟩ := H
  replace H : (if t117 = true then ((name_Under.f k a1 t115).bind fun t118 => (if t118 = true then ((name_Labels.f k a1).bind fun t119 => ((name_Labels.f k t115).bind fun t122 => (some (decide ((t119.length : Int) > (t122.length : Int)))))) else (some false))) else (some false)) = some r := H
  have A4 := Aside0.mk A40
  clear A40
  by_cases c5 : t117 = true
  · subst c5
    have H1 : ((name_Under.f k a1 t115).bind fun t118 => (if t118 = true then ((name_Labels.f k a1).bind fun t119 => ((name_Labels.f k t115).bind fun t122 => (some (decide ((t119.length : Int) > (t122.length : Int)))))) else (some false))) = some r := by rw [if_pos rfl] at H; exact H
    clear H
    have H := H1
    clear H1
    replace H := Option.bind_eq_some_iff.mp H
    obtain ⟨t118, A60, H⟩ := H
    replace H : (if t118 = true then ((name_Labels.f k a1).bind fun t119 => ((name_Labels.f k t115).bind fun t122 => (some (decide ((t119.length : Int) > (t122.length : Int)))))) else (some false)) = some r := H
    have A6 := Aside0.mk A60
    clear A60
    by_cases c7 : t118 = true
    · subst c7
      have H1 : ((name_Labels.f k a1).bind fun t119 => ((name_Labels.f k t115).bind fun t122 => (some (decide ((t119.length : Int) > (t122.length : Int)))))) = some r := by rw [if_pos rfl] at H; exact H
      clear H
      have H := H1
      clear H1
      replace H := Option.bind_eq_some_iff.mp H
      obtain ⟨t119, A80, H⟩ := H
      replace H : ((name_Labels.f k t115).bind fun t122 => (some (decide ((t119.length : Int) > (t122.length : Int))))) = some r := H
      have A8 := Aside0.mk A80
      clear A80
      replace H := Option.bind_eq_some_iff.mp H
      obtain ⟨t122, A90, H⟩ := H
      replace H : (some (decide ((t119.length : Int) > (t122.length : Int)))) = some r := H
      have A9 := Aside0.mk A90
      clear A90
      obtain rfl := Option.some.inj H
      go_enter Try.func17, Try.ntmps17
      go_wp2_with (first | ((with_reducible refine gate_callee (f := 24) rfl ?_); refine goesL_ (some 9) rfl rfl Try.func24 (by kernel_rfl) rfl #[.string a0] rfl (by (try simp only [List.map_toArray, List.map_cons, List.map_nil]); first | done | rfl | (simp only [List.length_drop, List.length_take]; rfl)) ?_; (with_reducible refine (name_Parent.calls k a0 t115 t116 _ A3.out).mono ?_); rintro e w' ⟨rfl, ⟨nd, rfl⟩⟩; refine ⟨_, rfl, ?_⟩) | ((with_reducible refine gate_callee (f := 18) rfl ?_); refine goesL_ (some 13) rfl rfl Try.func18 (by kernel_rfl) rfl #[.string a0] rfl (by (try simp only [List.map_toArray, List.map_cons, List.map_nil]); first | done | rfl | (simp only [List.length_drop, List.length_take]; rfl)) ?_; (with_reducible refine (name_Wild.calls k a0 true _ A4.out).mono ?_); rintro e w' ⟨rfl, ⟨nd, rfl⟩⟩; refine ⟨_, rfl, ?_⟩) | (go_at_call 16; (with_reducible refine (name_Under.calls k a1 t115 true _ A6.out).mono ?_); rintro e w10 ⟨rfl, hb⟩; have n0_ := Aside0.mk (below_step (by repeat (first | (with_reducible first | exact HB.out | apply below_alloc | apply pw_below_drewN | apply below_drew1) | exact HB.out)) hb); clear HB; have HB := n0_; clear n0_; (try clear hb); (try clear hb2); (try clear hk); (try clear hi)) | (go_at_call 14; (with_reducible refine (name_Labels.calls k a1 t119 _ A8.out).mono ?_); rintro e w11 ⟨v120, rfl, ho0, hb⟩; have n0_ := Aside0.mk (Kd.R_lower ho0 (below_size (by repeat (first | (with_reducible first | exact HB.out | apply below_alloc | apply pw_below_drewN | apply below_drew1) | exact HB.out)))); have n1_ := Aside0.mk (below_step (by repeat (first | (with_reducible first | exact HB.out | apply below_alloc | apply pw_below_drewN | apply below_drew1) | exact HB.out)) hb); clear HB; have HO121 := n0_; have HB := n1_; clear n0_ n1_; (try clear hb); (try clear hb2); (try clear hk); (try clear hi); (try clear ho0); obtain ⟨Ao12, co12, eo12⟩ := Kd.R_slice HO121.out; subst eo12) | (go_at_call 14; (with_reducible refine (name_Labels.calls k t115 t122 _ A9.out).mono ?_); rintro e w13 ⟨v123, rfl, ho0, hb⟩; have n0_ := Aside0.mk (Kd.R_elder' (by (with_reducible repeat (first | apply Kd.R_alloc | apply Kd.R_drewN | apply Kd.R_drew)); exact HO121.out) (Kd.R_base ho0) hb); have n1_ := Aside0.mk (Kd.R_lower (Kd.R_new' ho0 (Kd.R_lt (by (with_reducible repeat (first | apply Kd.R_alloc | apply Kd.R_drewN | apply Kd.R_drew)); exact HO121.out))) (below_size (by repeat (first | (with_reducible first | exact HB.out | apply below_alloc | apply pw_below_drewN | apply below_drew1) | exact HB.out)))); have n2_ := Aside0.mk (below_step (by repeat (first | (with_reducible first | exact HB.out | apply below_alloc | apply pw_below_drewN | apply below_drew1) | exact HB.out)) hb); clear HO121; clear HB; have HO121 := n0_; have HO124 := n1_; have HB := n2_; clear n0_ n1_ n2_; (try clear hb); (try clear hb2); (try clear hk); (try clear hi); (try clear ho0); obtain ⟨Ao14, co14, eo14⟩ := Kd.R_slice HO124.out; subst eo14))
      go_ret
      exact ⟨by first | rfl | (simp [errW_none, errW_some] <;> rfl) | (simp [*, errW_none, errW_some] <;> rfl), by repeat (first | (with_reducible first | exact HB.out | apply below_alloc | apply pw_below_drewN | apply below_drew1) | exact HB.out)⟩
    · replace c7 := Bool.eq_false_iff.mpr c7
      subst c7
      have H1 : (some false) = some r := by rw [if_neg (show ¬ (false = true) by decide)] at H; exact H
      clear H
      have H := H1
      clear H1
      obtain rfl := Option.some.inj H
      go_enter Try.func17, Try.ntmps17
      go_wp2_with (first | ((with_reducible refine gate_callee (f := 24) rfl ?_); refine goesL_ (some 9) rfl rfl Try.func24 (by kernel_rfl) rfl #[.string a0] rfl (by (try simp only [List.map_toArray, List.map_cons, List.map_nil]); first | done | rfl | (simp only [List.length_drop, List.length_take]; rfl)) ?_; (with_reducible refine (name_Parent.calls k a0 t115 t116 _ A3.out).mono ?_); rintro e w' ⟨rfl, ⟨nd, rfl⟩⟩; refine ⟨_, rfl, ?_⟩) | ((with_reducible refine gate_callee (f := 18) rfl ?_); refine goesL_ (some 13) rfl rfl Try.func18 (by kernel_rfl) rfl #[.string a0] rfl (by (try simp only [List.map_toArray, List.map_cons, List.map_nil]); first | done | rfl | (simp only [List.length_drop, List.length_take]; rfl)) ?_; (with_reducible refine (name_Wild.calls k a0 true _ A4.out).mono ?_); rintro e w' ⟨rfl, ⟨nd, rfl⟩⟩; refine ⟨_, rfl, ?_⟩) | (go_at_call 16; (with_reducible refine (name_Under.calls k a1 t115 false _ A6.out).mono ?_); rintro e w15 ⟨rfl, hb⟩; have n0_ := Aside0.mk (below_step (by repeat (first | (with_reducible first | exact HB.out | apply below_alloc | apply pw_below_drewN | apply below_drew1) | exact HB.out)) hb); clear HB; have HB := n0_; clear n0_; (try clear hb); (try clear hb2); (try clear hk); (try clear hi)))
      go_ret
      exact ⟨by first | rfl | (simp [errW_none, errW_some] <;> rfl) | (simp [*, errW_none, errW_some] <;> rfl), by repeat (first | (with_reducible first | exact HB.out | apply below_alloc | apply pw_below_drewN | apply below_drew1) | exact HB.out)⟩
  · replace c5 := Bool.eq_false_iff.mpr c5
    subst c5
    have H1 : (some false) = some r := by rw [if_neg (show ¬ (false = true) by decide)] at H; exact H
    clear H
    have H := H1
    clear H1
    obtain rfl := Option.some.inj H
    go_enter Try.func17, Try.ntmps17
    go_wp2_with (first | ((with_reducible refine gate_callee (f := 24) rfl ?_); refine goesL_ (some 9) rfl rfl Try.func24 (by kernel_rfl) rfl #[.string a0] rfl (by (try simp only [List.map_toArray, List.map_cons, List.map_nil]); first | done | rfl | (simp only [List.length_drop, List.length_take]; rfl)) ?_; (with_reducible refine (name_Parent.calls k a0 t115 t116 _ A3.out).mono ?_); rintro e w' ⟨rfl, ⟨nd, rfl⟩⟩; refine ⟨_, rfl, ?_⟩) | ((with_reducible refine gate_callee (f := 18) rfl ?_); refine goesL_ (some 13) rfl rfl Try.func18 (by kernel_rfl) rfl #[.string a0] rfl (by (try simp only [List.map_toArray, List.map_cons, List.map_nil]); first | done | rfl | (simp only [List.length_drop, List.length_take]; rfl)) ?_; (with_reducible refine (name_Wild.calls k a0 false _ A4.out).mono ?_); rintro e w' ⟨rfl, ⟨nd, rfl⟩⟩; refine ⟨_, rfl, ?_⟩))
    go_ret
    exact ⟨by first | rfl | (simp [errW_none, errW_some] <;> rfl) | (simp [*, errW_none, errW_some] <;> rfl), by repeat (first | (with_reducible first | exact HB.out | apply below_alloc | apply pw_below_drewN | apply below_drew1) | exact HB.out)⟩

/-! ### label_Check: function 49 -/
def label_Check.f (a0 : ByteArray) : Option (Int) := if (a0.size : Int) = 0 then (some 2) else (if (a0.size : Int) > 63 then (some 3) else (some 0))
set_option maxHeartbeats 8000000 in
set_option maxRecDepth 100000 in
theorem label_Check.calls (a0 : ByteArray) (r : Int) (w : World) (h : label_Check.f a0 = some r) :
    Calls Try.prog 49 #[.string a0] w fun e w' => e = .returned (.int .i64 r) ∧ Drawn0 w w' := by
  have H : (if (a0.size : Int) = 0 then (some 2) else (if (a0.size : Int) > 63 then (some 3) else (some 0))) = some r := h
  clear h
  by_cases c2 : (a0.size : Int) = 0
  · rw [if_pos c2] at H
    have c2b0 : ((a0.size : Int) == 0) = true := beq_iff_eq.mpr c2
    have c2b1 : ((a0.size : Int) != 0) = false := bne_eq_false_iff_eq.mpr c2
    clear c2
    obtain rfl := Option.some.inj H
    go_enter Try.func49, Try.ntmps49
    go_wp2
    go_ret
    exact ⟨by first | rfl | (simp; done) | (simp [*]; done), by repeat (first | exact Drawn0.refl _ | apply Drawn0.step)⟩
  · rw [if_neg c2] at H
    have c2b0 : ((a0.size : Int) == 0) = false := beq_eq_false_iff_ne.mpr c2
    have c2b1 : ((a0.size : Int) != 0) = true := bne_iff_ne.mpr c2
    by_cases c3 : (a0.size : Int) > 63
    · rw [if_pos c3] at H
      have c3b0 : decide (63 < (a0.size : Int)) = true := decide_eq_true c3
      have c3b1 : decide (63 < a0.size) = true := decide_eq_true (by omega)
      clear c3
      obtain rfl := Option.some.inj H
      go_enter Try.func49, Try.ntmps49
      go_wp2
      go_ret
      exact ⟨by first | rfl | (simp; done) | (simp [*]; done), by repeat (first | exact Drawn0.refl _ | apply Drawn0.step)⟩
    · rw [if_neg c3] at H
      have c3b0 : decide (63 < (a0.size : Int)) = false := decide_eq_false c3
      have c3b1 : decide (63 < a0.size) = false := decide_eq_false (by omega)
      clear c3
      obtain rfl := Option.some.inj H
      go_enter Try.func49, Try.ntmps49
      go_wp2
      go_ret
      exact ⟨by first | rfl | (simp; done) | (simp [*]; done), by repeat (first | exact Drawn0.refl _ | apply Drawn0.step)⟩

-- NOT PRINTED: function 79 (abi_NoEscape)

-- NOT PRINTED: function 71 (strings_Builder_copyCheck)

-- NOT PRINTED: function 50 (strings_Builder_WriteByte)

-- NOT PRINTED: function 51 (strings_Builder_WriteString)

-- NOT PRINTED: function 52 (strings_Builder_Len)

-- NOT PRINTED: function 53 (strings_Builder_String)

end Go.Proofs.Ythimngabaliapaa.OSeven
