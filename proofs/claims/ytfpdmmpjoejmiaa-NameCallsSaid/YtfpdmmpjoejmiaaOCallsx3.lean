/- This text proves, for each Go function named below, which plain Lean function its call computes, in whatever memory; a program of this session has written it. -/
import Derived.Test.YtfpdmmpjoejmiaaOCallsx0
import Derived.Test.YtfpdmmpjoejmiaaOCallsx2
namespace Go.Proofs.Ytfpdmmpjoejmiaa.OCalls
open Go.RowKit Go.Proofs.YtfpdmmpjoejmiaaW.PrintWords Go.Proofs.YtfpdmmpjoejmiaaW.PrintLast Go.Proofs.YtfpdmmpjoejmiaaW.PrintMore
attribute [local go_sem] max2_int min2_int max_two min_two max_three min_three max_four min_four   -- for this text's walks alone
set_option linter.unusedVariables false
set_option linter.unusedSimpArgs false

-- NOT PRINTED: function 64 (slices_AppendSeq_string_string)

-- NOT PRINTED: function 45 (slices_Collect_string)

section
open Go.Shelf
attribute [local go_sem] Oper.semAt_some
def cutR (s : ByteArray) : ByteArray × ByteArray × Bool := match cutS s with
  | some (l, r) => (l, r, true)
  | none => (⟨#[]⟩, (if s.size = 0 then ⟨#[]⟩ else s), false)
theorem cut_eq (s : ByteArray) (hs : s.size ≤ 140737488355328) : name_cut.f s = some (cutR s) := by
  have hb := bt_range s 0
  unfold name_cut.f cutR cutS
  by_cases h0 : s.size = 0
  · have hn : s.toList = ([] : List UInt8) := by
      rw [ByteArray.toList_eq]
      apply List.eq_nil_of_length_eq_zero
      rw [data_length]
      exact h0
    rw [if_pos hn, if_neg (by omega)]
    simp [h0]
  · have hn : ¬ s.toList = ([] : List UInt8) := by
      rw [ByteArray.toList_eq]
      intro h
      have : s.data.toList.length = 0 := by rw [h]; rfl
      rw [data_length] at this
      exact h0 this
    rw [if_neg hn, if_pos (by omega), wrap_id (n := bt s 0) (by omega) (by omega)]
    by_cases h1 : bt s 0 < 1
    · rw [if_pos h1, if_neg (by omega)]
      simp [h0]
    rw [if_neg h1]
    by_cases h2 : bt s 0 > 63
    · rw [if_pos h2, if_neg (by omega)]
      simp [h0]
    rw [if_neg h2]
    by_cases h3 : bt s 0 ≥ s.size
    · rw [if_pos h3, if_neg (by omega)]
      simp [h0]
    rw [if_neg h3, wrap_id (n := 1 + bt s 0) (by omega) (by omega), if_pos (by omega), if_pos (by omega), if_pos (by omega), if_pos (by omega)]

theorem cut_calls (s : ByteArray) (hs : s.size ≤ 140737488355328) (a b : ByteArray) (c : Bool) (h : cutR s = (a, b, c)) (w : World) : Calls Try.prog 43 #[.string s] w fun e w' => e = .returned (.tuple #[.string a, .string b, .bool c]) ∧ Drawn0 w w' :=
  name_cut.calls s a b c w (by rw [cut_eq s hs, h])
theorem grownBy_drewN_ (W : World) (n : Nat) : W.grownBy (W.drewN n) none := ⟨rfl, rfl, rfl, Nat.le_refl _, fun _ _ _ => rfl⟩
theorem cutR_step {s a b : ByteArray} (h : cutR s = (a, b, true)) : labelsP s = a :: labelsP b ∧ b.size < s.size := by
  unfold cutR at h
  cases hc : cutS s with
  | none => rw [hc] at h; simp at h
  | some p =>
    obtain ⟨l, r⟩ := p
    rw [hc] at h
    simp only [Prod.mk.injEq] at h
    obtain ⟨rfl, rfl, _⟩ := h
    have := cutS_sizes hc
    exact ⟨labelsP_cut hc, by omega⟩
theorem cutR_end {s a b : ByteArray} (h : cutR s = (a, b, false)) : labelsP s = [] := by
  unfold cutR at h
  cases hc : cutS s with
  | none => exact labelsP_none hc
  | some p => rw [hc] at h; simp at h
def leftOf : Value → Value → Nat
  | .string r, .bool true => r.size + 1
  | _, _ => 0
set_option maxRecDepth 100000 in
set_option maxHeartbeats 1000000 in
theorem each1_in (n : Nat) (hn : 1 ≤ n) (l Bm : Nat) (s : ByteArray) (hs : s.size ≤ 140737488355328) (J Jx : List ByteArray → World → Prop) (N : Nat) (hN : (labelsP s).length ≤ N)
    (hY : ∀ pre x W, J pre W → pre ++ [x] <+: labelsP s → pre.length < N → YieldAt Fence.wide (n - 1) Try.prog l #[.string x] W fun e W' => (e = .returned (.bool true) ∧ J (pre ++ [x]) W' ∧ KeepsWalks W W') ∨ (e = .returned (.bool false) ∧ Jx (pre ++ [x]) W'))
    (W : World) (hJ : AbidesFrom W.heap.size J) (hm : W.cell? ⟨Bm, 0, none⟩ = some (.string s)) (h0 : J [] W) :
    CallsIn Fence.wide n Try.prog 58 #[.func (.yield l) #[] #[], .pointer (some ⟨Bm, 0, none⟩)] W fun e W' => (∃ v, e = .returned v) ∧ ((∃ ss : List ByteArray, ss = labelsP s ∧ J ss W') ∨ (∃ pre, pre <+: labelsP s ∧ Jx pre W')) := by
  refine callsIn_of_wp Try.func58 rfl trivial ?_ rfl
  simp only [Try.ntmps58, List.size_toArray, List.length_cons, List.length_nil, Nat.reduceAdd, Nat.reduceSub, Array.replicate_succ, Array.replicate_zero, List.push_toArray, List.append_toArray, List.nil_append, List.cons_append]
  obtain ⟨a, b, c, hc⟩ : ∃ a b c, cutR s = (a, b, c) := ⟨_, _, _, rfl⟩
  have HC := Aside0.mk hc
  clear hc
  gi_wp2_with (refine ⟨trivial, ?_⟩; gi_at_call 43; (refine (callsIn_wide.2 (cut_calls s hs a b c HC.out _)).mono ?_); rintro e w' ⟨rfl, ⟨nd, rfl⟩⟩)
  gi_loopw [3, 4, 5] (fun va vb vc wr => ∃ (pre : List ByteArray) (m a b : ByteArray) (c : Bool), va = .string a ∧ vb = .string b ∧ vc = .bool c ∧ Aside0 (cutR m = (a, b, c)) ∧ m.size ≤ 140737488355328 ∧ Aside0 (labelsP s = pre ++ labelsP m) ∧ Aside0 (J pre wr))
    (fun _ vb vc _ => leftOf vb vc)
  case atStart =>
    exact ⟨[], s, a, b, c, rfl, rfl, rfl, HC, hs, ⟨rfl⟩, ⟨hJ _ _ _ none h0 (grownBy_drewN_ _ _) (fun r e => by cases e)⟩⟩
  case round =>
    clear HC
    obtain ⟨pre, m, a, b, c, rfl, rfl, rfl, HC, hm2, HP, HJ⟩ := hrel
    cases c with
    | false =>
      have hend := cutR_end HC.out
      have HE := Aside0.mk (show labelsP s = pre by rw [HP.out, hend, List.append_nil])
      clear hend
      gi_wp2_with fail
      refine ⟨fun _ h => (by cases h), ?_⟩
      gi_wp2
      go_end0
      exact ⟨⟨_, rfl⟩, .inl ⟨pre, HE.out.symm, HJ.out⟩⟩
    | true =>
      have hst := cutR_step HC.out
      have HS1 := Aside0.mk hst.1
      have hlt := hst.2
      clear hst
      have hlen : pre.length < N := by
        have h := congrArg List.length HP.out
        rw [HS1.out, List.length_append, List.length_cons] at h
        omega
      obtain ⟨fn, tmps, assign, body, hy, hR⟩ := hY pre a wr HJ.out ⟨labelsP b, by rw [HP.out, HS1.out, List.append_assoc]; rfl⟩ hlen
      have HRR := Aside0.mk hR
      clear hR
      obtain ⟨a2, b2, c2, hc2⟩ : ∃ a2 b2 c2, cutR b = (a2, b2, c2) := ⟨_, _, _, rfl⟩
      have HC2 := Aside0.mk hc2
      clear hc2
      have HCC := Aside0.mk (fun w => cut_calls b (by omega) a2 b2 c2 HC2.out w)
      gi_wp2_with fail
      refine HRR.out.mono ?_
      rintro e W3 (⟨rfl, hJ3, hk3⟩ | ⟨rfl, hJx3⟩)
      · have HJ3 := Aside0.mk hJ3
        clear hJ3 hk3 HRR hy
        gi_wp2_with (refine ⟨trivial, ?_⟩; gi_at_call 43; (refine (callsIn_wide.2 (HCC.out _)).mono ?_); rintro e w' ⟨rfl, ⟨nd2, rfl⟩⟩)
        go_roundw
        case rel => exact ⟨pre ++ [a], b, a2, b2, c2, rfl, rfl, rfl, HC2, by omega, ⟨by rw [HP.out, HS1.out, List.append_assoc]; rfl⟩, ⟨hJ _ _ _ none HJ3.out (grownBy_drewN_ _ _) (fun r e => by cases e)⟩⟩
        case measure =>
          cases c2 with
          | false => exact Nat.succ_pos _
          | true => have := (cutR_step HC2.out).2; exact Nat.succ_lt_succ this
      · have HX := Aside0.mk (show pre ++ [a] <+: labelsP s from ⟨labelsP b, by rw [HP.out, HS1.out, List.append_assoc]; rfl⟩)
        have HJ3 := Aside0.mk hJx3
        clear hJx3 HRR hy
        gi_wp2
        go_end0
        exact ⟨⟨_, rfl⟩, .inr ⟨pre ++ [a], HX.out, HJ3.out⟩⟩

theorem each1_stops (n : Nat) (hn : 1 ≤ n) (Bm : Nat) (s : ByteArray) (hs : s.size ≤ 140737488355328) (w : World) (hB : Bm < w.heap.size) (hm : w.cell? ⟨Bm, 0, none⟩ = some (.string s)) :
    SeqStopsK Fence.wide n Try.prog 58 #[.pointer (some ⟨Bm, 0, none⟩)] (fun x : ByteArray => #[Value.string x]) KeepsWalks (fun ys => ys = labelsP s) (fun pre => pre <+: labelsP s) (labelsP s).length w :=
  fun l J Jx W hW hJ _ hY h0 => each1_in n hn l Bm s hs J Jx _ (Nat.le_refl _) (fun pre x W hj _ hl => hY pre x W hj hl) W hJ ((hW.cell (p := ⟨Bm, 0, none⟩) hB).trans hm) h0

theorem each1_stopsQ (Q : ByteArray → Prop) (n : Nat) (hn : 1 ≤ n) (Bm : Nat) (s : ByteArray) (hs : s.size ≤ 140737488355328) (hQ : ∀ x ∈ labelsP s, Q x) (w : World) (hB : Bm < w.heap.size) (hm : w.cell? ⟨Bm, 0, none⟩ = some (.string s)) :
    SeqStopsK Fence.wide n Try.prog 58 #[.pointer (some ⟨Bm, 0, none⟩)] (fun x : { x : ByteArray // Q x } => #[Value.string x.1]) KeepsWalks (fun ys => ys.map Subtype.val = labelsP s) (fun pre => pre.map Subtype.val <+: labelsP s) (labelsP s).length w := by
  intro l J Jx W hW hJ hJx hY h0
  refine (each1_in n hn l Bm s hs (fun pre W => ∃ p : List { x : ByteArray // Q x }, p.map Subtype.val = pre ∧ J p W) (fun pre W => ∃ p : List { x : ByteArray // Q x }, p.map Subtype.val = pre ∧ Jx p W) _ (Nat.le_refl _) ?_ W ?_ ((hW.cell (p := ⟨Bm, 0, none⟩) hB).trans hm) ⟨[], rfl, h0⟩).mono ?_
  · rintro pre x W1 ⟨p, rfl, hj⟩ hp hl
    have hx : Q x := hQ x (hp.subset (by simp))
    obtain ⟨fn, tmps, assign, body, hy, hR⟩ := hY p ⟨x, hx⟩ W1 hj (by simpa using hl)
    refine ⟨fn, tmps, assign, body, hy, hR.mono ?_⟩
    rintro e W' (⟨he, h1, h2⟩ | ⟨he, h1⟩)
    · exact .inl ⟨he, ⟨p ++ [⟨x, hx⟩], by simp, h1⟩, h2⟩
    · exact .inr ⟨he, ⟨p ++ [⟨x, hx⟩], by simp, h1⟩⟩
  · rintro pre A B row ⟨p, hp, hj⟩ hg hr
    exact ⟨p, hp, hJ p A B row hj hg hr⟩
  · rintro e W' ⟨hv, ⟨ss, hss, p, hp, hj⟩ | ⟨pre, hpre, p, hp, hj⟩⟩
    · exact ⟨hv, .inl ⟨p, hp.trans hss, hj⟩⟩
    · exact ⟨hv, .inr ⟨p, by show p.map Subtype.val <+: _; rw [hp]; exact hpre, hj⟩⟩

/-- 'each(n)': the name is boxed; the function value captures the box. -/
theorem each_calls (n : Nat) (s : ByteArray) (w : World) : CallsIn Fence.wide n Try.prog 38 #[.string s] w fun e w' => e = .returned (.func (.func 58) #[] #[.pointer (some ⟨w.heap.size, 0, none⟩)]) ∧ w' = w.alloc (.cells #[.string s] 22) := by
  refine callsIn_of_wp Try.func38 rfl trivial ?_ rfl
  simp only [Try.ntmps38, List.size_toArray, List.length_cons, List.length_nil, Nat.reduceAdd, Nat.reduceSub, Array.replicate_succ, Array.replicate_zero, List.push_toArray, List.append_toArray, List.nil_append, List.cons_append]
  gi_wp2
  go_ret
  exact ⟨rfl, rfl⟩

theorem info_str : (Try.prog.info? 9).map (fun i => (i.zero, i.size, i.bytes)) = some (some (.string ⟨#[]⟩), 1, 16) := by kernel_rfl

set_option maxRecDepth 100000 in
set_option maxHeartbeats 2000000 in
/-- 'slices.AppendSeq(nil, each(n))'. -/
theorem appendSeq_in (n : Nat) (hn : 3 ≤ n) (Bm : Nat) (s : ByteArray) (hs : s.size ≤ 140737488355328) (hlen : (labelsP s).length ≤ 100000) (w : World) (hB : Bm < w.heap.size) (hm : w.cell? ⟨Bm, 0, none⟩ = some (.string s)) :
    CallsIn Fence.wide n Try.prog 64 #[.slice none 0 0, .func (.func 58) #[] #[.pointer (some ⟨Bm, 0, none⟩)]] w fun e W' => ∃ v, e = .returned v ∧ W'.ownsRow w.heap.size 9 1 v (labelsP s).length ((labelsP s).map Value.string) ∧ Below w.heap.size w W' := by
  have h1 : 1 ≤ n := by omega
  obtain ⟨i0, hi, hz0, hz1, hz2⟩ := info_parts info_str
  have bO := Boxed.new w 23 (.slice none 0 0)
  have hB0 : Below w.heap.size w (w.alloc (.cells #[.slice none 0 0] 23)) := (Below.refl _ w).alloc (Nat.le_refl _) _
  have hseq := each1_stops (n - 1) (by omega) Bm s hs (w.alloc (.cells #[.slice none 0 0] 23)) (by simp; omega) ((hB0.cell (p := ⟨Bm, 0, none⟩) hB).trans hm)
  refine callsIn_of_wp_marks Try.func64 rfl trivial ?_ rfl
  simp only [Try.ntmps64, List.size_toArray, List.length_cons, List.length_nil, Nat.reduceAdd, Nat.reduceSub, Array.replicate_succ, Array.replicate_zero, List.push_toArray, List.append_toArray, List.nil_append, List.cons_append]
  gi_wp2
  refine wpIn_rangeFunc_ownG rfl h1 (gf := 58) (lb := #[.pointer (some ⟨Bm, 0, none⟩)]) rfl trivial (enters_of Try.func58 (by kernel_rfl) rfl) hseq walksK_t walksK_b (Below.refl _ _) (fun _ => rfl)
    (fun pre W => (∃ v, Boxed W w.heap.size 23 v ∧ W.ownsRow w.heap.size 9 1 v pre.length (pre.map Value.string) ∧ True) ∧ Below w.heap.size w W)
    (fun _ _ _ => False)
    (OwnFrom.and (Own.from (holdsRow_own w.heap.size w.heap.size 23 9 1 (fun pre : List ByteArray => pre.length) (fun pre : List ByteArray => pre.map Value.string) (fun _ _ => True)) _) (ownFrom_below (Nat.le_refl _) (by simp)))
    (fun _ _ _ _ _ hs _ _ => hs)
    ⟨⟨_, bO, World.ownsRow_nil _ _ _ _, trivial⟩, hB0⟩
    (fun x => { tmps := #[.slice none 0 0, .func (.func 58) #[] #[.pointer (some ⟨Bm, 0, none⟩)], .pointer (some ⟨w.heap.size, 0, none⟩), undef, .slice none 0 0, .string x, .func (.func 58) #[] #[.pointer (some ⟨Bm, 0, none⟩)], .string x, undef, undef, undef, undef, undef], defers := [] }) ?assign ?body ?done ?stop
  case assign =>
    intro l x W K hK
    gi_wp2
    exact hK
  case body =>
    rintro l pre x W ⟨⟨v, hv, hrow, _⟩, hB⟩ hlt
    have hc := hv.cell
    gi_wp2_with (gi_at_builtin; refine wpListIn_append_own _ rfl _ _ 23 rfl w.heap.size 9 i0 (.string ⟨#[]⟩) 1 16 Try.underlying23 hi hz0 hz1 hz2 rfl (by decide) _ _ _ rfl (hrow.alloc _) ⟨W.heap.size, 0, none⟩ 1 1 [.string x] rfl rfl (cell_one_new _ _ _) (by simp [Value.oneCell']) (by unfold maxLen; omega) (by omega) (by have := hB.size; simp; omega) ?_; intro v' w1 hown' hgrow _; obtain ⟨g', cap', rfl⟩ := ownsRow_succ hown'; obtain ⟨hv1, hv2, hr2, hk2, hb2⟩ := hv.appended (by decide) hrow hB.size (Nat.le_refl _) hown' hgrow; have hc1 := hv1.cell; have hf1 := hv1.frozen)
    exact ⟨hk2.from _, hk2.walks, ⟨_, hv2, by simpa using hr2, trivial⟩, hB.trans hb2⟩
  case done =>
    rintro D ys W hD rfl ⟨⟨v, hv, hrow, _⟩, hB⟩ hK
    have hc := hv.cell
    gi_wp2
    refine ⟨by simp, .inl ⟨_, _, rfl, run_takeDeferred hK, ?_⟩⟩
    exact ⟨_, results_tmp rfl _ _ _, v, rfl, ownsRow_putObj hrow _ hK rfl, hB.trans (belowK_b (w := w) (Nat.le_refl _) W D _ _ (by simp at hD; omega) hK rfl rfl)⟩
  case stop =>
    rintro D c pre W _ _ h _
    exact h.elim

set_option maxHeartbeats 1000000 in
theorem collect_in (n : Nat) (hn : 4 ≤ n) (Bm : Nat) (s : ByteArray) (hs : s.size ≤ 140737488355328) (hlen : (labelsP s).length ≤ 100000) (w : World) (hB : Bm < w.heap.size) (hm : w.cell? ⟨Bm, 0, none⟩ = some (.string s)) :
    CallsIn Fence.wide n Try.prog 45 #[.func (.func 58) #[] #[.pointer (some ⟨Bm, 0, none⟩)]] w fun e W' => ∃ v, e = .returned v ∧ W'.ownsRow w.heap.size 9 1 v (labelsP s).length ((labelsP s).map Value.string) ∧ Below w.heap.size w W' := by
  have h1 : 1 ≤ n := by omega
  refine callsIn_of_wp Try.func45 rfl trivial ?_ rfl
  simp only [Try.ntmps45, List.size_toArray, List.length_cons, List.length_nil, Nat.reduceAdd, Nat.reduceSub, Array.replicate_succ, Array.replicate_zero, List.push_toArray, List.append_toArray, List.nil_append, List.cons_append]
  gi_wp2_with (refine ⟨trivial, ?_⟩; gi_at_call 64; refine (appendSeq_in (n - 1) (by omega) Bm s hs hlen _ hB hm).mono ?_; rintro e w' ⟨v, rfl, hrow, hb⟩)
  go_ret
  exact ⟨v, rfl, hrow, hb⟩

theorem ownsRow_less_ {W : World} {base base' : Nat} {e : TypeId} {size : Nat} {v : Value} {k : Nat} {xs : List Value} (h : W.ownsRow base e size v k xs) (hb : base' ≤ base) : W.ownsRow base' e size v k xs := own_less h hb
theorem labels_tail (s : ByteArray) (hs : s.size ≤ 140737488355328) (hlen : (labelsP s).length ≤ 100000) (g : Nat) (w : World) (hg : g < w.heap.size) (hm : w.cell? ⟨g, 0, none⟩ = some (.string s)) :
    Calls Try.prog 45 #[.func (.func 58) #[] #[.pointer (some ⟨g, 0, none⟩)]] w fun e W' => ∃ v, e = .returned v ∧ W'.ownsRow w.heap.size 9 1 v (labelsP s).length ((labelsP s).map Value.string) ∧ Below w.heap.size w W' :=
  callsIn_wide.1 (collect_in 9 (by omega) g s hs hlen w hg hm)
theorem each_plain (s : ByteArray) (w : World) : Calls Try.prog 38 #[.string s] w fun e w' => e = .returned (.func (.func 58) #[] #[.pointer (some ⟨w.heap.size, 0, none⟩)]) ∧ w' = w.alloc (.cells #[.string s] 22) := callsIn_wide.1 (each_calls 9 s w)

set_option maxRecDepth 100000 in
set_option maxHeartbeats 1000000 in
theorem labels_yes (k : Nat) (s : ByteArray) (hs : s.size ≤ 140737488355328) (hlen : (labelsP s).length ≤ 100000) (hk : name_Check.f k s = some 0) (w : World) :
    Calls Try.prog 18 #[.string s] w fun e W' => ∃ v, e = .returned v ∧ W'.ownsRow w.heap.size 9 1 v (labelsP s).length ((labelsP s).map Value.string) ∧ Below w.heap.size w W' := by
  have HC := Aside0.mk hk
  have HB := Aside0.mk (Below.refl w.heap.size w)
  have HT := Aside0.mk (fun (g : Nat) (W : World) hg hm => labels_tail s hs hlen g W hg hm)
  clear hk
  go_enter Try.func18, Try.ntmps18
  go_wp2_with (first
    | (go_at_call 15; (with_reducible refine (name_Check.calls k s 0 _ HC.out).mono ?_); rintro e w' ⟨rfl, ⟨nd, rfl⟩⟩)
    | (go_at_call 38; (with_reducible refine (each_plain s _).mono ?_); rintro e w' ⟨rfl, rfl⟩)
    | (go_at_call 45; (with_reducible refine (HT.out _ _ ?hg ?hm).mono ?_); (case hg => simp); (case hm => exact (Boxed.new _ _ _).cell); rintro e w' ⟨v, rfl, hrow, hb⟩; have HR := Aside0.mk hrow; have HB2 := Aside0.mk hb; clear hrow hb))
  go_ret
  refine ⟨v, rfl, ownsRow_less_ HR.out (by simp), ?_⟩
  exact below_then (below_alloc (pw_below_drewN HB.out _) _) (by simp) HB2.out
theorem labels_no (k : Nat) (s : ByteArray) (c : Int) (hc : c ≠ 0) (hk : name_Check.f k s = some c) (w : World) :
    Calls Try.prog 18 #[.string s] w fun e W' => e = .returned (.slice none 0 0) ∧ Below w.heap.size w W' := by
  have HC := Aside0.mk hk
  have HB := Aside0.mk (Below.refl w.heap.size w)
  have hc1 : (c == 0) = false := beq_eq_false_iff_ne.2 hc
  have hc2 : (c != 0) = true := bne_iff_ne.2 hc
  clear hk
  go_enter Try.func18, Try.ntmps18
  go_wp2_with (go_at_call 15; (with_reducible refine (name_Check.calls k s c _ HC.out).mono ?_); rintro e w' ⟨rfl, ⟨nd, rfl⟩⟩)
  go_ret
  exact ⟨rfl, pw_below_drewN HB.out _⟩

def name_Labels.f (k : Nat) (a0 : ByteArray) : Option (List ByteArray) := (name_Check.f k a0).bind fun t => if t = 0 then (if a0.size ≤ 254 ∧ (labelsP a0).length ≤ 254 then some (labelsP a0) else none) else some []
theorem name_Labels.calls (k : Nat) (a0 : ByteArray) (r : List ByteArray) (w : World) (h : name_Labels.f k a0 = some r) :
    Calls Try.prog 18 #[.string a0] w fun e w' => ∃ v0_ : Value, e = .returned (v0_) ∧ Kd.R Kd.string 9 w' w.heap.size (fun _ => True) v0_ r ∧ Below w.heap.size w w' := by
  unfold name_Labels.f at h
  cases hk : name_Check.f k a0 with
  | none => rw [hk] at h; cases h
  | some t =>
    rw [hk, Option.bind_some] at h
    by_cases ht : t = 0
    · subst ht
      rw [if_pos rfl] at h
      by_cases hs : a0.size ≤ 254 ∧ (labelsP a0).length ≤ 254
      · rw [if_pos hs] at h
        obtain rfl := Option.some.inj h
        refine (labels_yes k a0 (by omega) (by omega) hk w).mono ?_
        rintro e w' ⟨v, rfl, hrow, hb⟩
        exact ⟨v, rfl, Kd.R_of_own (h1 := fun _ => rfl) hrow (fun _ _ => trivial), hb⟩
      · rw [if_neg hs] at h; cases h
    · rw [if_neg ht] at h
      obtain rfl := Option.some.inj h
      refine (labels_no k a0 t ht hk w).mono ?_
      rintro e w' ⟨rfl, hb⟩
      exact ⟨_, rfl, Kd.R_nil _ _ _ _ _, hb⟩
theorem name_Labels.mono : ∀ a0 k, LeO (name_Labels.f k a0) (name_Labels.f (k + 1) a0) := by
  intro a0 k
  unfold name_Labels.f
  exact LeO.bind (name_Check.mono a0 k) (fun _ => LeO.refl _)
end

-- NOT PRINTED: function 66 (label_each)

/-! ### label_Fold: function 46; by hand: the callee that takes the function is walked for this function alone -/
theorem label_Fold.low_ (c : Int) (h0 : 0 ≤ c) (h1 : c ≤ 255) (w : World) : Calls Try.prog 65 #[.int .u8 c] w fun e w' => e = .returned (.int .u8 (foldI c)) ∧ w = w' := by
  by_cases hA : 65 ≤ c
  · by_cases hZ : c ≤ 90
    · have hF := Aside0.mk (show foldI c = c + 32 by unfold foldI; rw [if_pos hA, if_pos hZ])
      go_enter Try.func65, Try.ntmps65
      go_wp2
      go_ret
      exact ⟨ret_int_ (by rw [hF.out]; omega), rfl⟩
    · have hF := Aside0.mk (show foldI c = c by unfold foldI; rw [if_pos hA, if_neg hZ])
      have hZ' : decide (c ≤ 90) = false := by simpa using hZ
      go_enter Try.func65, Try.ntmps65
      go_wp2
      go_ret
      exact ⟨ret_int_ hF.out.symm, rfl⟩
  · have hF := Aside0.mk (show foldI c = c by unfold foldI; rw [if_neg hA])
    have hA' : decide (65 ≤ c) = false := by simpa using hA
    go_enter Try.func65, Try.ntmps65
    go_wp2
    go_ret
    exact ⟨ret_int_ hF.out.symm, rfl⟩

set_option maxHeartbeats 1000000 in
set_option maxRecDepth 100000 in
theorem label_Fold.each_ (s : ByteArray) (w : World) (hs : s.size ≤ 9223372036854775807) : Calls Try.prog 66 #[.string s, .func (.func 65) #[] #[]] w fun e w' => e = .returned (.string (strOfNums ((bytesOf s).map foldI))) ∧ Below w.heap.size w w' := by
  have HB := Aside0.mk (Below.refl w.heap.size w)
  go_enter Try.func66, Try.ntmps66
  go_wp2_with (first | ((with_reducible refine gate_dst (N := 9) rfl ?_); refine conv_row_event (src := 9) (dst := 44) (e := 5) (s := s) (w := w) rfl (N := 9) rfl Try.underlying9 Try.underlying44 Try.underlying5 ?cvr hs HB.out ?_; (case cvr => intro kb_; first | (go_simp; done) | (go_simp; rfl)); intro g c w1 hrow hc hg hb; have HROW := Aside0.mk hrow; have HB2 := Aside0.mk hb; have HC := Aside0.mk hc; clear hrow hb hc))
  obtain ⟨xs, hxs⟩ : ∃ xs, xs = bytesOf s := ⟨_, rfl⟩
  rw [← hxs] at HROW HC ⊢
  have HXS := Aside0.mk hxs
  have HL := Aside0.mk (show xs.length ≤ 9223372036854775807 by rw [hxs, bytesOf_length]; exact hs)
  clear hxs
  go_loopw [12] (fun i wr => ∃ k : Nat, k ≤ xs.length ∧ i = .int .i64 k ∧ Aside0 (ConvRow wr 5 g xs.length (foldTo xs k)) ∧ Aside0 (Below w.heap.size w wr)) (fun i _ => xs.length - (intOf i).toNat)
  case atStart => exact ⟨0, Nat.zero_le _, rfl, ⟨by rw [foldTo_zero]; exact HROW.out⟩, HB2⟩
  case round =>
    clear HROW HB2 HB
    obtain ⟨k, hk, rfl, HR, HB⟩ := hrel
    by_cases hlt : k < xs.length
    · have hx := HR.out.cell k hlt
      have hf := HR.out.free k hlt
      rw [foldTo_at xs k hlt] at hx
      have hb0 : 0 ≤ xs.getD k 0 ∧ xs.getD k 0 ≤ 255 := by rw [HXS.out]; exact byte_range_ s k
      obtain ⟨hb0, hb1⟩ := hb0
      have hL := HL.out
      have HS := Aside0.mk (show ConvRow (wr.setCell ⟨g, k, none⟩ (.int .u8 (foldI (xs.getD k 0)))) 5 g xs.length (foldTo xs (k + 1)) by rw [← foldTo_set xs k hlt]; exact HR.out.set k (foldI (xs.getD k 0)))
      generalize xs.getD k 0 = x at hx hb0 hb1 HS
      go_wp2_with (go_at_call 65; (with_reducible refine (label_Fold.low_ x hb0 hb1 _).mono ?_); rintro e w' ⟨rfl, rfl⟩)
      go_roundw
      case rel => exact ⟨k + 1, by omega, by go_num, HS, ⟨below_set HB.out hg⟩⟩
      case measure => simp [intOf]; omega
    · have hk' : k = xs.length := by omega
      subst hk'
      have hcv := Kd.C_string (P := Try.prog) (A := some ⟨g, 0, none⟩) (c := c) Try.underlying44 Try.underlying5 Try.underlying9 HR.out.reads
      have hL := HL.out
      go_wp2
      go_ret
      exact ⟨by rw [← HXS.out, ← foldTo_all xs]; rfl, HB.out⟩
def label_Fold.f (a0 : ByteArray) : Option (ByteArray) := if a0.size ≤ 9223372036854775807 then (some (foldS a0)) else (none)
theorem label_Fold.calls (a0 : ByteArray) (r : ByteArray) (w : World) (h : label_Fold.f a0 = some r) :
    Calls Try.prog 46 #[.string a0] w fun e w' => e = .returned (.string r) ∧ Below w.heap.size w w' := by
  unfold label_Fold.f at h
  by_cases hs : a0.size ≤ 9223372036854775807
  · rw [if_pos hs] at h
    obtain rfl := Option.some.inj h
    have HE := Aside0.mk (fun W => label_Fold.each_ a0 W hs)
    clear h
    go_enter Try.func46, Try.ntmps46
    go_wp2_with (go_at_call 66; (with_reducible refine (HE.out _).mono ?_); rintro e w' ⟨rfl, hb⟩)
    go_ret
    exact ⟨rfl, hb⟩
  · rw [if_neg hs] at h
    cases h

-- NOT PRINTED: function 75 (bytealg_abigen_runtime_cmpstring)

-- NOT PRINTED: function 74 (bytealg_CompareString)

/-! ### strings_Compare: function 67; out of the shelf -/
def strings_Compare.f (a0 : ByteArray) (a1 : ByteArray) : Option (Int) := some (Lib.compareBytes a0.data.toList a1.data.toList)
theorem strings_Compare.calls (a0 : ByteArray) (a1 : ByteArray) (r : Int) (w : World) (h : strings_Compare.f a0 a1 = some r) :
    Calls Try.prog 67 #[.string a0, .string a1] w fun e w' => e = .returned (.int .i64 r) ∧ Drawn0 w w' := by
  obtain rfl := Option.some.inj h
  exact (Try.strings_Compare a0 a1 w).mono fun e w' ⟨he, hw⟩ => ⟨he, by rw [hw]; exact Drawn0.refl _⟩

/-! ### label_Compare: function 51 -/
def label_Compare.f (a0 : ByteArray) (a1 : ByteArray) : Option (Int) := (label_Fold.f a0).bind fun t129 => ((label_Fold.f a1).bind fun t130 => ((strings_Compare.f t129 t130).bind fun t131 => (some t131)))
set_option maxHeartbeats 8000000 in
set_option maxRecDepth 100000 in
theorem label_Compare.calls (a0 : ByteArray) (a1 : ByteArray) (r : Int) (w : World) (h : label_Compare.f a0 a1 = some r) :
    Calls Try.prog 51 #[.string a0, .string a1] w fun e w' => e = .returned (.int .i64 r) ∧ Below w.heap.size w w' := by
  have HB := Aside0.mk (Below.refl w.heap.size w)
  have H : ((label_Fold.f a0).bind fun t129 => ((label_Fold.f a1).bind fun t130 => ((strings_Compare.f t129 t130).bind fun t131 => (some t131)))) = some r := h
  clear h
  replace H := Option.bind_eq_some_iff.mp H
  obtain ⟨t129, A30, H⟩ := H
  replace H : ((label_Fold.f a1).bind fun t130 => ((strings_Compare.f t129 t130).bind fun t131 => (some t131))) = some r := H
  have A3 := Aside0.mk A30
  clear A30
  replace H := Option.bind_eq_some_iff.mp H
  obtain ⟨t130, A40, H⟩ := H
  replace H : ((strings_Compare.f t129 t130).bind fun t131 => (some t131)) = some r := H
  have A4 := Aside0.mk A40
  clear A40
  replace H := Option.bind_eq_some_iff.mp H
  obtain ⟨t131, A50, H⟩ := H
  replace H : (some t131) = some r := H
  have A5 := Aside0.mk A50
  clear A50
  obtain rfl := Option.some.inj H
  go_enter Try.func51, Try.ntmps51
  go_wp2_with (first | ((with_reducible refine gate_callee (f := 46) rfl ?_); refine goesL_ (some 6) rfl rfl Try.func46 (by kernel_rfl) rfl #[.string a0] rfl (by (try simp only [List.map_toArray, List.map_cons, List.map_nil]); first | done | rfl | (simp only [List.length_drop, List.length_take]; rfl)) ?_; (with_reducible refine (label_Fold.calls a0 t129 _ A3.out).mono ?_); rintro e w6 ⟨rfl, hb⟩; refine ⟨_, rfl, ?_⟩; have n0_ := Aside0.mk (below_step (by repeat (first | (with_reducible first | exact HB.out | apply below_alloc | apply pw_below_drewN | apply below_drew1) | exact HB.out)) hb); clear HB; have HB := n0_; clear n0_; (try clear hb); (try clear hb2); (try clear hk); (try clear hi)) | ((with_reducible refine gate_callee (f := 46) rfl ?_); refine goesL_ (some 8) rfl rfl Try.func46 (by kernel_rfl) rfl #[.string a1] rfl (by (try simp only [List.map_toArray, List.map_cons, List.map_nil]); first | done | rfl | (simp only [List.length_drop, List.length_take]; rfl)) ?_; (with_reducible refine (label_Fold.calls a1 t130 _ A4.out).mono ?_); rintro e w7 ⟨rfl, hb⟩; refine ⟨_, rfl, ?_⟩; have n0_ := Aside0.mk (below_step (by repeat (first | (with_reducible first | exact HB.out | apply below_alloc | apply pw_below_drewN | apply below_drew1) | exact HB.out)) hb); clear HB; have HB := n0_; clear n0_; (try clear hb); (try clear hb2); (try clear hk); (try clear hi)) | ((with_reducible refine gate_callee (f := 67) rfl ?_); refine goesL_ (some 9) rfl rfl Try.func67 (by kernel_rfl) rfl #[.string t129, .string t130] rfl (by (try simp only [List.map_toArray, List.map_cons, List.map_nil]); first | done | rfl | (simp only [List.length_drop, List.length_take]; rfl)) ?_; (with_reducible refine (strings_Compare.calls t129 t130 t131 _ A5.out).mono ?_); rintro e w' ⟨rfl, ⟨nd, rfl⟩⟩; refine ⟨_, rfl, ?_⟩))
  go_ret
  exact ⟨by first | rfl | (simp [errW_none, errW_some] <;> rfl) | (simp [*, errW_none, errW_some] <;> rfl), by repeat (first | (with_reducible first | exact HB.out | apply below_alloc | apply pw_below_drewN | apply below_drew1) | exact HB.out)⟩

/-! ### label_Same: function 49 -/
def label_Same.f (a0 : ByteArray) (a1 : ByteArray) : Option (Bool) := (label_Compare.f a0 a1).bind fun t132 => (some (t132 == 0))
set_option maxHeartbeats 8000000 in
set_option maxRecDepth 100000 in
theorem label_Same.calls (a0 : ByteArray) (a1 : ByteArray) (r : Bool) (w : World) (h : label_Same.f a0 a1 = some r) :
    Calls Try.prog 49 #[.string a0, .string a1] w fun e w' => e = .returned (.bool r) ∧ Below w.heap.size w w' := by
  have HB := Aside0.mk (Below.refl w.heap.size w)
  have H : ((label_Compare.f a0 a1).bind fun t132 => (some (t132 == 0))) = some r := h
  clear h
  replace H := Option.bind_eq_some_iff.mp H
  obtain ⟨t132, A30, H⟩ := H
  replace H : (some (t132 == 0)) = some r := H
  have A3 := Aside0.mk A30
  clear A30
  obtain rfl := Option.some.inj H
  go_enter Try.func49, Try.ntmps49
  go_wp2_with (first | ((with_reducible refine gate_callee (f := 51) rfl ?_); refine goesL_ (some 7) rfl rfl Try.func51 (by kernel_rfl) rfl #[.string a0, .string a1] rfl (by (try simp only [List.map_toArray, List.map_cons, List.map_nil]); first | done | rfl | (simp only [List.length_drop, List.length_take]; rfl)) ?_; (with_reducible refine (label_Compare.calls a0 a1 t132 _ A3.out).mono ?_); rintro e w4 ⟨rfl, hb⟩; refine ⟨_, rfl, ?_⟩; have n0_ := Aside0.mk (below_step (by repeat (first | (with_reducible first | exact HB.out | apply below_alloc | apply pw_below_drewN | apply below_drew1) | exact HB.out)) hb); clear HB; have HB := n0_; clear n0_; (try clear hb); (try clear hb2); (try clear hk); (try clear hi)))
  go_ret
  exact ⟨by first | rfl | (simp [errW_none, errW_some] <;> rfl) | (simp [*, errW_none, errW_some] <;> rfl), by repeat (first | (with_reducible first | exact HB.out | apply below_alloc | apply pw_below_drewN | apply below_drew1) | exact HB.out)⟩

-- NOT PRINTED: function 54 (slices_Backward_string_string)

section
open Go.Shelf
attribute [local go_sem] Oper.semAt_some
def seqB (xs : List ByteArray) (m : Nat) : List (Int × ByteArray) := (((List.range xs.length).drop m).reverse).map fun (i : Nat) => ((i : Int), rdOf ByteArray.empty xs (i : Int))
theorem seqB_step (xs : List ByteArray) (m : Nat) (h : m < xs.length) : seqB xs m = seqB xs (m + 1) ++ [((m : Int), rdOf ByteArray.empty xs (m : Int))] := by
  unfold seqB
  rw [List.drop_eq_getElem_cons (by simpa using h), List.reverse_cons, List.map_append, List.getElem_range]
  rfl
theorem seqB_top (xs : List ByteArray) : seqB xs xs.length = [] := by
  unfold seqB
  rw [List.drop_eq_nil_of_le (by simp)]
  rfl
theorem seqB_pre (xs : List ByteArray) (m : Nat) : seqB xs m <+: seqB xs 0 := by
  induction m with
  | zero => exact List.prefix_refl _
  | succ m ih =>
    by_cases h : m < xs.length
    · rw [seqB_step xs m h] at ih
      exact (List.prefix_append _ _).trans ih
    · have : seqB xs (m + 1) = [] := by
        unfold seqB
        rw [List.drop_eq_nil_of_le (by simp; omega)]
        rfl
      rw [this]
      exact List.nil_prefix
theorem seqB_mem {xs : List ByteArray} {x : Int × ByteArray} (h : x ∈ seqB xs 0) : ∃ m : Nat, m < xs.length ∧ x = ((m : Int), rdOf ByteArray.empty xs (m : Int)) := by
  unfold seqB at h
  simp only [List.drop_zero, List.map_reverse, List.mem_reverse, List.mem_map, List.mem_range] at h
  obtain ⟨m, hm, rfl⟩ := h
  exact ⟨m, hm, rfl⟩
theorem seqB_len (xs : List ByteArray) : (seqB xs 0).length = xs.length := by
  unfold seqB
  simp

set_option maxRecDepth 100000 in
set_option maxHeartbeats 1000000 in
theorem back1_in (n : Nat) (hn : 1 ≤ n) (l Bm : Nat) (A : Option Addr) (c : Nat) (xs : List ByteArray) (hmax : xs.length ≤ 1000000) (w0 : World) (hB : Bm < w0.heap.size) (hm : w0.cell? ⟨Bm, 0, none⟩ = some (.slice A xs.length c)) (hC : Kd.C Kd.string w0 A xs.length xs)
    (J Jx : List (Int × ByteArray) → World → Prop) (N : Nat) (hN : xs.length ≤ N)
    (hY : ∀ pre x W, J pre W → pre ++ [x] <+: seqB xs 0 → pre.length < N → YieldAt Fence.wide (n - 1) Try.prog l #[.int .i64 x.1, .string x.2] W fun e W' => (e = .returned (.bool true) ∧ J (pre ++ [x]) W' ∧ Below w0.heap.size W W') ∨ (e = .returned (.bool false) ∧ Jx (pre ++ [x]) W'))
    (W : World) (hJ : AbidesFrom W.heap.size J) (hW : Below w0.heap.size w0 W) (h0 : J [] W) :
    CallsIn Fence.wide n Try.prog 69 #[.func (.yield l) #[] #[], .pointer (some ⟨Bm, 0, none⟩)] W fun e W' => (∃ v, e = .returned v) ∧ ((∃ ss : List (Int × ByteArray), ss = seqB xs 0 ∧ J ss W') ∨ (∃ pre, pre <+: seqB xs 0 ∧ Jx pre W')) := by
  refine callsIn_of_wp Try.func69 rfl trivial ?_ rfl
  simp only [Try.ntmps69, List.size_toArray, List.length_cons, List.length_nil, Nat.reduceAdd, Nat.reduceSub, Array.replicate_succ, Array.replicate_zero, List.push_toArray, List.append_toArray, List.nil_append, List.cons_append]
  have hmW : W.cell? ⟨Bm, 0, none⟩ = some (.slice A xs.length c) := (hW.cell (p := ⟨Bm, 0, none⟩) hB).trans hm
  have hw : wrap64 ((xs.length : Int) - 1) = (xs.length : Int) - 1 := wrap_id (by omega) (by omega)
  gi_wp2
  gi_loopw [3] (fun vi wr => ∃ (m : Nat) (i : Int), vi = .int .i64 i ∧ i + 1 = (m : Int) ∧ m ≤ xs.length ∧ Aside0 (J (seqB xs m) wr) ∧ Aside0 (Below w0.heap.size w0 wr))
    (fun vi _ => (intOf vi + 1).toNat)
  case atStart =>
    refine ⟨xs.length, (xs.length : Int) - 1, by first | rfl | rw [hw], by omega, Nat.le_refl _, ⟨?_⟩, ⟨?_⟩⟩
    · rw [seqB_top]
      first | exact h0 | exact hJ _ _ _ none h0 (grownBy_drewN_ _ _) (fun r e => by cases e)
    · first | exact hW | exact pw_below_drewN hW _
  case round =>
    obtain ⟨m, i, rfl, hi, hml, HJ, HB⟩ := hrel
    cases m with
    | zero =>
      have hi' : i = -1 := by omega
      subst hi'
      gi_wp2
      go_end0
      exact ⟨⟨_, rfl⟩, .inl ⟨_, rfl, HJ.out⟩⟩
    | succ m =>
      have hi' : i = (m : Int) := by omega
      subst hi'
      obtain ⟨ad, e1, hx⟩ := Kd.at_string (Kd.C_below hC HB.out) (m : Int) (by omega) (by omega)
      subst e1
      rw [Int.toNat_natCast] at hx
      have hst := seqB_step xs m (by omega)
      have hpre := seqB_pre xs m
      rw [hst] at hpre
      have hlen : (seqB xs (m + 1)).length < N := by
        have := hpre.length_le
        rw [seqB_len, List.length_append] at this
        simp at this
        omega
      obtain ⟨fn, tmps, assign, body, hy, hR⟩ := hY _ _ wr HJ.out hpre hlen
      have HRR := Aside0.mk hR
      have HP := Aside0.mk hpre
      have HS := Aside0.mk hst
      clear hR hpre hst
      dsimp only at hy
      generalize rdOf ByteArray.empty xs (m : Int) = x at hx hy HRR HP HS
      have hmw : wr.cell? ⟨Bm, 0, none⟩ = some (.slice (some ad) xs.length c) := (HB.out.cell (p := ⟨Bm, 0, none⟩) hB).trans hm
      have b0 : decide (0 ≤ (m : Int)) = true := decide_eq_true (by omega)
      have p1 : (0 ≤ (m : Int)) = True := eq_true (by omega)
      have q1 : ((m : Int) < (xs.length : Int)) = True := eq_true (by omega)
      gi_wp2_with fail
      refine HRR.out.mono ?_
      rintro e W3 (⟨rfl, hJ3, hk3⟩ | ⟨rfl, hJx3⟩)
      · have HJ3 := Aside0.mk hJ3
        have HK3 := Aside0.mk hk3
        have hw2 : wrap64 ((m : Int) - 1) = (m : Int) - 1 := wrap_id (by omega) (by omega)
        clear hJ3 hk3 HRR hy
        gi_wp2
        go_roundw
        case rel => exact ⟨m, (m : Int) - 1, by first | rfl | rw [hw2], by omega, by omega, ⟨by rw [HS.out]; exact HJ3.out⟩, ⟨HB.out.trans HK3.out⟩⟩
        case measure => first | (simp [intOf]; done) | (simp [intOf]; omega)
      · have HJ3 := Aside0.mk hJx3
        clear hJx3 HRR hy
        gi_wp2

        refine bodyPost_ret (results_none rfl _ _ _) rfl ?_
        exact ⟨⟨_, rfl⟩, .inr ⟨_, HP.out, HJ3.out⟩⟩

theorem back1_stopsQ (n : Nat) (hn : 1 ≤ n) (Bm : Nat) (A : Option Addr) (c : Nat) (xs : List ByteArray) (hmax : xs.length ≤ 1000000) (w0 : World) (hB : Bm < w0.heap.size) (hm : w0.cell? ⟨Bm, 0, none⟩ = some (.slice A xs.length c)) (hC : Kd.C Kd.string w0 A xs.length xs) :
    SeqStopsK Fence.wide n Try.prog 69 #[.pointer (some ⟨Bm, 0, none⟩)] (fun x : { x : Int × ByteArray // ∃ m : Nat, m < xs.length ∧ x = ((m : Int), rdOf ByteArray.empty xs (m : Int)) } => #[Value.int .i64 x.1.1, Value.string x.1.2]) (Below w0.heap.size) (fun ys => ys.map Subtype.val = seqB xs 0) (fun pre => pre.map Subtype.val <+: seqB xs 0) xs.length w0 := by
  intro l J Jx W hW hJ hJx hY h0
  refine (back1_in n hn l Bm A c xs hmax w0 hB hm hC (fun pre W => ∃ p : List { x : Int × ByteArray // ∃ m : Nat, m < xs.length ∧ x = ((m : Int), rdOf ByteArray.empty xs (m : Int)) }, p.map Subtype.val = pre ∧ J p W) (fun pre W => ∃ p : List { x : Int × ByteArray // ∃ m : Nat, m < xs.length ∧ x = ((m : Int), rdOf ByteArray.empty xs (m : Int)) }, p.map Subtype.val = pre ∧ Jx p W) _ (Nat.le_refl _) ?_ W ?_ hW ⟨[], rfl, h0⟩).mono ?_
  · rintro pre x W1 ⟨p, rfl, hj⟩ hp hl
    have hx := seqB_mem (hp.subset (List.mem_append_right _ (List.mem_singleton.2 rfl)))
    obtain ⟨fn, tmps, assign, body, hy, hR⟩ := hY p ⟨x, hx⟩ W1 hj (by simpa using hl)
    refine ⟨fn, tmps, assign, body, hy, hR.mono ?_⟩
    rintro e W' (⟨he, h1, h2⟩ | ⟨he, h1⟩)
    · exact .inl ⟨he, ⟨p ++ [⟨x, hx⟩], by simp, h1⟩, h2⟩
    · exact .inr ⟨he, ⟨p ++ [⟨x, hx⟩], by simp, h1⟩⟩
  · rintro pre A B row ⟨p, hp, hj⟩ hg hr
    exact ⟨p, hp, hJ p A B row hj hg hr⟩
  · rintro e W' ⟨hv, ⟨ss, hss, p, hp, hj⟩ | ⟨pre, hpre, p, hp, hj⟩⟩
    · exact ⟨hv, .inl ⟨p, hp.trans hss, hj⟩⟩
    · exact ⟨hv, .inr ⟨p, by show p.map Subtype.val <+: _; rw [hp]; exact hpre, hj⟩⟩
theorem back_calls (n : Nat) (v : Value) (hv : v.oneCell' = true) (w : World) : CallsIn Fence.wide n Try.prog 54 #[v] w fun e w' => e = .returned (.func (.func 69) #[] #[.pointer (some ⟨w.heap.size, 0, none⟩)]) ∧ w' = w.alloc (.cells #[v] 23) := by
  refine callsIn_of_wp Try.func54 rfl trivial ?_ rfl
  simp only [Try.ntmps54, List.size_toArray, List.length_cons, List.length_nil, Nat.reduceAdd, Nat.reduceSub, Array.replicate_succ, Array.replicate_zero, List.push_toArray, List.append_toArray, List.nil_append, List.cons_append]
  gi_wp2
  go_ret
  exact ⟨rfl, rfl⟩


def pairsU (x y : List ByteArray) : List (ByteArray × ByteArray) := y.zip (x.drop (x.length - y.length))
def allSame (l : List (ByteArray × ByteArray)) : Option Bool := if l.all (fun p => (label_Same.f p.1 p.2).isSome) then some (l.all fun p => label_Same.f p.1 p.2 == some true) else none
def name_Under.f (k : Nat) (a0 a1 : ByteArray) : Option Bool :=
  (name_Check.f k a0).bind fun t => if t = 0 then ((name_Check.f k a1).bind fun u => if u = 0 then ((name_Labels.f k a0).bind fun x => (name_Labels.f k a1).bind fun y => if x.length < y.length then some false else allSame (pairsU x y)) else some false) else some false

theorem under_results (tmps : Array Value) (g : Nat) (b : Bool) (w : World) (hp : tmps.getD 4 undef = .pointer (some ⟨g, 0, none⟩)) (hc : w.cell? ⟨g, 0, none⟩ = some (.bool b)) : (results Try.f26 tmps).run Try.prog w = .ok (.bool b) w := by
  have hr : Try.f26.results = #[ResultVar.cell 4 4] := by kernel_rfl
  have hp' : tmps[4]?.getD undef = .pointer (some ⟨g, 0, none⟩) := by simpa using hp
  simp [results, hr, go_sem, hc, hp']
set_option maxRecDepth 100000 in
set_option maxHeartbeats 2000000 in
theorem under_bad1 (k : Nat) (a0 a1 : ByteArray) (c : Int) (hc : c ≠ 0) (hk : name_Check.f k a0 = some c) (w : World) :
    Calls Try.prog 26 #[.string a0, .string a1] w fun e W' => e = .returned (.bool false) ∧ Below w.heap.size w W' := by
  have HC := Aside0.mk hk
  have hc1 : (c == 0) = false := beq_eq_false_iff_ne.2 hc
  have hc2 : (c != 0) = true := bne_iff_ne.2 hc
  clear hk hc
  go_enter Try.func26, Try.ntmps26
  go_wp2_with (go_at_call 15; (with_reducible refine (name_Check.calls k a0 c _ HC.out).mono ?_); rintro e w' ⟨rfl, ⟨nd, rfl⟩⟩)
  refine bodyPost_ret (under_results _ w.heap.size false _ rfl ((show Boxed _ w.heap.size 4 (.bool false) from Boxed.new w 4 (.bool false)).set (.bool false)).cell) rfl ?_
  exact ⟨rfl, below_set (pw_below_drewN (below_alloc (Below.refl _ _) _) _) (Nat.le_refl _)⟩
set_option maxRecDepth 100000 in
set_option maxHeartbeats 2000000 in
theorem under_bad2 (k : Nat) (a0 a1 : ByteArray) (c : Int) (hc : c ≠ 0) (hk0 : name_Check.f k a0 = some 0) (hk : name_Check.f k a1 = some c) (w : World) :
    Calls Try.prog 26 #[.string a0, .string a1] w fun e W' => e = .returned (.bool false) ∧ Below w.heap.size w W' := by
  have HC0 := Aside0.mk hk0
  have HC := Aside0.mk hk
  have hc1 : (c == 0) = false := beq_eq_false_iff_ne.2 hc
  have hc2 : (c != 0) = true := bne_iff_ne.2 hc
  clear hk hc hk0
  go_enter Try.func26, Try.ntmps26
  go_wp2_with (first
    | (go_at_call 15; (with_reducible refine (name_Check.calls k a0 0 _ HC0.out).mono ?_); rintro e w' ⟨rfl, ⟨nd, rfl⟩⟩)
    | (go_at_call 15; (with_reducible refine (name_Check.calls k a1 c _ HC.out).mono ?_); rintro e w' ⟨rfl, ⟨nd2, rfl⟩⟩))
  refine bodyPost_ret (under_results _ w.heap.size false _ rfl ((show Boxed _ w.heap.size 4 (.bool false) from Boxed.new w 4 (.bool false)).set (.bool false)).cell) rfl ?_
  exact ⟨rfl, below_set (pw_below_drewN (below_alloc (Below.refl _ _) _) _) (Nat.le_refl _)⟩

set_option maxRecDepth 100000 in
set_option maxHeartbeats 2000000 in
theorem under_short (k : Nat) (a0 a1 : ByteArray) (x y : List ByteArray) (hk0 : name_Check.f k a0 = some 0) (hk1 : name_Check.f k a1 = some 0) (hx : name_Labels.f k a0 = some x) (hy : name_Labels.f k a1 = some y) (hlt : x.length < y.length) (w : World) :
    Calls Try.prog 26 #[.string a0, .string a1] w fun e W' => e = .returned (.bool false) ∧ Below w.heap.size w W' := by
  have HC0 := Aside0.mk hk0
  have HC1 := Aside0.mk hk1
  have HX := Aside0.mk hx
  have HY := Aside0.mk hy
  have hl : decide ((x.length : Int) < (y.length : Int)) = true := decide_eq_true (by omega)
  clear hk1 hk0 hx hy
  go_enter Try.func26, Try.ntmps26
  go_wp2_with (first
    | (go_at_call 15; (with_reducible refine (name_Check.calls k a0 0 _ HC0.out).mono ?_); rintro e w' ⟨rfl, ⟨nd, rfl⟩⟩)
    | (go_at_call 15; (with_reducible refine (name_Check.calls k a1 0 _ HC1.out).mono ?_); rintro e w' ⟨rfl, ⟨nd2, rfl⟩⟩)
    | (go_at_call 18; (with_reducible refine (name_Labels.calls k a0 x _ HX.out).mono ?_); rintro e w3 ⟨v3, rfl, hr3, hb3⟩; have HR3 := Aside0.mk hr3; have HB3 := Aside0.mk hb3; clear hr3 hb3; obtain ⟨A3, c3, e3⟩ := Kd.R_slice HR3.out; subst e3)
    | (go_at_call 18; (with_reducible refine (name_Labels.calls k a1 y _ HY.out).mono ?_); rintro e w4 ⟨v4, rfl, hr4, hb4⟩; have HR4 := Aside0.mk hr4; have HB4 := Aside0.mk hb4; clear hr4 hb4; obtain ⟨A4, c4, e4⟩ := Kd.R_slice HR4.out; subst e4;
       have hx4 : Boxed w4 w.heap.size 4 (.bool false) := by
        have b0 : Boxed ((w.alloc (Obj.cells #[Value.bool false] 4)).drewN (nd + nd2)) w.heap.size 4 (.bool false) := Boxed.new w 4 (.bool false)
        exact (HB4.out.block _ (Nat.lt_of_lt_of_le b0.lt HB3.out.size)).trans ((HB3.out.block _ b0.lt).trans b0);
       have q1 := (hx4.alloc (.cells #[.slice A3 x.length c3] 23)).cell; have q2 := (hx4.alloc (.cells #[.slice A3 x.length c3] 23)).frozen; have q3 := ((hx4.alloc (.cells #[.slice A3 x.length c3] 23)).set (.bool false)).cell; have HX4 := Aside0.mk hx4; clear hx4))
  refine bodyPost_ret (under_results _ w.heap.size false _ rfl q3) rfl ?_
  have hs : w.heap.size ≤ w3.heap.size := Nat.le_trans (by simp) HB3.out.size
  refine ⟨rfl, below_set (below_alloc ?_ _) (Nat.le_refl _)⟩
  exact ((pw_below_drewN (below_alloc (Below.refl _ _) _) _).trans (HB3.out.mono (by simp))).trans (HB4.out.mono hs)

theorem name_Labels_le {k : Nat} {a : ByteArray} {r : List ByteArray} (h : name_Labels.f k a = some r) : r.length ≤ 254 := by
  unfold name_Labels.f at h
  cases hk : name_Check.f k a with
  | none => rw [hk] at h; cases h
  | some t =>
    rw [hk, Option.bind_some] at h
    by_cases ht : t = 0
    · rw [if_pos ht] at h
      by_cases hs : a.size ≤ 254 ∧ (labelsP a).length ≤ 254
      · rw [if_pos hs] at h
        obtain rfl := Option.some.inj h
        exact hs.2
      · rw [if_neg hs] at h; cases h
    · rw [if_neg ht] at h
      obtain rfl := Option.some.inj h
      exact Nat.zero_le _
theorem seqB_has {xs : List ByteArray} {m : Nat} (h : m < xs.length) : ((m : Int), rdOf ByteArray.empty xs (m : Int)) ∈ seqB xs 0 := by
  unfold seqB
  simp only [List.drop_zero, List.map_reverse, List.mem_reverse, List.mem_map, List.mem_range]
  exact ⟨m, h, rfl⟩
theorem rdOf_at {l : List ByteArray} {m : Nat} (h : m < l.length) : rdOf ByteArray.empty l (m : Int) = l[m] := by
  unfold rdOf
  simp [List.getD, h]
theorem allSame_at {y z : List ByteArray} {r : Bool} (hl : z.length = y.length) (h : allSame (y.zip z) = some r) {m : Nat} (hm : m < y.length) :
    ∃ b, label_Same.f (rdOf ByteArray.empty y (m : Int)) (rdOf ByteArray.empty z (m : Int)) = some b ∧ (b = false → r = false) := by
  unfold allSame at h
  have hz : m < z.length := by omega
  rw [rdOf_at hm, rdOf_at hz]
  have hmem : (y[m], z[m]) ∈ y.zip z := by
    have : (y.zip z)[m]'(by simp; omega) = (y[m], z[m]) := by simp
    rw [← this]
    exact List.getElem_mem _
  by_cases c : (y.zip z).all (fun p => (label_Same.f p.1 p.2).isSome) = true
  · rw [if_pos c] at h
    obtain rfl := Option.some.inj h
    have h1 := List.all_eq_true.1 c _ hmem
    obtain ⟨b, hb⟩ := Option.isSome_iff_exists.1 h1
    refine ⟨b, hb, fun hf => ?_⟩
    subst hf
    rw [List.all_eq_false]
    refine ⟨_, hmem, ?_⟩
    rw [hb]
    simp
  · rw [if_neg c] at h; cases h
theorem allSame_true {y z : List ByteArray} {r : Bool} (hl : z.length = y.length) (h : allSame (y.zip z) = some r) (ht : ∀ m : Nat, m < y.length → label_Same.f (rdOf ByteArray.empty y (m : Int)) (rdOf ByteArray.empty z (m : Int)) = some true) : r = true := by
  unfold allSame at h
  by_cases c : (y.zip z).all (fun p => (label_Same.f p.1 p.2).isSome) = true
  · rw [if_pos c] at h
    obtain rfl := Option.some.inj h
    rw [List.all_eq_true]
    intro p hp
    obtain ⟨m, hm, rfl⟩ := List.getElem_of_mem hp
    have hm' : m < y.length := by simp at hm; omega
    have := ht m hm'
    rw [rdOf_at hm', rdOf_at (by omega)] at this
    simp [this]
  · rw [if_neg c] at h; cases h
set_option maxRecDepth 100000 in
set_option maxHeartbeats 4000000 in
theorem under_in (n : Nat) (hn : 3 ≤ n) (k : Nat) (a0 a1 : ByteArray) (x y : List ByteArray) (r : Bool) (hk0 : name_Check.f k a0 = some 0) (hk1 : name_Check.f k a1 = some 0) (hx : name_Labels.f k a0 = some x) (hy : name_Labels.f k a1 = some y) (hlt : ¬ x.length < y.length) (hr : allSame (pairsU x y) = some r) (w : World) :
    CallsIn Fence.wide n Try.prog 26 #[.string a0, .string a1] w fun e W' => e = .returned (.bool r) ∧ Below w.heap.size w W' := by
  have h1 : 1 ≤ n := by omega
  have hxl := name_Labels_le hx
  have hyl := name_Labels_le hy
  have HC0 := Aside0.mk hk0
  have HC1 := Aside0.mk hk1
  have HX := Aside0.mk hx
  have HY := Aside0.mk hy
  have HR := Aside0.mk hr
  have hl : decide ((x.length : Int) < (y.length : Int)) = false := decide_eq_false (by omega)
  have hw : wrap64 ((x.length : Int) - (y.length : Int)) = (x.length : Int) - (y.length : Int) := wrap_id (by omega) (by omega)
  have hq : x.length - (x.length - y.length) = y.length := by omega
  have hdl : (x.drop (x.length - y.length)).length = y.length := by rw [List.length_drop]; omega
  clear hk1 hk0 hx hy hr
  refine callsIn_of_wp_marks Try.func26 rfl trivial ?_ rfl
  simp only [Try.ntmps26, List.size_toArray, List.length_cons, List.length_nil, Nat.reduceAdd, Nat.reduceSub, Array.replicate_succ, Array.replicate_zero, List.push_toArray, List.append_toArray, List.nil_append, List.cons_append]
  gi_wp2_with (first
    | (refine ⟨trivial, ?_⟩; gi_at_call 15; (with_reducible refine CallsIn.mono (callsIn_wide.2 (name_Check.calls k a0 0 _ HC0.out)) ?_); rintro e w' ⟨rfl, ⟨nd, rfl⟩⟩)
    | (refine ⟨trivial, ?_⟩; gi_at_call 15; (with_reducible refine CallsIn.mono (callsIn_wide.2 (name_Check.calls k a1 0 _ HC1.out)) ?_); rintro e w' ⟨rfl, ⟨nd2, rfl⟩⟩)
    | (refine ⟨trivial, ?_⟩; gi_at_call 18; (with_reducible refine CallsIn.mono (callsIn_wide.2 (name_Labels.calls k a0 x _ HX.out)) ?_); rintro e w3 ⟨v3, rfl, hr3, hb3⟩; have HR3 := Aside0.mk hr3; have HB3 := Aside0.mk hb3; clear hr3 hb3; obtain ⟨A3, c3, e3⟩ := Kd.R_slice HR3.out; subst e3; obtain ⟨A5, hA5⟩ : ∃ A5, (if c3 = x.length - y.length then A3 else Option.map (fun z => z.add (x.length - y.length)) A3) = A5 := ⟨_, rfl⟩)
    | (refine ⟨trivial, ?_⟩; gi_at_call 18; (with_reducible refine CallsIn.mono (callsIn_wide.2 (name_Labels.calls k a1 y _ HY.out)) ?_); rintro e w4 ⟨v4, rfl, hr4, hb4⟩; have HR4 := Aside0.mk hr4; have HB4 := Aside0.mk hb4; clear hr4 hb4; obtain ⟨A4, c4, e4⟩ := Kd.R_slice HR4.out; subst e4)
    | (refine ⟨trivial, ?_⟩; gi_at_call 54; (with_reducible refine CallsIn.mono (back_calls (n - 1) _ rfl _) ?_); rintro e w5 ⟨rfl, rfl⟩))
  obtain ⟨c5, hc5⟩ : ∃ c5, c3 - (x.length - y.length) = c5 := ⟨_, rfl⟩
  rw [hc5]
  have hs3 : w.heap.size < w3.heap.size := Nat.lt_of_lt_of_le (by simp) HB3.out.size
  have hs4 : w3.heap.size ≤ w4.heap.size := HB4.out.size
  have hCx4 : Kd.C Kd.string w4 A5 (x.drop (x.length - y.length)).length (x.drop (x.length - y.length)) := by
    have := Kd.C_drop (m := x.length - y.length) (c := c3) (Kd.C_below (Kd.R_reads' HR3.out).2.2 HB4.out) (by omega) (Kd.R_reads' HR3.out).2.1
    rw [show Kd.string.sz = 1 from rfl, Nat.mul_one] at this
    rw [← hA5]
    exact this
  have hCy4 : Kd.C Kd.string w4 A4 y.length y := (Kd.R_reads' HR4.out).2.2
  have hx4 : Boxed w4 w.heap.size 4 (.bool false) := by
    have b0 : Boxed ((w.alloc (Obj.cells #[Value.bool false] 4)).drewN (nd + nd2)) w.heap.size 4 (.bool false) := Boxed.new w 4 (.bool false)
    exact (HB4.out.block _ (Nat.lt_of_lt_of_le b0.lt HB3.out.size)).trans ((HB3.out.block _ b0.lt).trans b0)
  have hb4 : Below w.heap.size w w4 := ((pw_below_drewN (below_alloc (Below.refl _ _) _) _).trans (HB3.out.mono (by simp))).trans (HB4.out.mono (by omega))
  have hall : Below w4.heap.size w4 ((w4.alloc (Obj.cells #[Value.slice A5 y.length c5] 23)).alloc (Obj.cells #[Value.slice A4 y.length c4] 23)) := (((Below.refl _ w4).alloc (Nat.le_refl _) _).alloc (by simp) _)
  have hsW : ((w4.alloc (Obj.cells #[Value.slice A5 y.length c5] 23)).alloc (Obj.cells #[Value.slice A4 y.length c4] 23)).heap.size = w4.heap.size + 2 := by simp
  have hR1 := ((hx4.alloc (Obj.cells #[Value.slice A5 y.length c5] 23)).alloc (Obj.cells #[Value.slice A4 y.length c4] 23))
  have hX1 := ((Boxed.new w4 23 (Value.slice A5 y.length c5)).alloc (Obj.cells #[Value.slice A4 y.length c4] 23))
  have hY1 := Boxed.new (w4.alloc (Obj.cells #[Value.slice A5 y.length c5] 23)) 23 (Value.slice A4 y.length c4)
  rw [World.size_alloc] at hY1
  have hCx := Kd.C_below hCx4 hall
  have hCy := Kd.C_below hCy4 hall
  have hbW := hb4.trans (hall.mono (by omega))
  rw [hdl] at hCx
  generalize ((w4.alloc (Obj.cells #[Value.slice A5 y.length c5] 23)).alloc (Obj.cells #[Value.slice A4 y.length c4] 23)) = W1 at *
  have hseq := back1_stopsQ (n - 1) (by omega) (w4.heap.size + 1) A4 c4 y (by omega) W1 (by omega) hY1.cell hCy
  have hR0 := HR.out
  unfold pairsU at hR0
  generalize x.drop (x.length - y.length) = xd at hCx hdl hR0
  have HR0 := Aside0.mk hR0
  clear hR0 HR HX HY HC0 HC1 HR3 HR4 HB3 HB4 hCx4 hCy4 hx4 hb4 hall hA5
  refine wpIn_rangeFunc_ownG rfl h1 (gf := 69) (lb := #[.pointer (some ⟨w4.heap.size + 1, 0, none⟩)]) rfl trivial (enters_of Try.func69 (by kernel_rfl) rfl) hseq (fun a b => a.trans b) (belowK_b (Nat.le_refl _)) (Below.refl _ _) (fun _ => rfl)
    (fun pre W => (∀ z ∈ pre, label_Same.f z.1.2 (rdOf ByteArray.empty xd z.1.1) = some true) ∧ Below W1.heap.size W1 W)
    (fun c pre W => ((c = .ret ∧ r = false) ∧ Boxed W w.heap.size 4 (.bool false)) ∧ Below w.heap.size w W)
    (OwnFrom.and (fun _ _ _ _ hs _ _ => hs) (ownFrom_below (Nat.le_refl _) (Nat.le_refl _)))
    (fun c => OwnFrom.and (OwnFrom.and (fun _ _ _ _ hs _ _ => hs) (Own.from (boxed_own _ _ _) _)) (ownFrom_below (Nat.le_refl _) (by omega)))
    ⟨fun z hz => (by cases hz), Below.refl _ _⟩
    (fun z => { tmps := #[.string a0, .string a1, undef, undef, .pointer (some ⟨w.heap.size, 0, none⟩), .pointer (some ⟨w4.heap.size, 0, none⟩), .slice A4 y.length c4, .int .i64 z.1.1, .string z.1.2, .string a0, .int .i64 0, .bool false, .bool false, .string a1, .int .i64 0, .bool false, .bool false, .string a0, .slice A3 x.length c3, .string a1, .slice A4 y.length c4, .slice A3 x.length c3, .int .i64 x.length, .slice A4 y.length c4, .int .i64 y.length, .bool false, .slice A3 x.length c3, .slice A3 x.length c3, .int .i64 x.length, .slice A4 y.length c4, .int .i64 y.length, .int .i64 ((x.length : Int) - (y.length : Int)), .slice A5 y.length c5, .slice A4 y.length c4, .func (.func 69) #[] #[.pointer (some ⟨w4.heap.size + 1, 0, none⟩)], .int .i64 z.1.1, .string z.1.2, undef, undef, undef, undef, undef, undef, undef], defers := [] }) ?assign ?body ?done ?stop
  case assign =>
    intro l z W K hK
    gi_wp2
    exact hK
  case body =>
    rintro l pre ⟨⟨zi, p⟩, hz⟩ W ⟨hpre, hB1⟩ hlt
    have hz' := hz
    obtain ⟨m, hm, hzeq⟩ := hz'
    have hzp : p = rdOf ByteArray.empty y (m : Int) := congrArg Prod.snd hzeq
    obtain rfl : zi = (m : Int) := congrArg Prod.fst hzeq
    clear hzeq
    obtain ⟨b, hb, hbr⟩ := allSame_at hdl HR0.out hm
    rw [← hzp] at hb
    have HZP := Aside0.mk hzp
    clear hzp
    obtain ⟨ad, e1, hxm⟩ := Kd.at_string (Kd.C_below hCx hB1) (m : Int) (by omega) (by omega)
    subst e1
    rw [Int.toNat_natCast] at hxm
    have p1 : (0 ≤ (m : Int)) = True := eq_true (by omega)
    have q1 : ((m : Int) < (y.length : Int)) = True := eq_true (by omega)
    have hX := (hB1.block _ hX1.lt).trans hX1
    have hXc := Boxed.cell hX
    have hRW : Boxed W w.heap.size 4 (.bool false) := (hB1.block _ hR1.lt).trans hR1
    have hRc := Boxed.cell hRW
    have hRf := Boxed.frozen hRW
    have h12 : 1 ≤ n - 1 - 1 := by omega
    have hW1s : w.heap.size ≤ W1.heap.size := by omega
    have hWs := hB1.size
    have HP := Aside0.mk hpre
    clear hpre
    obtain ⟨q, hqq⟩ : ∃ q, rdOf ByteArray.empty xd (m : Int) = q := ⟨_, rfl⟩
    rw [hqq] at hxm hb
    have HB := Aside0.mk hb
    have HQQ := Aside0.mk hqq
    clear hb hqq
    dsimp only
    have HT := fun (W : World) => (callsIn_wide (n := n - 1 - 1 - 1)).2 (label_Same.calls p q b W HB.out)
    cases b with
    | true =>
      gi_wp2_with (refine ⟨trivial, ?_⟩; gi_at_call 49; (with_reducible refine CallsIn.mono (CallsIn.inRound (F := Fence.wide) l (HT _)) ?_); rintro e w7 ⟨rfl, hb7⟩)
      have hk7 : KeepsFrom W1.heap.size W w7 := ⟨hb7.size, fun k o _ hk _ => (hb7.block k (Array.getElem?_eq_some_iff.1 hk).1).trans hk⟩
      refine ⟨hk7, hb7.mono hWs, ?_, hB1.trans (hb7.mono hWs)⟩
      intro z hz
      rcases List.mem_append.1 hz with hz | hz
      · exact HP.out z hz
      · obtain rfl := List.mem_singleton.1 hz
        dsimp only
        rw [HQQ.out]
        exact HB.out
    | false =>
      gi_wp2_with (refine ⟨trivial, ?_⟩; gi_at_call 49; (with_reducible refine CallsIn.mono (CallsIn.inRound (F := Fence.wide) l (HT _)) ?_); rintro e w7 ⟨rfl, hb7⟩; have r7 : Boxed w7 w.heap.size 4 (.bool false) := (hb7.block _ hRW.lt).trans hRW; have r7c := r7.cell; have r7f := r7.frozen)
      have hk7 : KeepsFrom W1.heap.size W w7 := ⟨hb7.size, fun k o _ hk _ => (hb7.block k (Array.getElem?_eq_some_iff.1 hk).1).trans hk⟩
      have hk8 : KeepsFrom W1.heap.size w7 (w7.setCell ⟨w.heap.size, 0, none⟩ (.bool false)) := (KeepsOthers.setCell w7 ⟨w.heap.size, 0, none⟩ (.bool false)).from _
      exact ⟨hk7.trans hk8, ⟨⟨rfl, hbr trivial⟩, r7.set (.bool false)⟩, (hbW.trans ((hB1.trans (hb7.mono hWs)).mono hW1s)).setCell (p := ⟨w.heap.size, 0, none⟩) (Nat.le_refl _) _⟩
  case done =>
    rintro D ys W hD hys ⟨hpre, hB1⟩ hK
    have hW1s : w.heap.size ≤ W1.heap.size := by omega
    have hRW : Boxed W w.heap.size 4 (.bool false) := (hB1.block _ hR1.lt).trans hR1
    have hRc := hRW.cell
    have hRf := hRW.frozen
    have hrt : r = true := by
      refine allSame_true hdl HR0.out (fun m hm => ?_)
      have hmem : ((m : Int), rdOf ByteArray.empty y (m : Int)) ∈ ys.map Subtype.val := by
        rw [hys]
        exact seqB_has hm
      obtain ⟨z, hz, hze⟩ := List.mem_map.1 hmem
      have := hpre z hz
      rw [hze] at this
      exact this
    subst hrt
    clear hpre hys
    gi_wp2
    have hK' := (KeepsOthers.setCell W ⟨w.heap.size, 0, none⟩ (.bool true)).same D _ hK rfl
    refine ⟨by simp, .inl ⟨_, _, rfl, run_takeDeferred hK', ?_⟩⟩
    have hc5 := cell_kept (hRW.set (.bool true)).cell (grownBy_putObj' _ D (.deferred none)) (fun r e => by cases e; exact ⟨_, hK', rfl⟩)
    exact ⟨.bool true, under_results _ w.heap.size true _ rfl hc5, rfl, ((hbW.trans (hB1.mono hW1s)).setCell (p := ⟨w.heap.size, 0, none⟩) (Nat.le_refl _) _).trans (belowK_b (w := w) (Nat.le_refl _) _ D _ _ (by omega) hK' rfl rfl)⟩
  case stop =>
    rintro D c pre W hD hpre ⟨⟨⟨rfl, hrf⟩, bR1⟩, hB1⟩ hK
    subst hrf
    gi_wp2
    refine ⟨by simp, .inl ⟨_, _, rfl, run_takeDeferred hK, ?_⟩⟩
    have hc5 := cell_kept bR1.cell (grownBy_putObj' _ D (.deferred none)) (fun r e => by cases e; exact ⟨_, hK, rfl⟩)
    exact ⟨.bool false, under_results _ w.heap.size false _ rfl hc5, rfl, hB1.trans (belowK_b (w := w) (Nat.le_refl _) W D _ _ (by omega) hK rfl rfl)⟩

theorem name_Under.calls (k : Nat) (a0 a1 : ByteArray) (r : Bool) (w : World) (h : name_Under.f k a0 a1 = some r) :
    Calls Try.prog 26 #[.string a0, .string a1] w fun e w' => e = .returned (.bool r) ∧ Below w.heap.size w w' := by
  unfold name_Under.f at h
  cases hk : name_Check.f k a0 with
  | none => rw [hk] at h; cases h
  | some t =>
    rw [hk, Option.bind_some] at h
    by_cases ht : t = 0
    · subst ht
      rw [if_pos rfl] at h
      cases hk1 : name_Check.f k a1 with
      | none => rw [hk1] at h; cases h
      | some u =>
        rw [hk1, Option.bind_some] at h
        by_cases hu : u = 0
        · subst hu
          rw [if_pos rfl] at h
          cases hx : name_Labels.f k a0 with
          | none => rw [hx] at h; cases h
          | some x =>
            rw [hx, Option.bind_some] at h
            cases hy : name_Labels.f k a1 with
            | none => rw [hy] at h; cases h
            | some y =>
              rw [hy, Option.bind_some] at h
              by_cases hl : x.length < y.length
              · rw [if_pos hl] at h
                obtain rfl := Option.some.inj h
                exact under_short k a0 a1 x y hk hk1 hx hy hl w
              · rw [if_neg hl] at h
                exact (callsIn_wide (n := 9)).1 (under_in 9 (by omega) k a0 a1 x y r hk hk1 hx hy hl h w)
        · rw [if_neg hu] at h
          obtain rfl := Option.some.inj h
          exact under_bad2 k a0 a1 u hu hk hk1 w
    · rw [if_neg ht] at h
      obtain rfl := Option.some.inj h
      exact under_bad1 k a0 a1 t ht hk w
theorem name_Under.mono : ∀ a0 a1 k, LeO (name_Under.f k a0 a1) (name_Under.f (k + 1) a0 a1) := by
  intro a0 a1 k
  unfold name_Under.f
  exact LeO.bind (name_Check.mono a0 k) (fun _ => LeO.ite (LeO.bind (name_Check.mono a1 k) (fun _ => LeO.ite (LeO.bind (name_Labels.mono a0 k) (fun _ => LeO.bind (name_Labels.mono a1 k) (fun _ => LeO.refl _))) (LeO.refl _))) (LeO.refl _))
end

/-! ### stringslite_HasPrefix: function 70 -/
def stringslite_HasPrefix.f (a0 : ByteArray) (a1 : ByteArray) : Option (Bool) := if (a0.size : Int) ≥ (a1.size : Int) then (if 0 ≤ (a1.size : Int) then (if (a1.size : Int) ≤ (a0.size : Int) then (some ((a0.extract 0 ((a1.size : Int) : Int).toNat).toList == a1.toList)) else (none)) else (none)) else (some false)
set_option maxHeartbeats 8000000 in
set_option maxRecDepth 100000 in
theorem stringslite_HasPrefix.calls (a0 : ByteArray) (a1 : ByteArray) (r : Bool) (w : World) (h : stringslite_HasPrefix.f a0 a1 = some r) :
    Calls Try.prog 70 #[.string a0, .string a1] w fun e w' => e = .returned (.bool r) ∧ Drawn0 w w' := by
  have H : (if (a0.size : Int) ≥ (a1.size : Int) then (if 0 ≤ (a1.size : Int) then (if (a1.size : Int) ≤ (a0.size : Int) then (some ((a0.extract 0 ((a1.size : Int) : Int).toNat).toList == a1.toList)) else (none)) else (none)) else (some false)) = some r := h
  clear h
  by_cases c3 : (a0.size : Int) ≥ (a1.size : Int)
  · rw [if_pos c3] at H
    have c3b0 : decide ((a1.size : Int) ≤ (a0.size : Int)) = true := decide_eq_true c3
    have c3b1 : decide (a1.size ≤ a0.size) = true := decide_eq_true (Int.ofNat_le.mp c3)
    clear c3
    by_cases c4 : 0 ≤ (a1.size : Int)
    · rw [if_pos c4] at H
      have c4b0 := eq_true c4
      have c4b1 : decide (0 ≤ (a1.size : Int)) = true := decide_eq_true c4
      clear c4
      by_cases c5 : (a1.size : Int) ≤ (a0.size : Int)
      · rw [if_pos c5] at H
        have c5b0 := eq_true c5
        have c5b1 : decide ((a1.size : Int) ≤ (a0.size : Int)) = true := decide_eq_true c5
        clear c5
        obtain rfl := Option.some.inj H
        go_enter Try.func70, Try.ntmps70
        go_wp2
        go_ret
        exact ⟨by first | rfl | (simp; done) | (simp [*]; done), by repeat (first | exact Drawn0.refl _ | apply Drawn0.step)⟩
      · rw [if_neg c5] at H
        exact absurd H (by simp)
    · rw [if_neg c4] at H
      exact absurd H (by simp)
  · rw [if_neg c3] at H
    have c3b0 : decide ((a1.size : Int) ≤ (a0.size : Int)) = false := decide_eq_false c3
    have c3b1 : decide (a1.size ≤ a0.size) = false := decide_eq_false (fun h => c3 (Int.ofNat_le.mpr h))
    clear c3
    obtain rfl := Option.some.inj H
    go_enter Try.func70, Try.ntmps70
    go_wp2
    go_ret
    exact ⟨by first | rfl | (simp; done) | (simp [*]; done), by repeat (first | exact Drawn0.refl _ | apply Drawn0.step)⟩

/-! ### strings_HasPrefix: function 56 -/
def strings_HasPrefix.f (a0 : ByteArray) (a1 : ByteArray) : Option (Bool) := (stringslite_HasPrefix.f a0 a1).bind fun t133 => (some t133)
set_option maxHeartbeats 8000000 in
set_option maxRecDepth 100000 in
theorem strings_HasPrefix.calls (a0 : ByteArray) (a1 : ByteArray) (r : Bool) (w : World) (h : strings_HasPrefix.f a0 a1 = some r) :
    Calls Try.prog 56 #[.string a0, .string a1] w fun e w' => e = .returned (.bool r) ∧ Drawn0 w w' := by
  have H : ((stringslite_HasPrefix.f a0 a1).bind fun t133 => (some t133)) = some r := h
  clear h
  replace H := Option.bind_eq_some_iff.mp H
  obtain ⟨t133, A30, H⟩ := H
  replace H : (some t133) = some r := H
  have A3 := Aside0.mk A30
  clear A30
  obtain rfl := Option.some.inj H
  go_enter Try.func56, Try.ntmps56
  go_wp2_with (first | ((with_reducible refine gate_callee (f := 70) rfl ?_); refine goesL_ (some 7) rfl rfl Try.func70 (by kernel_rfl) rfl #[.string a0, .string a1] rfl (by (try simp only [List.map_toArray, List.map_cons, List.map_nil]); first | done | rfl | (simp only [List.length_drop, List.length_take]; rfl)) ?_; (with_reducible refine (stringslite_HasPrefix.calls a0 a1 t133 _ A3.out).mono ?_); rintro e w' ⟨rfl, ⟨nd, rfl⟩⟩; refine ⟨_, rfl, ?_⟩))
  go_ret
  exact ⟨by first | rfl | (simp; done) | (simp [*]; done), by repeat (first | exact Drawn0.refl _ | apply Drawn0.step)⟩

end Go.Proofs.Ytfpdmmpjoejmiaa.OCalls
