/- This text proves, for each Go function named below, which plain Lean function its call computes, in whatever memory; a program of this session has written it. -/
import Derived.Test.YthimngabaliapaaOSevenx0
import Derived.Test.YthimngabaliapaaOSevenx1
import Derived.Test.YthimngabaliapaaOSevenx2
import Derived.Test.YthimngabaliapaaOSevenx3
import Derived.Test.YthimngabaliapaaOSevenx7
namespace Go.Proofs.Ythimngabaliapaa.OSeven
open Go.RowKit Go.Proofs.YthimngabaliapaaW.PrintWords Go.Proofs.YthimngabaliapaaW.PrintLast Go.Proofs.YthimngabaliapaaW.PrintMore
attribute [local go_sem] max2_int min2_int max_two min_two max_three min_three max_four min_four   -- for this text's walks alone
set_option linter.unusedVariables false
set_option linter.unusedSimpArgs false

/-! ### label_Text: function 54 -/
mutual
def label_Text.l0 : Nat → List Int → List Int → Int → Int → Option (ByteArray × Int)
  | 0, _, _, _, _ => none
  | k + 1, x5, x14, x15, x16 => if x16 < x15 then (if 0 ≤ x16 then (if x16 < (x14.length : Int) then (if (rd x14 x16) = 46 then (label_Text.j1 k x5 (rd x14 x16) x14 x15 x16 true) else (label_Text.j1 k x5 (rd x14 x16) x14 x15 x16 ((rd x14 x16) == 92))) else (none)) else (none)) else (some (strOfNums x5, 0))
def label_Text.j1 : Nat → List Int → Int → List Int → Int → Int → Bool → Option (ByteArray × Int)
  | 0, _, _, _, _, _, _ => none
  | k + 1, x5, x7, x14, x15, x16, x32 => if x32 = true then ((some (([92, x7] : List Int) : List Int)).bind fun y241 => (if x5.length + y241.length < 140737488355328 then (label_Text.l0 k (x5 ++ y241) x14 x15 (wrap64 (x16 + 1))) else (none))) else ((label_plain.f x7).bind fun t247 => (if t247 = true then (if x5.length < 140737488355328 then (label_Text.l0 k (x5 ++ [x7]) x14 x15 (wrap64 (x16 + 1))) else (none)) else (if x5.length < 140737488355328 then ((label_digits.f k (x5 ++ [92]) (([(Int.tdiv x7 100) % 256, ((Int.tdiv x7 10) % 256) % 10, Int.tmod x7 10] : List Int))).bind fun t257 => (label_Text.l0 k t257 x14 x15 (wrap64 (x16 + 1)))) else (none))))
end
def label_Text.f (k : Nat) (a0 : ByteArray) : Option (ByteArray × Int) := (label_Check.f a0).bind fun t235 => (if t235 = 0 then (if a0.size ≤ 9223372036854775807 then ((some (bytesOf a0 : List Int)).bind fun y236 => (label_Text.l0 k ([] : List Int) y236 (y236.length : Int) 0)) else (none)) else (some ((⟨#[]⟩ : ByteArray), t235)))
theorem label_Text.mono_l : ∀ k, (∀ y0 y1 y2 y3, LeO (label_Text.l0 k y0 y1 y2 y3) (label_Text.l0 (k + 1) y0 y1 y2 y3)) ∧ (∀ y0 y1 y2 y3 y4 y5, LeO (label_Text.j1 k y0 y1 y2 y3 y4 y5) (label_Text.j1 (k + 1) y0 y1 y2 y3 y4 y5))
  | 0 => ⟨fun _ _ _ _ r h => by simp [label_Text.l0] at h, fun _ _ _ _ _ _ r h => by simp [label_Text.j1] at h⟩
  | k + 1 => by
    obtain ⟨ih0, ih1⟩ := label_Text.mono_l k
    refine ⟨?_, ?_⟩
    · intro y0 y1 y2 y3
      unfold label_Text.l0
      repeat' first
      | (with_reducible exact ih0 _ _ _ _)
      | (with_reducible exact ih1 _ _ _ _ _ _)
      | (with_reducible exact label_digits.mono _ _ _)
      | (with_reducible exact LeO.refl _)
      | (with_reducible exact LeO.none _)
      | (with_reducible refine LeO.ite ?_ ?_)
      | (with_reducible refine LeO.bind ?_ (fun _ => ?_))
      | exact ih0 _ _ _ _
      | exact ih1 _ _ _ _ _ _
      | exact label_digits.mono _ _ _
      | exact LeO.none _
      | refine LeO.ite ?_ ?_
      | refine LeO.bind ?_ (fun _ => ?_)
    · intro y0 y1 y2 y3 y4 y5
      unfold label_Text.j1
      repeat' first
      | (with_reducible exact ih0 _ _ _ _)
      | (with_reducible exact ih1 _ _ _ _ _ _)
      | (with_reducible exact label_digits.mono _ _ _)
      | (with_reducible exact LeO.refl _)
      | (with_reducible exact LeO.none _)
      | (with_reducible refine LeO.ite ?_ ?_)
      | (with_reducible refine LeO.bind ?_ (fun _ => ?_))
      | exact ih0 _ _ _ _
      | exact ih1 _ _ _ _ _ _
      | exact label_digits.mono _ _ _
      | exact LeO.none _
      | refine LeO.ite ?_ ?_
      | refine LeO.bind ?_ (fun _ => ?_)
theorem label_Text.mono : ∀ a0 k, LeO (label_Text.f k a0) (label_Text.f (k + 1) a0) := by
  intro a0 k
  obtain ⟨ih0, ih1⟩ := label_Text.mono_l k
  unfold label_Text.f
  repeat' first
      | (with_reducible exact ih0 _ _ _ _)
      | (with_reducible exact ih1 _ _ _ _ _ _)
      | (with_reducible exact label_digits.mono _ _ _)
      | (with_reducible exact LeO.refl _)
      | (with_reducible exact LeO.none _)
      | (with_reducible refine LeO.ite ?_ ?_)
      | (with_reducible refine LeO.bind ?_ (fun _ => ?_))
      | exact ih0 _ _ _ _
      | exact ih1 _ _ _ _ _ _
      | exact label_digits.mono _ _ _
      | exact LeO.none _
      | refine LeO.ite ?_ ?_
      | refine LeO.bind ?_ (fun _ => ?_)
set_option maxHeartbeats 8000000 in
set_option maxRecDepth 100000 in
theorem label_Text.calls (k : Nat) (a0 : ByteArray) (r1 : ByteArray) (r2 : Int) (w : World) (h : label_Text.f k a0 = some (r1, r2)) :
    Calls Try.prog 54 #[.string a0] w fun e w' => e = .returned (.tuple #[.string r1, .int .i64 r2]) ∧ Below w.heap.size w w' := by
  have HB := Aside0.mk (Below.refl w.heap.size w)
  have H : ((label_Check.f a0).bind fun t235 => (if t235 = 0 then (if a0.size ≤ 9223372036854775807 then ((some (bytesOf a0 : List Int)).bind fun y236 => (label_Text.l0 k ([] : List Int) y236 (y236.length : Int) 0)) else (none)) else (some ((⟨#[]⟩ : ByteArray), t235)))) = some (r1, r2) := h
  clear h
  replace H := Option.bind_eq_some_iff.mp H
  obtain ⟨t235, A20, H⟩ := H
  replace H : (if t235 = 0 then (if a0.size ≤ 9223372036854775807 then ((some (bytesOf a0 : List Int)).bind fun y236 => (label_Text.l0 k ([] : List Int) y236 (y236.length : Int) 0)) else (none)) else (some ((⟨#[]⟩ : ByteArray), t235))) = some (r1, r2) := H
  have A2 := Aside0.mk A20
  clear A20
  by_cases c3 : t235 = 0
  · rw [if_pos c3] at H
    have c3b0 : (t235 == 0) = true := beq_iff_eq.mpr c3
    have c3b1 : (t235 != 0) = false := bne_eq_false_iff_eq.mpr c3
    clear c3
    by_cases c4 : a0.size ≤ 9223372036854775807
    · rw [if_pos c4] at H
      have c4b0 := eq_true c4
      have c4b1 : decide (a0.size ≤ 9223372036854775807) = true := decide_eq_true c4
      try have c4b2 : (9223372036854775807 < a0.size) = False := eq_false (Nat.not_lt.2 c4)
      clear c4
      obtain ⟨y236, hy236⟩ : ∃ y_ : List Int, y_ = (bytesOf a0) := ⟨_, rfl⟩
      replace H : (label_Text.l0 k ([] : List Int) y236 (y236.length : Int) 0) = some (r1, r2) := by first | (rw [hy236]; with_reducible exact H) | (have H2_ := (Option.bind_some _ _).symm.trans H; rw [hy236]; with_reducible exact H2_) | (have H2_ := (Option.bind_some _ _).symm.trans H; with_reducible exact H2_) | with_reducible exact H | (rw [hy236]; exact H) | exact H
      have Ny236 := Aside0.mk hy236
      clear hy236
      have H' := Aside0.mk H
      clear H
      go_enter Try.func54, Try.ntmps54
      go_wp2_with (first | ((with_reducible refine gate_callee (f := 49) rfl ?_); refine goesL_ (some 9) rfl rfl Try.func49 (by kernel_rfl) rfl #[.string a0] rfl (by (try simp only [List.map_toArray, List.map_cons, List.map_nil]); first | done | rfl | (simp only [List.length_drop, List.length_take]; rfl)) ?_; (with_reducible refine (label_Check.calls a0 t235 _ A2.out).mono ?_); rintro e w' ⟨rfl, ⟨nd, rfl⟩⟩; refine ⟨_, rfl, ?_⟩) | ((with_reducible refine gate_dst (N := 14) rfl ?_); refine conv_event (src := 9) (dst := 60) (e := 5) (s := a0) (w := w) rfl (N := 14) rfl Try.underlying9 Try.underlying60 Try.underlying5 ?cvr ?cvs (by repeat (first | (with_reducible first | exact HB.out | apply below_alloc | apply pw_below_drewN | apply below_drew1) | exact HB.out)) ?_; (case cvr => intro kb_; first | (go_simp; done) | (go_simp; rfl)); (case cvs => first | omega | exact of_decide_eq_true (by assumption)); intro A239 c239 w1_239 hC hc hb; rw [← Ny236.out] at hC hc ⊢; have HBP239 := Aside0.mk hb; clear HB hb; have HB := Aside0.mk (Below.refl w1_239.heap.size w1_239); have HR239 := Aside0.mk hC; have HC239 := Aside0.mk hc; clear hC hc))
      go_loopg [5, 16] k (fun kq v5 v16 w' => ∃ (x5_1 : List Int) (x16_1 : Int), v16 = .int .i64 x16_1 ∧ Aside0 (label_Text.l0 kq x5_1 y236 (y236.length : Int) x16_1 = some (r1, r2)) ∧ Aside0 (kq ≤ k) ∧ Aside0 (Kd.R (Kd.int .u8) 5 w' w1_239.heap.size (fun _ => True) v5 x5_1) ∧ Aside0 (Below w1_239.heap.size w1_239 w'))
      case atStart => exact ⟨(([] : List Int)), (0), (by first | rfl | (simp; done) | (simp [*]; done)), H', ⟨Nat.le_refl _⟩, ⟨by first | exact Kd.R_nil _ _ _ _ _ | exact Kd.N_nil _ _ _ _ _ | exact Kd.V_nil _ _ _ _ _ | exact Kd.Q_nil _ _ _ _ _ | exact Kd.S_nil _ _ _ _ _⟩, ⟨by repeat (first | (with_reducible first | exact HB.out | apply below_alloc | apply pw_below_drewN | apply below_drew1) | exact HB.out)⟩⟩
      case round =>
        clear H'
        try clear c2
        try clear p2
        try clear c3
        try clear c3b0
        try clear c3b1
        try clear c4
        try clear c4b0
        try clear c4b1
        try clear c4b2
        obtain ⟨x5_1, x16_1, rfl, HA, HK1, HO_5, HB⟩ := hrel
        cases gk with
        | zero => exact absurd HA.out (by simp [label_Text.l0])
        | succ k1 =>
          have H := HA.out
          clear HA
          simp only [label_Text.l0] at H
          by_cases c5 : x16_1 < (y236.length : Int)
          · rw [if_pos c5] at H
            have c5b0 : decide (x16_1 < (y236.length : Int)) = true := decide_eq_true c5
            clear c5
            by_cases c6 : 0 ≤ x16_1
            · rw [if_pos c6] at H
              have c6b0 : decide (0 ≤ x16_1) = true := decide_eq_true c6
              clear c6
              by_cases c7 : x16_1 < (y236.length : Int)
              · rw [if_pos c7] at H
                have c7b0 : decide (x16_1 < (y236.length : Int)) = true := decide_eq_true c7
                clear c7
                have HC8 := Aside0.mk H
                clear H
                have p240 : 0 ≤ (x16_1 : Int) := of_decide_eq_true (by first | (with_reducible assumption) | assumption)
                have q240 : x16_1 < (y236.length : Int) := of_decide_eq_true (by first | (with_reducible assumption) | assumption)
                obtain ⟨ad240, e240, hx240_0⟩ := Kd.at_int HR239.out x16_1 p240 q240
                cases e240
                replace hx240_0 := (HB.out.cell (World.block_lt_of_cell? w1_239 _ hx240_0)).trans hx240_0
                replace p240 := eq_true p240
                replace q240 := eq_true q240
                go_upto_region 9 with (fail)
                go_cut [32] (fun v32 wc => ∃ (kq : Nat) (x32_7 : Bool), v32 = .bool x32_7 ∧ Aside0 (label_Text.j1 kq x5_1 (rd y236 x16_1) y236 (y236.length : Int) x16_1 x32_7 = some (r1, r2)) ∧ Aside0 (kq ≤ k1) ∧ Aside0 (Kd.R (Kd.int .u8) 5 wc w1_239.heap.size (fun _ => True) u5 x5_1) ∧ Aside0 (Below w1_239.heap.size w1_239 wc))
                case first =>
                  have H := HC8.out
                  clear HC8
                  by_cases c9 : (rd y236 x16_1) = 46
                  · rw [if_pos c9] at H
                    have c9b0 : ((rd y236 x16_1) == 46) = true := beq_iff_eq.mpr c9
                    have c9b1 : ((rd y236 x16_1) != 46) = false := bne_eq_false_iff_eq.mpr c9
                    clear c9
                    (first | rw [c9b0] | (simp only [i64_w, i32_w]; rw [c9b0]) | skip)
                    have H' := Aside0.mk H
                    clear H
                    go_wp2
                    go_meet
                    case rel => exact ⟨_, (true), (by first | rfl | (simp; done) | (simp [*]; done)), H', ⟨by have := HK1.out; first | omega | exact Nat.le_refl _⟩, ⟨by (with_reducible repeat (first | apply Kd.R_alloc | apply Kd.R_drewN | apply Kd.R_drew)); exact HO_5.out⟩, ⟨by repeat (first | (with_reducible first | exact HB.out | apply below_alloc | apply pw_below_drewN | apply below_drew1) | exact HB.out)⟩⟩
                  · rw [if_neg c9] at H
                    have c9b0 : ((rd y236 x16_1) == 46) = false := beq_eq_false_iff_ne.mpr c9
                    have c9b1 : ((rd y236 x16_1) != 46) = true := bne_iff_ne.mpr c9
                    (first | rw [c9b0] | (simp only [i64_w, i32_w]; rw [c9b0]) | skip)
                    have H' := Aside0.mk H
                    clear H
                    go_wp2
                    go_meet
                    case rel => exact ⟨_, (((rd y236 x16_1) == 92)), (by first | rfl | (simp; done) | (simp [*]; done)), H', ⟨by have := HK1.out; first | omega | exact Nat.le_refl _⟩, ⟨by (with_reducible repeat (first | apply Kd.R_alloc | apply Kd.R_drewN | apply Kd.R_drew)); exact HO_5.out⟩, ⟨by repeat (first | (with_reducible first | exact HB.out | apply below_alloc | apply pw_below_drewN | apply below_drew1) | exact HB.out)⟩⟩
                case rest =>
                  clear HC8
                  try clear c2
                  try clear p2
                  try clear q2
                  try clear hx2
                  try clear c3
                  try clear c3b0
                  try clear c3b1
                  try clear c4
                  try clear c4b0
                  try clear c4b1
                  try clear c4b2
                  try clear c5
                  try clear c5b0
                  try clear c6
                  try clear c6b0
                  try clear c7
                  try clear c7b0
                  try clear c9
                  try clear c9b0
                  try clear c9b1
                  try clear hx240_0
                  try clear p2
                  try clear p240
                  try clear q240
                  obtain ⟨kq, x32_7, rfl, HA, HJ7, HO_5, HB⟩ := hcut
                  cases kq with
                  | zero => exact absurd HA.out (by simp [label_Text.j1])
                  | succ kj7 =>
                    have H := HA.out
                    clear HA
                    simp only [label_Text.j1] at H
                    by_cases c10 : x32_7 = true
                    · subst c10
                      have H1 : ((some (([92, (rd y236 x16_1)] : List Int) : List Int)).bind fun y241 => (if x5_1.length + y241.length < 140737488355328 then (label_Text.l0 kj7 (x5_1 ++ y241) y236 (y236.length : Int) (wrap64 (x16_1 + 1))) else (none))) = some (r1, r2) := by rw [if_pos rfl] at H; exact H
                      clear H
                      have H := H1
                      clear H1
                      obtain ⟨y241, hy241⟩ : ∃ y_ : List Int, y_ = (([92, (rd y236 x16_1)] : List Int)) := ⟨_, rfl⟩
                      replace H : (if x5_1.length + y241.length < 140737488355328 then (label_Text.l0 kj7 (x5_1 ++ y241) y236 (y236.length : Int) (wrap64 (x16_1 + 1))) else (none)) = some (r1, r2) := by first | (rw [hy241]; with_reducible exact H) | (have H2_ := (Option.bind_some _ _).symm.trans H; rw [hy241]; with_reducible exact H2_) | (have H2_ := (Option.bind_some _ _).symm.trans H; with_reducible exact H2_) | with_reducible exact H | (rw [hy241]; exact H) | exact H
                      have Ny241 := Aside0.mk hy241
                      clear hy241
                      by_cases c11 : x5_1.length + y241.length < 140737488355328
                      · rw [if_pos c11] at H
                        have LMc11 := Aside0.mk c11
                        clear c11
                        obtain ⟨y244, hy244⟩ : ∃ y_ : List Int, y_ = (x5_1 ++ y241) := ⟨_, rfl⟩
                        replace H : (label_Text.l0 kj7 y244 y236 (y236.length : Int) (wrap64 (x16_1 + 1))) = some (r1, r2) := by first | (rw [hy244]; with_reducible exact H) | (have H2_ := (Option.bind_some _ _).symm.trans H; rw [hy244]; with_reducible exact H2_) | (have H2_ := (Option.bind_some _ _).symm.trans H; with_reducible exact H2_) | with_reducible exact H | (rw [hy244]; exact H) | exact H
                        have Ny244 := Aside0.mk hy244
                        clear hy244
                        have H' := Aside0.mk H
                        clear H
                        go_wp2_with (first | ((with_reducible refine gate_dst (N := 41) rfl ?_); refine Kd.R_lit (Kd.int .u8) _ 5 ?hg (N := 41) ?hd (xs := ([92, (rd y236 x16_1)] : List Int)) (inner := [.int .u8 92, .int .u8 (rd y236 x16_1)]) (ok := fun _ => True) (okp := fun _ => True) ?hr ?hp (fun _ hk => hk) trivial (Below.refl _ _) (Nat.le_refl _) (by simp) ?_; (case hd => rfl); (case hg => rfl); (case hr => first | (go_simp; done) | (go_simp; rfl)); (case hp => exact (Reps.one (show Kd.M (Kd.int .u8) _ _ _ 92 [.int .u8 92] from rfl) (Reps.one (show Kd.M (Kd.int .u8) _ _ _ (rd y236 x16_1) [.int .u8 (rd y236 x16_1)] from rfl) (Reps.none _ _)))); intro v242 w12 ho13 hb hg_ hnew_; clear hg_ hnew_; (first | rw [← Ny241.out] at ho13 | (simp only [Int.reduceToNat] at ho13; rw [← Ny241.out] at ho13)); have n0_ := Aside0.mk (Kd.R_elder' (by (with_reducible repeat (first | apply Kd.R_alloc | apply Kd.R_drewN | apply Kd.R_drew)); exact HO_5.out) (Kd.R_base ho13) hb); have n1_ := Aside0.mk (Kd.R_lower (Kd.R_new' ho13 (Kd.R_lt (by (with_reducible repeat (first | apply Kd.R_alloc | apply Kd.R_drewN | apply Kd.R_drew)); exact HO_5.out))) (below_size (by repeat (first | (with_reducible first | exact HB.out | apply below_alloc | apply pw_below_drewN | apply below_drew1) | exact HB.out)))); have n2_ := Aside0.mk (below_step (by repeat (first | (with_reducible first | exact HB.out | apply below_alloc | apply pw_below_drewN | apply below_drew1) | exact HB.out)) hb); clear HO_5; clear HB; have HO_5 := n0_; have HO243 := n1_; have HB := n2_; clear n0_ n1_ n2_; clear hb ho13; obtain ⟨Ao15, co15, eo15⟩ := Kd.R_slice HO243.out; subst eo15) | ((with_reducible refine gate_builtin (b := .append) (xs := #[.tmp 39, .tmp 41]) rfl ?_); at_builtin; refine Kd.R_append_rows (Kd.int .u8) (w0 := w1_239) w1_239.heap.size rfl (.tmp 39) (.tmp 41) 60 5 (.int .u8 0) 1 rfl Try.underlying60 info5 rfl (by decide) (by omega) u5 x5_1 y241 _ _ _ (fun k_ => some k_ ≠ (.slice Ao15 y241.length co15 : Value).ownBlock) (fun _ => False) rfl rfl ?aO ?aR (fun _ _ h => h) (fun _ h => h.elim) ?aF ?aB ?aS ?aL ?_; (case aR => repeat (first | exact (Kd.R_reads' HO243.out).2.2 | (with_reducible refine Kd.C_alloc ?_ _) | (with_reducible refine Kd.C_drewN ?_ _) | (with_reducible refine Kd.C_drew ?_))); (case aB => exact (by repeat (first | (with_reducible first | exact HB.out | apply below_alloc | apply pw_below_drewN | apply below_drew1) | exact HB.out))); (case aF => exact (fun k_ hk => Kd.fresh' (Kd.R_lt (by (with_reducible repeat (first | apply Kd.R_alloc | apply Kd.R_drewN | apply Kd.R_drew)); exact HO243.out)) k_ hk)); (case aO => exact (by (with_reducible repeat (first | apply Kd.R_alloc | apply Kd.R_drewN | apply Kd.R_drew)); exact Kd.R_mono HO_5.out (fun _ hk => hk.2))); (case aS => exact (below_size (by repeat (first | (with_reducible first | exact HB.out | apply below_alloc | apply pw_below_drewN | apply below_drew1) | exact HB.out)))); (case aL => have := LMc11.out; omega); intro v245 w14 ho hb hg hat; rw [← Ny244.out] at ho; have n0_ := Aside0.mk (Kd.R_after (ok := (fun _ => True)) (by (with_reducible repeat (first | apply Kd.R_alloc | apply Kd.R_drewN | apply Kd.R_drew)); exact HO243.out) hg hat); have n1_ := Aside0.mk (hb); have n2_ := Aside0.mk (ho); clear HO243; clear HB; clear HO_5; have HO243 := n0_; have HB := n1_; have HO246 := n2_; clear n0_ n1_ n2_; clear ho hb hg hat))
                        go_roundg kj7
                        case measure => have := HK1.out; have := HJ7.out; omega
                        case rel => exact ⟨(y244), (wrap64 (x16_1 + 1)), (by first | rfl | (simp; done) | (simp [*]; done)), H', ⟨by have := HK1.out; have := HJ7.out; omega⟩, ⟨by (with_reducible repeat (first | apply Kd.R_alloc | apply Kd.R_drewN | apply Kd.R_drew)); exact Kd.R_mono HO246.out (fun _ hk => trivial)⟩, ⟨by repeat (first | (with_reducible first | exact HB.out | apply below_alloc | apply pw_below_drewN | apply below_drew1) | exact HB.out)⟩⟩
                      · rw [if_neg c11] at H
                        exact absurd H (by simp)
                    · replace c10 := Bool.eq_false_iff.mpr c10
                      subst c10
                      have H1 : ((label_plain.f (rd y236 x16_1)).bind fun t247 => (if t247 = true then (if x5_1.length < 140737488355328 then (label_Text.l0 kj7 (x5_1 ++ [(rd y236 x16_1)]) y236 (y236.length : Int) (wrap64 (x16_1 + 1))) else (none)) else (if x5_1.length < 140737488355328 then ((label_digits.f kj7 (x5_1 ++ [92]) (([(Int.tdiv (rd y236 x16_1) 100) % 256, ((Int.tdiv (rd y236 x16_1) 10) % 256) % 10, Int.tmod (rd y236 x16_1) 10] : List Int))).bind fun t257 => (label_Text.l0 kj7 t257 y236 (y236.length : Int) (wrap64 (x16_1 + 1)))) else (none)))) = some (r1, r2) := by rw [if_neg (show ¬ (false = true) by decide)] at H; exact H
                      clear H
                      have H := H1
                      clear H1
                      replace H := Option.bind_eq_some_iff.mp H
                      obtain ⟨t247, A160, H⟩ := H
                      replace H : (if t247 = true then (if x5_1.length < 140737488355328 then (label_Text.l0 kj7 (x5_1 ++ [(rd y236 x16_1)]) y236 (y236.length : Int) (wrap64 (x16_1 + 1))) else (none)) else (if x5_1.length < 140737488355328 then ((label_digits.f kj7 (x5_1 ++ [92]) (([(Int.tdiv (rd y236 x16_1) 100) % 256, ((Int.tdiv (rd y236 x16_1) 10) % 256) % 10, Int.tmod (rd y236 x16_1) 10] : List Int))).bind fun t257 => (label_Text.l0 kj7 t257 y236 (y236.length : Int) (wrap64 (x16_1 + 1)))) else (none))) = some (r1, r2) := H
                      have A16 := Aside0.mk A160
                      clear A160
                      by_cases c17 : t247 = true
                      · subst c17
                        have H1 : (if x5_1.length < 140737488355328 then (label_Text.l0 kj7 (x5_1 ++ [(rd y236 x16_1)]) y236 (y236.length : Int) (wrap64 (x16_1 + 1))) else (none)) = some (r1, r2) := by rw [if_pos rfl] at H; exact H
                        clear H
                        have H := H1
                        clear H1
                        by_cases c18 : x5_1.length < 140737488355328
                        · rw [if_pos c18] at H
                          have LMc18 := Aside0.mk c18
                          clear c18
                          obtain ⟨y248, hy248⟩ : ∃ y_ : List Int, y_ = (x5_1 ++ [(rd y236 x16_1)]) := ⟨_, rfl⟩
                          replace H : (label_Text.l0 kj7 y248 y236 (y236.length : Int) (wrap64 (x16_1 + 1))) = some (r1, r2) := by first | (rw [hy248]; with_reducible exact H) | (have H2_ := (Option.bind_some _ _).symm.trans H; rw [hy248]; with_reducible exact H2_) | (have H2_ := (Option.bind_some _ _).symm.trans H; with_reducible exact H2_) | with_reducible exact H | (rw [hy248]; exact H) | exact H
                          have Ny248 := Aside0.mk hy248
                          clear hy248
                          have H' := Aside0.mk H
                          clear H
                          go_wp2_with (first | ((with_reducible refine gate_callee (f := 72) rfl ?_); refine goesL_ (some 45) rfl rfl Try.func72 (by kernel_rfl) rfl #[.int .u8 (rd y236 x16_1)] rfl (by (try simp only [List.map_toArray, List.map_cons, List.map_nil]); first | done | rfl | (simp only [List.length_drop, List.length_take]; rfl)) ?_; (with_reducible refine (label_plain.calls (rd y236 x16_1) true _ A16.out).mono ?_); rintro e w' ⟨rfl, ⟨nd, rfl⟩⟩; refine ⟨_, rfl, ?_⟩) | ((with_reducible refine gate_builtin (b := .append) (xs := #[.tmp 46, .tmp 48]) rfl ?_); at_builtin; refine Kd.R_append (Kd.int .u8) (w0 := w1_239) w1_239.heap.size rfl (.tmp 46) (.tmp 48) 60 5 (.int .u8 0) 1 rfl Try.underlying60 info5 rfl (by decide) (by omega) u5 x5_1 (rd y236 x16_1) [.int .u8 (rd y236 x16_1)] (fun _ => True) (fun _ => False) rfl rfl ?aP (fun _ hk => hk.elim) ?aF ?aO ?aB ?aS ?aL ?_; (case aP => exact rfl); (case aB => exact (by repeat (first | (with_reducible first | exact HB.out | apply below_alloc | apply pw_below_drewN | apply below_drew1) | exact HB.out))); (case aF => exact (fun _ _ => trivial)); (case aO => exact (by (with_reducible repeat (first | apply Kd.R_alloc | apply Kd.R_drewN | apply Kd.R_drew)); exact HO_5.out)); (case aS => exact (below_size (by repeat (first | (with_reducible first | exact HB.out | apply below_alloc | apply pw_below_drewN | apply below_drew1) | exact HB.out)))); (case aL => have := LMc18.out; omega); intro v249 w19 ho hb hg hat; rw [← Ny248.out] at ho; have n0_ := Aside0.mk (hb); have n1_ := Aside0.mk (ho); clear HB; clear HO_5; have HB := n0_; have HO250 := n1_; clear n0_ n1_; clear ho hb hg hat))
                          go_roundg kj7
                          case measure => have := HK1.out; have := HJ7.out; omega
                          case rel => exact ⟨(y248), (wrap64 (x16_1 + 1)), (by first | rfl | (simp; done) | (simp [*]; done)), H', ⟨by have := HK1.out; have := HJ7.out; omega⟩, ⟨by (with_reducible repeat (first | apply Kd.R_alloc | apply Kd.R_drewN | apply Kd.R_drew)); exact HO250.out⟩, ⟨by repeat (first | (with_reducible first | exact HB.out | apply below_alloc | apply pw_below_drewN | apply below_drew1) | exact HB.out)⟩⟩
                        · rw [if_neg c18] at H
                          exact absurd H (by simp)
                      · replace c17 := Bool.eq_false_iff.mpr c17
                        subst c17
                        have H1 : (if x5_1.length < 140737488355328 then ((label_digits.f kj7 (x5_1 ++ [92]) (([(Int.tdiv (rd y236 x16_1) 100) % 256, ((Int.tdiv (rd y236 x16_1) 10) % 256) % 10, Int.tmod (rd y236 x16_1) 10] : List Int))).bind fun t257 => (label_Text.l0 kj7 t257 y236 (y236.length : Int) (wrap64 (x16_1 + 1)))) else (none)) = some (r1, r2) := by rw [if_neg (show ¬ (false = true) by decide)] at H; exact H
                        clear H
                        have H := H1
                        clear H1
                        by_cases c20 : x5_1.length < 140737488355328
                        · rw [if_pos c20] at H
                          have LMc20 := Aside0.mk c20
                          clear c20
                          obtain ⟨y251, hy251⟩ : ∃ y_ : List Int, y_ = (x5_1 ++ [92]) := ⟨_, rfl⟩
                          replace H : ((label_digits.f kj7 y251 (([(Int.tdiv (rd y236 x16_1) 100) % 256, ((Int.tdiv (rd y236 x16_1) 10) % 256) % 10, Int.tmod (rd y236 x16_1) 10] : List Int))).bind fun t257 => (label_Text.l0 kj7 t257 y236 (y236.length : Int) (wrap64 (x16_1 + 1)))) = some (r1, r2) := by first | (rw [hy251]; with_reducible exact H) | (have H2_ := (Option.bind_some _ _).symm.trans H; rw [hy251]; with_reducible exact H2_) | (have H2_ := (Option.bind_some _ _).symm.trans H; with_reducible exact H2_) | with_reducible exact H | (rw [hy251]; exact H) | exact H
                          have Ny251 := Aside0.mk hy251
                          clear hy251
                          obtain ⟨y254, hy254⟩ : ∃ y_ : List Int, y_ = (([(Int.tdiv (rd y236 x16_1) 100) % 256, ((Int.tdiv (rd y236 x16_1) 10) % 256) % 10, Int.tmod (rd y236 x16_1) 10] : List Int)) := ⟨_, rfl⟩
                          replace H : ((label_digits.f kj7 y251 y254).bind fun t257 => (label_Text.l0 kj7 t257 y236 (y236.length : Int) (wrap64 (x16_1 + 1)))) = some (r1, r2) := by first | (rw [hy254]; with_reducible exact H) | (have H2_ := (Option.bind_some _ _).symm.trans H; rw [hy254]; with_reducible exact H2_) | (have H2_ := (Option.bind_some _ _).symm.trans H; with_reducible exact H2_) | with_reducible exact H | (rw [hy254]; exact H) | exact H
                          have Ny254 := Aside0.mk hy254
                          clear hy254
                          replace H := Option.bind_eq_some_iff.mp H
                          obtain ⟨t257, A210, H⟩ := H
                          replace H : (label_Text.l0 kj7 t257 y236 (y236.length : Int) (wrap64 (x16_1 + 1))) = some (r1, r2) := H
                          have A21 := Aside0.mk A210
                          clear A210
                          have H' := Aside0.mk H
                          clear H
                          go_wp2_with (first | ((with_reducible refine gate_callee (f := 72) rfl ?_); refine goesL_ (some 45) rfl rfl Try.func72 (by kernel_rfl) rfl #[.int .u8 (rd y236 x16_1)] rfl (by (try simp only [List.map_toArray, List.map_cons, List.map_nil]); first | done | rfl | (simp only [List.length_drop, List.length_take]; rfl)) ?_; (with_reducible refine (label_plain.calls (rd y236 x16_1) false _ A16.out).mono ?_); rintro e w' ⟨rfl, ⟨nd, rfl⟩⟩; refine ⟨_, rfl, ?_⟩) | ((with_reducible refine gate_builtin (b := .append) (xs := #[.tmp 20, .tmp 21]) rfl ?_); at_builtin; refine Kd.R_append (Kd.int .u8) (w0 := w1_239) w1_239.heap.size rfl (.tmp 20) (.tmp 21) 60 5 (.int .u8 0) 1 rfl Try.underlying60 info5 rfl (by decide) (by omega) u5 x5_1 92 [.int .u8 92] (fun _ => True) (fun _ => False) rfl rfl ?aP (fun _ hk => hk.elim) ?aF ?aO ?aB ?aS ?aL ?_; (case aP => exact rfl); (case aB => exact (by repeat (first | (with_reducible first | exact HB.out | apply below_alloc | apply pw_below_drewN | apply below_drew1) | exact HB.out))); (case aF => exact (fun _ _ => trivial)); (case aO => exact (by (with_reducible repeat (first | apply Kd.R_alloc | apply Kd.R_drewN | apply Kd.R_drew)); exact HO_5.out)); (case aS => exact (below_size (by repeat (first | (with_reducible first | exact HB.out | apply below_alloc | apply pw_below_drewN | apply below_drew1) | exact HB.out)))); (case aL => have := LMc20.out; omega); intro v252 w22 ho hb hg hat; rw [← Ny251.out] at ho; have n0_ := Aside0.mk (hb); have n1_ := Aside0.mk (ho); clear HB; clear HO_5; have HB := n0_; have HO253 := n1_; clear n0_ n1_; clear ho hb hg hat) | ((with_reducible refine gate_dst (N := 30) rfl ?_); refine Kd.R_lit (Kd.int .u8) _ 5 ?hg (N := 30) ?hd (xs := ([(Int.tdiv (rd y236 x16_1) 100) % 256, ((Int.tdiv (rd y236 x16_1) 10) % 256) % 10, Int.tmod (rd y236 x16_1) 10] : List Int)) (inner := [.int .u8 ((Int.tdiv (rd y236 x16_1) 100) % 256), .int .u8 (((Int.tdiv (rd y236 x16_1) 10) % 256) % 10), .int .u8 (Int.tmod (rd y236 x16_1) 10)]) (ok := fun _ => True) (okp := fun _ => True) ?hr ?hp (fun _ hk => hk) trivial (Below.refl _ _) (Nat.le_refl _) (by simp) ?_; (case hd => rfl); (case hg => rfl); (case hr => first | (go_simp; done) | (go_simp; rfl)); (case hp => exact (Reps.one (show Kd.M (Kd.int .u8) _ _ _ ((Int.tdiv (rd y236 x16_1) 100) % 256) [.int .u8 ((Int.tdiv (rd y236 x16_1) 100) % 256)] from rfl) (Reps.one (show Kd.M (Kd.int .u8) _ _ _ (((Int.tdiv (rd y236 x16_1) 10) % 256) % 10) [.int .u8 (((Int.tdiv (rd y236 x16_1) 10) % 256) % 10)] from rfl) (Reps.one (show Kd.M (Kd.int .u8) _ _ _ (Int.tmod (rd y236 x16_1) 10) [.int .u8 (Int.tmod (rd y236 x16_1) 10)] from rfl) (Reps.none _ _))))); intro v255 w23 ho24 hb hg_ hnew_; clear hg_ hnew_; (first | rw [← Ny254.out] at ho24 | (simp only [Int.reduceToNat] at ho24; rw [← Ny254.out] at ho24)); have n0_ := Aside0.mk (Kd.R_elder' (by (with_reducible repeat (first | apply Kd.R_alloc | apply Kd.R_drewN | apply Kd.R_drew)); exact HO253.out) (Kd.R_base ho24) hb); have n1_ := Aside0.mk (Kd.R_lower (Kd.R_new' ho24 (Kd.R_lt (by (with_reducible repeat (first | apply Kd.R_alloc | apply Kd.R_drewN | apply Kd.R_drew)); exact HO253.out))) (below_size (by repeat (first | (with_reducible first | exact HB.out | apply below_alloc | apply pw_below_drewN | apply below_drew1) | exact HB.out)))); have n2_ := Aside0.mk (below_step (by repeat (first | (with_reducible first | exact HB.out | apply below_alloc | apply pw_below_drewN | apply below_drew1) | exact HB.out)) hb); clear HO253; clear HB; have HO253 := n0_; have HO256 := n1_; have HB := n2_; clear n0_ n1_ n2_; clear hb ho24; obtain ⟨Ao25, co25, eo25⟩ := Kd.R_slice HO253.out; subst eo25; obtain ⟨Ao26, co26, eo26⟩ := Kd.R_slice HO256.out; subst eo26) | ((with_reducible refine gate_callee (f := 73) rfl ?_); refine goesL_ (some 31) rfl rfl Try.func73 (by kernel_rfl) rfl #[.slice Ao25 y251.length co25, .slice Ao26 y254.length co26] rfl (by (try simp only [List.map_toArray, List.map_cons, List.map_nil]); first | done | rfl | (simp only [List.length_drop, List.length_take]; rfl)) ?_; (with_reducible refine (label_digits.calls kj7 (fun k_ => some k_ = (.slice Ao25 y251.length co25 : Value).ownBlock) (.slice Ao25 y251.length co25) y251 _ _ y254 t257 w1_239 _ ?side1 ?side2 ?side3 ?side4 A21.out).mono ?_); (case side1 => repeat (first | (with_reducible first | exact HB.out | apply below_alloc | apply pw_below_drewN | apply below_drew1) | exact HB.out)); (case side2 => exact Kd.R_tight rfl HO253.out); (case side3 => exact Kd.C_kept_own (HO256.out) (fun k_ hk_ hs_ => (hk_.2) hs_)); (case side4 => exact (Kd.R_reads' HO256.out).2.1); rintro e w27 ⟨v258, rfl, ho0, hb, hkp⟩; refine ⟨_, rfl, ?_⟩; have n0_ := Aside0.mk (Kd.R_mono (ok' := fun k_ => some k_ ≠ (v258 : Value).ownBlock) (Kd.R_keptB (HO256.out) hkp (fun k_ hk_ hs_ => (hk_.2) hs_)) (fun k_ hk_ => fun e_ => Or.elim (ho0.1 k_ e_.symm) (fun hs_ => hk_.2.1 hs_) (fun hn_ => Nat.not_le.2 hk_.2.2 hn_))); have n1_ := Aside0.mk (Kd.R_mono (ok' := fun k_ => some k_ ≠ (.slice Ao26 y254.length co26 : Value).ownBlock) ho0 (fun k_ hk_ => Or.elim hk_ (fun hs_ => fun e_ => (((HO256.out).1 k_ e_.symm).2) hs_) (fun hn_ => (Kd.fresh' (Kd.R_lt (by (with_reducible repeat (first | apply Kd.R_alloc | apply Kd.R_drewN | apply Kd.R_drew)); exact HO256.out)) k_ hn_)))); have n2_ := Aside0.mk (hb); clear HO256; clear HB; clear HO253; have HO256 := n0_; have HO259 := n1_; have HB := n2_; clear n0_ n1_ n2_; (try clear hb); (try clear hkp); (try clear ho0)))
                          go_roundg kj7
                          case measure => have := HK1.out; have := HJ7.out; omega
                          case rel => exact ⟨(t257), (wrap64 (x16_1 + 1)), (by first | rfl | (simp; done) | (simp [*]; done)), H', ⟨by have := HK1.out; have := HJ7.out; omega⟩, ⟨by (with_reducible repeat (first | apply Kd.R_alloc | apply Kd.R_drewN | apply Kd.R_drew)); exact Kd.R_mono HO259.out (fun _ hk => trivial)⟩, ⟨by repeat (first | (with_reducible first | exact HB.out | apply below_alloc | apply pw_below_drewN | apply below_drew1) | exact HB.out)⟩⟩
                        · rw [if_neg c20] at H
                          exact absurd H (by simp)
              · rw [if_neg c7] at H
                exact absurd H (by simp)
            · rw [if_neg c6] at H
              exact absurd H (by simp)
          · rw [if_neg c5] at H
            have c5b0 : decide (x16_1 < (y236.length : Int)) = false := decide_eq_false c5
            clear c5
            simp only [Option.some.injEq, Prod.mk.injEq] at H
            obtain ⟨rfl, rfl⟩ := H
            have hcv28 := own_string (P := Try.prog) Try.underlying60 Try.underlying5 Try.underlying9 (Kd.own_of_R HO_5.out)
            go_wp2
            go_ret2
            exact ⟨by first | rfl | (simp [errW_none, errW_some] <;> rfl) | (simp [*, errW_none, errW_some] <;> rfl), by refine below_from HBP239.out ?_; repeat (first | (with_reducible first | exact HB.out | apply below_alloc | apply pw_below_drewN | apply below_drew1) | exact HB.out)⟩
    · rw [if_neg c4] at H
      exact absurd H (by simp)
  · rw [if_neg c3] at H
    have c3b0 : (t235 == 0) = false := beq_eq_false_iff_ne.mpr c3
    have c3b1 : (t235 != 0) = true := bne_iff_ne.mpr c3
    simp only [Option.some.injEq, Prod.mk.injEq] at H
    obtain ⟨rfl, rfl⟩ := H
    go_enter Try.func54, Try.ntmps54
    go_wp2_with (first | ((with_reducible refine gate_callee (f := 49) rfl ?_); refine goesL_ (some 9) rfl rfl Try.func49 (by kernel_rfl) rfl #[.string a0] rfl (by (try simp only [List.map_toArray, List.map_cons, List.map_nil]); first | done | rfl | (simp only [List.length_drop, List.length_take]; rfl)) ?_; (with_reducible refine (label_Check.calls a0 t235 _ A2.out).mono ?_); rintro e w' ⟨rfl, ⟨nd, rfl⟩⟩; refine ⟨_, rfl, ?_⟩))
    go_ret2
    exact ⟨by first | rfl | (simp [errW_none, errW_some] <;> rfl) | (simp [*, errW_none, errW_some] <;> rfl), by repeat (first | (with_reducible first | exact HB.out | apply below_alloc | apply pw_below_drewN | apply below_drew1) | exact HB.out)⟩

section
open Go.Shelf
attribute [local go_sem] Oper.semAt_some
def tellsT (k : Nat) (x : ByteArray) : Prop := ∃ r1 r2, label_Text.f k x = some (r1, r2) ∧ r1.size ≤ 1000
def txAll (k : Nat) : List ByteArray → Option (List UInt8)
  | [] => some []
  | x :: t => (label_Text.f k x).bind fun p => (txAll k t).bind fun q => if p.1.size ≤ 1000 then some (p.1.data.toList ++ 46 :: q) else none
theorem txAll_snoc {k : Nat} {l : List ByteArray} {q : List UInt8} {x r1 : ByteArray} {r2 : Int} (h : txAll k l = some q) (hx : label_Text.f k x = some (r1, r2)) (hr : r1.size ≤ 1000) : txAll k (l ++ [x]) = some (q ++ (r1.data.toList ++ [46])) := by
  induction l generalizing q with
  | nil =>
    obtain rfl := Option.some.inj h
    show (label_Text.f k x).bind _ = _
    rw [hx, Option.bind_some, show txAll k [] = some [] from rfl, Option.bind_some, if_pos hr]
    simp
  | cons a t ih =>
    have h' : ((label_Text.f k a).bind fun p => (txAll k t).bind fun q => if p.1.size ≤ 1000 then some (p.1.data.toList ++ 46 :: q) else none) = some q := h
    cases ha : label_Text.f k a with
    | none => rw [ha] at h'; cases h'
    | some p =>
      rw [ha, Option.bind_some] at h'
      cases ht : txAll k t with
      | none => rw [ht] at h'; cases h'
      | some q1 =>
        rw [ht, Option.bind_some] at h'
        by_cases hp : p.1.size ≤ 1000
        · rw [if_pos hp] at h'
          obtain rfl := Option.some.inj h'
          show (label_Text.f k a).bind (fun p => (txAll k (t ++ [x])).bind fun q => if p.1.size ≤ 1000 then some (p.1.data.toList ++ 46 :: q) else none) = _
          rw [ha, Option.bind_some, ih ht, Option.bind_some, if_pos hp]
          simp
        · rw [if_neg hp] at h'; cases h'
theorem txAll_tells {k : Nat} {l : List ByteArray} {q : List UInt8} (h : txAll k l = some q) : (∀ x ∈ l, tellsT k x) ∧ q.length ≤ 1001 * l.length := by
  induction l generalizing q with
  | nil =>
    obtain rfl := Option.some.inj h
    exact ⟨fun x hx => (by cases hx), (by simp)⟩
  | cons a t ih =>
    have h' : ((label_Text.f k a).bind fun p => (txAll k t).bind fun q => if p.1.size ≤ 1000 then some (p.1.data.toList ++ 46 :: q) else none) = some q := h
    cases ha : label_Text.f k a with
    | none => rw [ha] at h'; cases h'
    | some p =>
      rw [ha, Option.bind_some] at h'
      cases ht : txAll k t with
      | none => rw [ht] at h'; cases h'
      | some q1 =>
        rw [ht, Option.bind_some] at h'
        by_cases hp : p.1.size ≤ 1000
        · rw [if_pos hp] at h'
          obtain rfl := Option.some.inj h'
          obtain ⟨h1, h2⟩ := ih ht
          refine ⟨?_, ?_⟩
          · intro x hx
            rcases List.mem_cons.1 hx with rfl | hx
            · exact ⟨p.1, p.2, ha, hp⟩
            · exact h1 x hx
          · have := data_length p.1
            simp only [List.length_append, List.length_cons]
            omega
        · rw [if_neg hp] at h'; cases h'

theorem builder_kept {T e : TypeId} {B b : Nat} {bs : List Value} {W W' : World} {row : Option Nat} (h : Lib.IsBuilder T e B b bs W) (hg : W.grownBy W' row) (hr : ∀ r, row = some r → ∃ o : Obj, W.heap[r]? = some o ∧ o.isCells = false) : Lib.IsBuilder T e B b bs W' := by
  have key : ∀ p, Lib.BuilderAt T e B b p bs W → Lib.BuilderAt T e B b p bs W' := by
    rintro p ⟨hB, v, hb, hown, hne⟩
    refine ⟨hB, v, ?_, hown.kept hg ?_, hne⟩
    · rw [hg.block b (Array.getElem?_eq_some_iff.1 hb).1 (fun e' => ?_)]
      · exact hb
      · obtain ⟨o, ho, hc⟩ := hr b (by first | exact e'.symm | exact e')
        rw [hb] at ho; cases ho; cases hc
    · rcases hown.2 with ⟨rfl, _⟩ | ⟨g, cap, cur, rfl, _, hgb, _⟩
      · exact .inl rfl
      · refine .inr fun e' => ?_
        obtain ⟨o, ho, hc⟩ := hr g (by simpa [Value.ownBlock] using e'.symm)
        rw [hgb] at ho; cases ho; cases hc
  rcases h with h | h
  · exact .inl (key _ h)
  · exact .inr (key _ h)
theorem builder_below {T e : TypeId} {B b : Nat} {bs : List Value} {W W' : World} (h : Lib.IsBuilder T e B b bs W) (hb' : Below W.heap.size W W') : Lib.IsBuilder T e B b bs W' := by
  have key : ∀ p, Lib.BuilderAt T e B b p bs W → Lib.BuilderAt T e B b p bs W' := by
    rintro p ⟨hB, v, hb, hown, hne⟩
    exact ⟨hB, v, (hb'.block b (Array.getElem?_eq_some_iff.1 hb).1).trans hb, (hown.kept (row := none) ⟨hb'.os, hb'.tape, hb'.output, hb'.size, fun j hj _ => hb'.block j hj⟩ (by cases hv : v.ownBlock <;> simp)), hne⟩
  rcases h with h | h
  · exact .inl (key _ h)
  · exact .inr (key _ h)
theorem kept_others {b : Nat} {cs : Array Value} {T : TypeId} {fz : Nat × Nat} {W W' : World} (h : Lib.OthersKept 5 (some b) W W') (hs : W.heap.size ≤ W'.heap.size) (hb : W.heap[b]? = some (.cells cs T fz)) : KeepsOthers W W' := by
  refine ⟨hs, fun k o hk ho => h k o hk (fun e => ?_) (fun c fz e => ?_)⟩
  · cases e
    rw [hb] at hk; cases hk; cases ho
  · subst e; cases ho

def name_Text.f (k : Nat) (s : ByteArray) : Option (ByteArray × Int) :=
  (name_Check.f k s).bind fun t => if t = 0 then (if s.size = 0 then some (⟨#[46]⟩, 0) else if s.size ≤ 254 ∧ (labelsP s).length ≤ 254 then (txAll k (labelsP s)).bind fun q => some (⟨q.toArray⟩, 0) else none) else some (⟨#[]⟩, t)

set_option maxRecDepth 100000 in
set_option maxHeartbeats 2000000 in
theorem text_in (n : Nat) (hn : 3 ≤ n) (k : Nat) (s : ByteArray) (q : List UInt8) (hs : s.size ≤ 254) (hs0 : s.size ≠ 0) (hlen : (labelsP s).length ≤ 254) (hk : name_Check.f k s = some 0) (hq : txAll k (labelsP s) = some q) (w : World) :
    CallsIn Fence.wide n Try.prog 21 #[.string s] w fun e W' => e = .returned (.tuple #[.string ⟨q.toArray⟩, .int .i64 0]) ∧ Below w.heap.size w W' := by
  have h1 : 1 ≤ n := by omega
  have HC := Aside0.mk hk
  have HQ := Aside0.mk hq
  clear hk hq
  have hne : s.toList.isEmpty = false := by
    rw [ByteArray.toList_eq, List.isEmpty_eq_false_iff]
    intro h
    have := data_length s
    rw [h] at this
    exact hs0 this.symm
  obtain ⟨htell, hql⟩ := txAll_tells HQ.out
  refine callsIn_of_wp_marks Try.func21 rfl trivial ?_ rfl
  simp only [Try.ntmps21, List.size_toArray, List.length_cons, List.length_nil, Nat.reduceAdd, Nat.reduceSub, Array.replicate_succ, Array.replicate_zero, List.push_toArray, List.append_toArray, List.nil_append, List.cons_append]
  gi_wp2_with (first
    | (refine ⟨trivial, ?_⟩; gi_at_call 12; (refine (callsIn_wide.2 (name_Check.calls k s 0 _ HC.out)).mono ?_); rintro e w' ⟨rfl, ⟨nd, rfl⟩⟩)
    | (refine ⟨trivial, ?_⟩; gi_at_call 43; (refine (each_calls (n - 1) s _).mono ?_); rintro e w' ⟨rfl, rfl⟩))
  have hB0 : Below w.heap.size w (((w.drewN nd).alloc (Obj.cells #[Value.pointer none, Value.slice none 0 0] 62)).alloc (.cells #[.string s] 22)) := ((pw_below_drewN (Below.refl _ _) nd).alloc (by simp) _).alloc (by simp) _
  have hbx : (((w.drewN nd).alloc (Obj.cells #[Value.pointer none, Value.slice none 0 0] 62)).alloc (.cells #[.string s] 22)).cell? ⟨w.heap.size + 1, 0, none⟩ = some (.string s) := by
    have := (Boxed.new ((w.drewN nd).alloc (Obj.cells #[Value.pointer none, Value.slice none 0 0] 62)) 22 (.string s)).cell
    simpa using this
  have hI0 : Lib.IsBuilder 62 5 w.heap.size w.heap.size [] (((w.drewN nd).alloc (Obj.cells #[Value.pointer none, Value.slice none 0 0] 62)).alloc (.cells #[.string s] 22)) := builder_below (Lib.fresh_isBuilder 62 5 (w.drewN nd)) ((Below.refl _ _).alloc (Nat.le_refl _) _)
  have hseq := each1_stopsQ (tellsT k) (n - 1) (by omega) (w.heap.size + 1) s (by omega) htell (((w.drewN nd).alloc (Obj.cells #[Value.pointer none, Value.slice none 0 0] 62)).alloc (.cells #[.string s] 22)) (by simp) hbx
  refine wpIn_rangeFunc_ownG rfl h1 (gf := 68) (lb := #[.pointer (some ⟨w.heap.size + 1, 0, none⟩)]) rfl trivial (enters_of Try.func68 (by kernel_rfl) rfl) hseq walksK_t walksK_b (Below.refl _ _) (fun _ => rfl)
    (fun pre W => (∃ l, txAll k (pre.map Subtype.val) = some l ∧ Lib.IsBuilder 62 5 w.heap.size w.heap.size (Lib.byteCells l) W) ∧ Below w.heap.size w W)
    (fun _ _ _ => False)
    (OwnFrom.and (Own.from (fun _ A B row hs hg hr => by obtain ⟨l, h1, h2⟩ := hs; exact ⟨l, h1, builder_kept h2 hg hr⟩) _) (ownFrom_below (Nat.le_refl _) (by simp; omega)))
    (fun _ _ _ _ _ hs _ _ => hs)
    ⟨⟨[], rfl, hI0⟩, hB0⟩
    (fun x => { tmps := #[.string s, undef, .string ⟨#[]⟩, .int .i64 0, .int .i64 0, .pointer (some ⟨w.heap.size, 0, none⟩), .string x.1, undef, undef, .string s, .int .i64 0, .int .i64 0, .bool false, undef, .string s, .bool false, .string s, .func (.func 68) #[] #[.pointer (some ⟨w.heap.size + 1, 0, none⟩)], .string x.1, undef, undef, undef, undef, undef, undef, undef, undef, undef], defers := [] }) ?assign ?body ?done ?stop
  case assign =>
    intro l x W K hK
    gi_wp2
    exact hK
  case body =>
    rintro l pre x W ⟨⟨q1, hq1, hI⟩, hB⟩ hlt
    obtain ⟨r1, r2, hx, hr⟩ := x.2
    have hq1l := (txAll_tells hq1).2
    rw [List.length_map] at hq1l
    have hsn := txAll_snoc hq1 hx hr
    have hBs := hB.size
    have h12 : 1 ≤ n - 1 - 1 := by omega
    have hsz : (Lib.byteCells q1).length + (r1 ++ (⟨#[46]⟩ : ByteArray)).size ≤ 140737488355328 := by
      rw [Lib.byteCells_length, ByteArray.size_append]
      show _ + (_ + 1) ≤ _
      omega
    have HT := fun (w1 : World) (hI : Lib.IsBuilder 62 5 w.heap.size w.heap.size (Lib.byteCells q1) w1) (hs : w.heap.size ≤ w1.heap.size) => (callsIn_wide (n := n - 1 - 1 - 1)).2 (bd_string_ w.heap.size w.heap.size (Lib.byteCells q1) (r1 ++ ⟨#[46]⟩) w1 hI hsz hs)
    gi_wp2_with (first
      | (refine ⟨trivial, ?_⟩; gi_at_call 54; (with_reducible refine CallsIn.mono (CallsIn.inRound (F := Fence.wide) l (callsIn_wide.2 (label_Text.calls k x.1 r1 r2 _ hx))) ?_); rintro e w1 ⟨rfl, hb1⟩; have hI1 := builder_below hI hb1)
      | (refine ⟨trivial, ?_⟩; gi_at_call 51; (with_reducible refine CallsIn.mono (CallsIn.inRound (F := Fence.wide) l (HT _ hI1 (Nat.le_trans hBs hb1.size))) ?_); rintro e w2 ⟨rfl, h2, hb2, hk2⟩))
    have hk0 : Lib.OthersKept 5 (some w.heap.size) W w2 := ((Lib.OthersKept.refl 5 (some w.heap.size) W).below hb1).trans hk2
    obtain ⟨cs, hcs⟩ : ∃ cs, W.heap[w.heap.size]? = some (.cells cs 62 (0, 0)) := by
      rcases hI with ⟨_, v, hb, _⟩ | ⟨_, v, hb, _⟩
      · exact ⟨_, hb⟩
      · exact ⟨_, hb⟩
    have hk : KeepsOthers W w2 := kept_others hk0 (Nat.le_trans hb1.size hb2.size) hcs
    refine ⟨hk.from _, hk.walks, ⟨_, by rw [List.map_append]; exact hsn, .inr ?_⟩, (hB.trans (hb1.mono hBs)).trans hb2⟩
    rw [Lib.byteCells_append]
    exact h2
  case done =>
    rintro D ys W hD hys ⟨⟨q1, hq1, hI⟩, hB⟩ hK
    have e1 : q1 = q := by
      rw [hys, HQ.out] at hq1
      exact (Option.some.inj hq1).symm
    subst e1
    gi_wp2_with (refine ⟨trivial, ?_⟩; gi_at_call 53; (refine (callsIn_wide.2 (Try.Builder_String_any_k w.heap.size w.heap.size _ _ (Lib.IsBuilderF.of hI) hB.size)).mono ?_); rintro e w1 ⟨rfl, _, hb1, hk1⟩)
    refine ⟨by simp, .inl ⟨_, _, rfl, run_takeDeferred (hk1 D _ hK (fun e => by cases e; simp at hD; omega) (fun c fz e => by cases e)), ?_⟩⟩
    exact ⟨_, results_tmp2 rfl _ _ _, rfl, (hB.trans hb1).trans (belowK_b (w := w) (Nat.le_refl _) _ D _ _ (by simp at hD; omega) (hk1 D _ hK (fun e => by cases e; simp at hD; omega) (fun c fz e => by cases e)) rfl rfl)⟩
  case stop =>
    rintro D c pre W _ _ h _
    exact h.elim

set_option maxRecDepth 100000 in
set_option maxHeartbeats 2000000 in
theorem text_bad (k : Nat) (s : ByteArray) (c : Int) (hc : c ≠ 0) (hk : name_Check.f k s = some c) (w : World) :
    Calls Try.prog 21 #[.string s] w fun e W' => e = .returned (.tuple #[.string ⟨#[]⟩, .int .i64 c]) ∧ Below w.heap.size w W' := by
  have HC := Aside0.mk hk
  have hc1 : (c == 0) = false := beq_eq_false_iff_ne.2 hc
  have hc2 : (c != 0) = true := bne_iff_ne.2 hc
  clear hk hc
  go_enter Try.func21, Try.ntmps21
  go_wp2_with (go_at_call 12; (with_reducible refine (name_Check.calls k s c _ HC.out).mono ?_); rintro e w' ⟨rfl, ⟨nd, rfl⟩⟩)
  go_ret2
  exact ⟨rfl, pw_below_drewN (Below.refl _ _) _⟩
set_option maxRecDepth 100000 in
set_option maxHeartbeats 2000000 in
theorem text_root (k : Nat) (s : ByteArray) (hs : s.size = 0) (hk : name_Check.f k s = some 0) (w : World) :
    Calls Try.prog 21 #[.string s] w fun e W' => e = .returned (.tuple #[.string ⟨#[46]⟩, .int .i64 0]) ∧ Below w.heap.size w W' := by
  have HC := Aside0.mk hk
  have hne : s.toList.isEmpty = true := by
    rw [ByteArray.toList_eq, List.isEmpty_iff]
    apply List.eq_nil_of_length_eq_zero
    rw [data_length]
    exact hs
  clear hk
  go_enter Try.func21, Try.ntmps21
  go_wp2_with (go_at_call 12; (with_reducible refine (name_Check.calls k s 0 _ HC.out).mono ?_); rintro e w' ⟨rfl, ⟨nd, rfl⟩⟩)
  go_ret2
  exact ⟨rfl, pw_below_drewN (Below.refl _ _) _⟩
theorem name_Text.calls (k : Nat) (a0 r1 : ByteArray) (r2 : Int) (w : World) (h : name_Text.f k a0 = some (r1, r2)) :
    Calls Try.prog 21 #[.string a0] w fun e w' => e = .returned (.tuple #[.string r1, .int .i64 r2]) ∧ Below w.heap.size w w' := by
  unfold name_Text.f at h
  cases hk : name_Check.f k a0 with
  | none => rw [hk] at h; cases h
  | some t =>
    rw [hk, Option.bind_some] at h
    by_cases ht : t = 0
    · subst ht
      rw [if_pos rfl] at h
      by_cases h0 : a0.size = 0
      · rw [if_pos h0] at h
        obtain ⟨rfl, rfl⟩ : r1 = ⟨#[46]⟩ ∧ r2 = 0 := by
          have := Option.some.inj h
          exact ⟨(congrArg Prod.fst this).symm, (congrArg Prod.snd this).symm⟩
        exact text_root k a0 h0 hk w
      · rw [if_neg h0] at h
        by_cases hs : a0.size ≤ 254 ∧ (labelsP a0).length ≤ 254
        · rw [if_pos hs] at h
          cases hq : txAll k (labelsP a0) with
          | none => rw [hq] at h; cases h
          | some q =>
            rw [hq, Option.bind_some] at h
            obtain ⟨rfl, rfl⟩ : r1 = ⟨q.toArray⟩ ∧ r2 = 0 := by
              have := Option.some.inj h
              exact ⟨(congrArg Prod.fst this).symm, (congrArg Prod.snd this).symm⟩
            exact (callsIn_wide (n := 9)).1 (text_in 9 (by omega) k a0 q hs.1 h0 hs.2 hk hq w)
        · rw [if_neg hs] at h; cases h
    · rw [if_neg ht] at h
      obtain ⟨rfl, rfl⟩ : r1 = ⟨#[]⟩ ∧ r2 = t := by
        have := Option.some.inj h
        exact ⟨(congrArg Prod.fst this).symm, (congrArg Prod.snd this).symm⟩
      exact text_bad k a0 r2 ht hk w
theorem txAll_mono : ∀ l k, LeO (txAll k l) (txAll (k + 1) l) := by
  intro l k
  induction l with
  | nil => exact LeO.refl _
  | cons a t ih =>
    show LeO ((label_Text.f k a).bind fun p => (txAll k t).bind fun q => if p.1.size ≤ 1000 then some (p.1.data.toList ++ 46 :: q) else none) ((label_Text.f (k + 1) a).bind fun p => (txAll (k + 1) t).bind fun q => if p.1.size ≤ 1000 then some (p.1.data.toList ++ 46 :: q) else none)
    exact LeO.bind (label_Text.mono a k) (fun _ => LeO.bind ih (fun _ => LeO.refl _))
theorem name_Text.mono : ∀ a0 k, LeO (name_Text.f k a0) (name_Text.f (k + 1) a0) := by
  intro a0 k
  unfold name_Text.f
  exact LeO.bind (name_Check.mono a0 k) (fun _ => LeO.ite (LeO.ite (LeO.refl _) (LeO.ite (LeO.bind (txAll_mono _ _) (fun _ => LeO.refl _)) (LeO.refl _))) (LeO.refl _))
end

end Go.Proofs.Ythimngabaliapaa.OSeven
