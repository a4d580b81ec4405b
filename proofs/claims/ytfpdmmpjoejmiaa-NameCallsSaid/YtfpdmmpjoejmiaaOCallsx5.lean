/- This text proves, for each Go function named below, which plain Lean function its call computes, in whatever memory; a program of this session has written it. -/
import Derived.Test.YtfpdmmpjoejmiaaOCallsx0
import Derived.Test.YtfpdmmpjoejmiaaOCallsx1
import Derived.Test.YtfpdmmpjoejmiaaOCallsx2
import Derived.Test.YtfpdmmpjoejmiaaOCallsx3
namespace Go.Proofs.Ytfpdmmpjoejmiaa.OCalls
open Go.RowKit Go.Proofs.YtfpdmmpjoejmiaaW.PrintWords Go.Proofs.YtfpdmmpjoejmiaaW.PrintLast Go.Proofs.YtfpdmmpjoejmiaaW.PrintMore
attribute [local go_sem] max2_int min2_int max_two min_two max_three min_three max_four min_four   -- for this text's walks alone
set_option linter.unusedVariables false
set_option linter.unusedSimpArgs false

/-! ### label_digits: function 60 -/
def label_digits.l0 : Nat → List Int → List Int → Int → Int → Option (List Int)
  | 0, _, _, _, _ => none
  | k + 1, x0, x7, x8, x9 => if x9 < x8 then (if 0 ≤ x9 then (if x9 < (x7.length : Int) then (if x0.length < 140737488355328 then (label_digits.l0 k (x0 ++ [(48 + (rd x7 x9)) % 256]) x7 x8 (wrap64 (x9 + 1))) else (none)) else (none)) else (none)) else (some x0)
def label_digits.f (k : Nat) (l0 : List Int) (l1 : List Int) : Option (List Int) := label_digits.l0 k l0 l1 (l1.length : Int) 0
theorem label_digits.mono_l : ∀ k, (∀ y0 y1 y2 y3, LeO (label_digits.l0 k y0 y1 y2 y3) (label_digits.l0 (k + 1) y0 y1 y2 y3))
  | 0 => fun _ _ _ _ r h => by simp [label_digits.l0] at h
  | k + 1 => by
    have ih0 := label_digits.mono_l k
    · intro y0 y1 y2 y3
      unfold label_digits.l0
      repeat' first
      | (with_reducible exact ih0 _ _ _ _)
      | (with_reducible exact LeO.refl _)
      | (with_reducible exact LeO.none _)
      | (with_reducible refine LeO.ite ?_ ?_)
      | (with_reducible refine LeO.bind ?_ (fun _ => ?_))
      | exact ih0 _ _ _ _
      | exact LeO.none _
      | refine LeO.ite ?_ ?_
      | refine LeO.bind ?_ (fun _ => ?_)
theorem label_digits.mono : ∀ a0 a1 k, LeO (label_digits.f k a0 a1) (label_digits.f (k + 1) a0 a1) := by
  intro a0 a1 k
  have ih0 := label_digits.mono_l k
  unfold label_digits.f
  repeat' first
      | (with_reducible exact ih0 _ _ _ _)
      | (with_reducible exact LeO.refl _)
      | (with_reducible exact LeO.none _)
      | (with_reducible refine LeO.ite ?_ ?_)
      | (with_reducible refine LeO.bind ?_ (fun _ => ?_))
      | exact ih0 _ _ _ _
      | exact LeO.none _
      | refine LeO.ite ?_ ?_
      | refine LeO.bind ?_ (fun _ => ?_)
set_option maxHeartbeats 8000000 in
set_option maxRecDepth 100000 in
theorem label_digits.calls (k : Nat) (P0_ : Nat → Prop) (u9000_ : Value) (l0 : List Int) (A1 : Option Addr) (c1 : Nat) (l1 : List Int) (r : List Int) (w0 w : World) (hB : Below w0.heap.size w0 w) (ho0 : Kd.R (Kd.int .u8) 5 w w0.heap.size P0_ u9000_ l0) (hr1 : ∀ W_, Kept w W_ (fun k_ => P0_ k_) → Kd.C (Kd.int .u8) W_ A1 l1.length l1) (hc1 : l1.length ≤ c1) (h : label_digits.f k l0 l1 = some r) :
    Calls Try.prog 60 #[u9000_, .slice A1 l1.length c1] w fun e w' => ∃ v0_ : Value, e = .returned (v0_) ∧ Kd.R (Kd.int .u8) 5 w' w0.heap.size (fun k_ => (P0_ k_ ∨ w.heap.size ≤ k_)) v0_ r ∧ Below w0.heap.size w0 w' ∧ Kept w w' (fun k_ => P0_ k_) := by
  have HO0 := Aside0.mk (show Kd.R (Kd.int .u8) 5 w w0.heap.size (fun k_ => (P0_ k_ ∨ w.heap.size ≤ k_)) u9000_ l0 from Kd.R_mono ho0 (fun k_ hk => (.inl hk)))
  have HR1 := Aside0.mk hr1
  have HC1 := Aside0.mk hc1
  clear hr1 hc1
  have HK := Aside0.mk (Kept.refl w (fun k_ => P0_ k_))
  have HW0 := Aside0.mk hB.size
  have HB := Aside0.mk hB
  clear hB
  have H : (label_digits.l0 k l0 l1 (l1.length : Int) 0) = some r := h
  clear h
  have H' := Aside0.mk H
  clear H
  go_enter Try.func60, Try.ntmps60
  go_wp2
  go_loopg [0, 9] k (fun kq v0 v9 w' => ∃ (x0_1 : List Int) (x9_1 : Int), v9 = .int .i64 x9_1 ∧ Aside0 (label_digits.l0 kq x0_1 l1 (l1.length : Int) x9_1 = some r) ∧ Aside0 (kq ≤ k) ∧ Aside0 (Kd.R (Kd.int .u8) 5 w' w0.heap.size (fun k_ => (P0_ k_ ∨ w.heap.size ≤ k_)) v0 x0_1) ∧ Aside0 (Kept w w' (fun k_ => P0_ k_)) ∧ Aside0 (Below w0.heap.size w0 w'))
  case atStart => exact ⟨(l0), (0), (by first | rfl | (simp; done) | (simp [*]; done)), H', ⟨Nat.le_refl _⟩, ⟨by (with_reducible repeat (first | apply Kd.R_alloc | apply Kd.R_drewN | apply Kd.R_drew)); exact HO0.out⟩, ⟨by repeat (first | (with_reducible first | exact HK.out | apply Kept.alloc | apply Kept.drewN | apply Kept.drew) | exact HK.out)⟩, ⟨by repeat (first | (with_reducible first | exact HB.out | apply below_alloc | apply pw_below_drewN | apply below_drew1) | exact HB.out)⟩⟩
  case round =>
    clear H'
    try clear c1
    try clear p2
    obtain ⟨x0_1, x9_1, rfl, HA, HK1, HO_0, HK, HB⟩ := hrel
    cases gk with
    | zero => exact absurd HA.out (by simp [label_digits.l0])
    | succ k1 =>
      have H := HA.out
      clear HA
      simp only [label_digits.l0] at H
      by_cases c3 : x9_1 < (l1.length : Int)
      · rw [if_pos c3] at H
        have c3b0 : decide (x9_1 < (l1.length : Int)) = true := decide_eq_true c3
        clear c3
        by_cases c4 : 0 ≤ x9_1
        · rw [if_pos c4] at H
          have c4b0 : decide (0 ≤ x9_1) = true := decide_eq_true c4
          clear c4
          by_cases c5 : x9_1 < (l1.length : Int)
          · rw [if_pos c5] at H
            have c5b0 : decide (x9_1 < (l1.length : Int)) = true := decide_eq_true c5
            clear c5
            by_cases c6 : x0_1.length < 140737488355328
            · rw [if_pos c6] at H
              have LMc6 := Aside0.mk c6
              clear c6
              obtain ⟨y160, hy160⟩ : ∃ y_ : List Int, y_ = (x0_1 ++ [(48 + (rd l1 x9_1)) % 256]) := ⟨_, rfl⟩
              replace H : (label_digits.l0 k1 y160 l1 (l1.length : Int) (wrap64 (x9_1 + 1))) = some r := by first | (rw [hy160]; with_reducible exact H) | (have H2_ := (Option.bind_some _ _).symm.trans H; rw [hy160]; with_reducible exact H2_) | (have H2_ := (Option.bind_some _ _).symm.trans H; with_reducible exact H2_) | with_reducible exact H | (rw [hy160]; exact H) | exact H
              have Ny160 := Aside0.mk hy160
              clear hy160
              have H' := Aside0.mk H
              clear H
              have p159 : 0 ≤ (x9_1 : Int) := of_decide_eq_true (by first | (with_reducible assumption) | assumption)
              have q159 : x9_1 < (l1.length : Int) := of_decide_eq_true (by first | (with_reducible assumption) | assumption)
              obtain ⟨ad159, e159, hx159_0⟩ := Kd.at_int (Kd.C_kept_now HR1.out HK.out) x9_1 p159 q159
              cases e159
              replace p159 := eq_true p159
              replace q159 := eq_true q159
              go_wp2_with (first | ((with_reducible refine gate_builtin (b := .append) (xs := #[.tmp 13, .tmp 16]) rfl ?_); at_builtin; refine Kd.R_append (Kd.int .u8) (w0 := w0) w0.heap.size rfl (.tmp 13) (.tmp 16) 44 5 (.int .u8 0) 1 rfl Try.underlying44 info5 rfl (by decide) (by omega) u0 x0_1 ((48 + (rd l1 x9_1)) % 256) [.int .u8 ((48 + (rd l1 x9_1)) % 256)] (fun k_ => (P0_ k_ ∨ w.heap.size ≤ k_)) (fun _ => False) rfl rfl ?aP (fun _ hk => hk.elim) ?aF ?aO ?aB ?aS ?aL ?_; (case aP => exact rfl); (case aB => exact (by repeat (first | (with_reducible first | exact HB.out | apply below_alloc | apply pw_below_drewN | apply below_drew1) | exact HB.out))); (case aF => exact (fun k_ hk => (.inr (Nat.le_trans (by first | exact HK.out.1 | exact (show Kept w _ (fun k_ => P0_ k_) from by repeat (first | (with_reducible first | exact HK.out | apply Kept.alloc | apply Kept.drewN | apply Kept.drew) | exact HK.out)).1) hk)))); (case aO => exact (by (with_reducible repeat (first | apply Kd.R_alloc | apply Kd.R_drewN | apply Kd.R_drew)); exact HO_0.out)); (case aS => exact (below_size (by repeat (first | (with_reducible first | exact HB.out | apply below_alloc | apply pw_below_drewN | apply below_drew1) | exact HB.out)))); (case aL => have := LMc6.out; omega); intro v161 w7 ho hb hg hat; rw [← Ny160.out] at ho; have n0_ := Aside0.mk (hb); have n1_ := Aside0.mk (Kept.of_grown (S := (fun k_ => P0_ k_)) hg (by repeat (first | (with_reducible first | exact HK.out | apply Kept.alloc | apply Kept.drewN | apply Kept.drew) | exact HK.out)) (fun k_ e_ => (HO_0.out.1 k_ e_))); have n2_ := Aside0.mk (ho); clear HB; clear HK; clear HO_0; have HB := n0_; have HK := n1_; have HO162 := n2_; clear n0_ n1_ n2_; clear ho hb hg hat))
              go_roundg k1
              case measure => have := HK1.out; omega
              case rel => exact ⟨(y160), (wrap64 (x9_1 + 1)), (by first | rfl | (simp; done) | (simp [*]; done)), H', ⟨by have := HK1.out; omega⟩, ⟨by (with_reducible repeat (first | apply Kd.R_alloc | apply Kd.R_drewN | apply Kd.R_drew)); exact HO162.out⟩, ⟨by repeat (first | (with_reducible first | exact HK.out | apply Kept.alloc | apply Kept.drewN | apply Kept.drew) | exact HK.out)⟩, ⟨by repeat (first | (with_reducible first | exact HB.out | apply below_alloc | apply pw_below_drewN | apply below_drew1) | exact HB.out)⟩⟩
            · rw [if_neg c6] at H
              exact absurd H (by simp)
          · rw [if_neg c5] at H
            exact absurd H (by simp)
        · rw [if_neg c4] at H
          exact absurd H (by simp)
      · rw [if_neg c3] at H
        have c3b0 : decide (x9_1 < (l1.length : Int)) = false := decide_eq_false c3
        clear c3
        obtain rfl := Option.some.inj H
        go_wp2
        go_ret
        exact ⟨_, by first | rfl | (simp [errW_none, errW_some] <;> rfl) | (simp [*, errW_none, errW_some] <;> rfl), by (with_reducible repeat (first | apply Kd.R_alloc | apply Kd.R_drewN | apply Kd.R_drew)); exact HO_0.out, by repeat (first | (with_reducible first | exact HB.out | apply below_alloc | apply pw_below_drewN | apply below_drew1) | exact HB.out), by repeat (first | (with_reducible first | exact HK.out | apply Kept.alloc | apply Kept.drewN | apply Kept.drew) | exact HK.out)⟩

/-! ### label_Text: function 39 -/
mutual
def label_Text.l0 : Nat → List Int → List Int → Int → Int → Option (ByteArray × Int)
  | 0, _, _, _, _ => none
  | k + 1, x5, x14, x15, x16 => if x16 < x15 then (if 0 ≤ x16 then (if x16 < (x14.length : Int) then (if (rd x14 x16) = 46 then (label_Text.j1 k x5 (rd x14 x16) x14 x15 x16 true) else (label_Text.j1 k x5 (rd x14 x16) x14 x15 x16 ((rd x14 x16) == 92))) else (none)) else (none)) else (some (strOfNums x5, 0))
def label_Text.j1 : Nat → List Int → Int → List Int → Int → Int → Bool → Option (ByteArray × Int)
  | 0, _, _, _, _, _, _ => none
  | k + 1, x5, x7, x14, x15, x16, x32 => if x32 = true then ((some (([92, x7] : List Int) : List Int)).bind fun y169 => (if x5.length + y169.length < 140737488355328 then (label_Text.l0 k (x5 ++ y169) x14 x15 (wrap64 (x16 + 1))) else (none))) else ((label_plain.f x7).bind fun t175 => (if t175 = true then (if x5.length < 140737488355328 then (label_Text.l0 k (x5 ++ [x7]) x14 x15 (wrap64 (x16 + 1))) else (none)) else (if x5.length < 140737488355328 then ((label_digits.f k (x5 ++ [92]) (([(Int.tdiv x7 100) % 256, ((Int.tdiv x7 10) % 256) % 10, Int.tmod x7 10] : List Int))).bind fun t185 => (label_Text.l0 k t185 x14 x15 (wrap64 (x16 + 1)))) else (none))))
end
def label_Text.f (k : Nat) (a0 : ByteArray) : Option (ByteArray × Int) := (label_Check.f a0).bind fun t163 => (if t163 = 0 then (if a0.size ≤ 9223372036854775807 then ((some (bytesOf a0 : List Int)).bind fun y164 => (label_Text.l0 k ([] : List Int) y164 (y164.length : Int) 0)) else (none)) else (some ((⟨#[]⟩ : ByteArray), t163)))
theorem label_Text.mono_l : ∀ k, (∀ y0 y1 y2 y3, LeO (label_Text.l0 k y0 y1 y2 y3) (label_Text.l0 (k + 1) y0 y1 y2 y3)) ∧ (∀ y0 y1 y2 y3 y4 y5, LeO (label_Text.j1 k y0 y1 y2 y3 y4 y5) (label_Text.j1 (k + 1) y0 y1 y2 y3 y4 y5))
  | 0 => ⟨fun _ _ _ _ r h => by simp [label_Text.l0] at h, fun _ _ _ _ _ _ r h => by simp [label_Text.j1] at h⟩
  | k + 1 => by
    obtain ⟨ih0, ih1⟩ := label_Text.mono_l k
    refine ⟨?_, ?_⟩
    · intro y0 y1 y2 y3
      unfold label_Text.l0
      repeat' first
      | (with_reducible exact ih0 _ _ _ _)
      | (with_reducible exact ih1 _ _ _ _ _ _)
      | (with_reducible exact label_digits.mono _ _ _)
      | (with_reducible exact LeO.refl _)
      | (with_reducible exact LeO.none _)
      | (with_reducible refine LeO.ite ?_ ?_)
      | (with_reducible refine LeO.bind ?_ (fun _ => ?_))
      | exact ih0 _ _ _ _
      | exact ih1 _ _ _ _ _ _
      | exact label_digits.mono _ _ _
      | exact LeO.none _
      | refine LeO.ite ?_ ?_
      | refine LeO.bind ?_ (fun _ => ?_)
    · intro y0 y1 y2 y3 y4 y5
      unfold label_Text.j1
      repeat' first
      | (with_reducible exact ih0 _ _ _ _)
      | (with_reducible exact ih1 _ _ _ _ _ _)
      | (with_reducible exact label_digits.mono _ _ _)
      | (with_reducible exact LeO.refl _)
      | (with_reducible exact LeO.none _)
      | (with_reducible refine LeO.ite ?_ ?_)
      | (with_reducible refine LeO.bind ?_ (fun _ => ?_))
      | exact ih0 _ _ _ _
      | exact ih1 _ _ _ _ _ _
      | exact label_digits.mono _ _ _
      | exact LeO.none _
      | refine LeO.ite ?_ ?_
      | refine LeO.bind ?_ (fun _ => ?_)
theorem label_Text.mono : ∀ a0 k, LeO (label_Text.f k a0) (label_Text.f (k + 1) a0) := by
  intro a0 k
  obtain ⟨ih0, ih1⟩ := label_Text.mono_l k
  unfold label_Text.f
  repeat' first
      | (with_reducible exact ih0 _ _ _ _)
      | (with_reducible exact ih1 _ _ _ _ _ _)
      | (with_reducible exact label_digits.mono _ _ _)
      | (with_reducible exact LeO.refl _)
      | (with_reducible exact LeO.none _)
      | (with_reducible refine LeO.ite ?_ ?_)
      | (with_reducible refine LeO.bind ?_ (fun _ => ?_))
      | exact ih0 _ _ _ _
      | exact ih1 _ _ _ _ _ _
      | exact label_digits.mono _ _ _
      | exact LeO.none _
      | refine LeO.ite ?_ ?_
      | refine LeO.bind ?_ (fun _ => ?_)
set_option maxHeartbeats 8000000 in
set_option maxRecDepth 100000 in
theorem label_Text.calls (k : Nat) (a0 : ByteArray) (r1 : ByteArray) (r2 : Int) (w : World) (h : label_Text.f k a0 = some (r1, r2)) :
    Calls Try.prog 39 #[.string a0] w fun e w' => e = .returned (.tuple #[.string r1, .int .i64 r2]) ∧ Below w.heap.size w w' := by
  have HB := Aside0.mk (Below.refl w.heap.size w)
  have H : ((label_Check.f a0).bind fun t163 => (if t163 = 0 then (if a0.size ≤ 9223372036854775807 then ((some (bytesOf a0 : List Int)).bind fun y164 => (label_Text.l0 k ([] : List Int) y164 (y164.length : Int) 0)) else (none)) else (some ((⟨#[]⟩ : ByteArray), t163)))) = some (r1, r2) := h
  clear h
  replace H := Option.bind_eq_some_iff.mp H
  obtain ⟨t163, A20, H⟩ := H
  replace H : (if t163 = 0 then (if a0.size ≤ 9223372036854775807 then ((some (bytesOf a0 : List Int)).bind fun y164 => (label_Text.l0 k ([] : List Int) y164 (y164.length : Int) 0)) else (none)) else (some ((⟨#[]⟩ : ByteArray), t163))) = some (r1, r2) := H
  have A2 := Aside0.mk A20
  clear A20
  by_cases c3 : t163 = 0
  · rw [if_pos c3] at H
    have c3b0 : (t163 == 0) = true := beq_iff_eq.mpr c3
    have c3b1 : (t163 != 0) = false := bne_eq_false_iff_eq.mpr c3
    clear c3
    by_cases c4 : a0.size ≤ 9223372036854775807
    · rw [if_pos c4] at H
      have c4b0 := eq_true c4
      have c4b1 : decide (a0.size ≤ 9223372036854775807) = true := decide_eq_true c4
      try have c4b2 : (9223372036854775807 < a0.size) = False := eq_false (Nat.not_lt.2 c4)
      clear c4
      obtain ⟨y164, hy164⟩ : ∃ y_ : List Int, y_ = (bytesOf a0) := ⟨_, rfl⟩
      replace H : (label_Text.l0 k ([] : List Int) y164 (y164.length : Int) 0) = some (r1, r2) := by first | (rw [hy164]; with_reducible exact H) | (have H2_ := (Option.bind_some _ _).symm.trans H; rw [hy164]; with_reducible exact H2_) | (have H2_ := (Option.bind_some _ _).symm.trans H; with_reducible exact H2_) | with_reducible exact H | (rw [hy164]; exact H) | exact H
      have Ny164 := Aside0.mk hy164
      clear hy164
      have H' := Aside0.mk H
      clear H
      go_enter Try.func39, Try.ntmps39
      go_wp2_with (first | ((with_reducible refine gate_callee (f := 32) rfl ?_); refine goesL_ (some 9) rfl rfl Try.func32 (by kernel_rfl) rfl #[.string a0] rfl (by (try simp only [List.map_toArray, List.map_cons, List.map_nil]); first | done | rfl | (simp only [List.length_drop, List.length_take]; rfl)) ?_; (with_reducible refine (label_Check.calls a0 t163 _ A2.out).mono ?_); rintro e w' ⟨rfl, ⟨nd, rfl⟩⟩; refine ⟨_, rfl, ?_⟩) | ((with_reducible refine gate_dst (N := 14) rfl ?_); refine conv_event (src := 9) (dst := 44) (e := 5) (s := a0) (w := w) rfl (N := 14) rfl Try.underlying9 Try.underlying44 Try.underlying5 ?cvr ?cvs (by repeat (first | (with_reducible first | exact HB.out | apply below_alloc | apply pw_below_drewN | apply below_drew1) | exact HB.out)) ?_; (case cvr => intro kb_; first | (go_simp; done) | (go_simp; rfl)); (case cvs => first | omega | exact of_decide_eq_true (by assumption)); intro A167 c167 w1_167 hC hc hb; rw [← Ny164.out] at hC hc ⊢; have HBP167 := Aside0.mk hb; clear HB hb; have HB := Aside0.mk (Below.refl w1_167.heap.size w1_167); have HR167 := Aside0.mk hC; have HC167 := Aside0.mk hc; clear hC hc))
      go_loopg [5, 16] k (fun kq v5 v16 w' => ∃ (x5_1 : List Int) (x16_1 : Int), v16 = .int .i64 x16_1 ∧ Aside0 (label_Text.l0 kq x5_1 y164 (y164.length : Int) x16_1 = some (r1, r2)) ∧ Aside0 (kq ≤ k) ∧ Aside0 (Kd.R (Kd.int .u8) 5 w' w1_167.heap.size (fun _ => True) v5 x5_1) ∧ Aside0 (Below w1_167.heap.size w1_167 w'))
      case atStart => exact ⟨(([] : List Int)), (0), (by first | rfl | (simp; done) | (simp [*]; done)), H', ⟨Nat.le_refl _⟩, ⟨by first | exact Kd.R_nil _ _ _ _ _ | exact Kd.N_nil _ _ _ _ _ | exact Kd.V_nil _ _ _ _ _ | exact Kd.Q_nil _ _ _ _ _ | exact Kd.S_nil _ _ _ _ _⟩, ⟨by repeat (first | (with_reducible first | exact HB.out | apply below_alloc | apply pw_below_drewN | apply below_drew1) | exact HB.out)⟩⟩
      case round =>
        clear H'
        try clear c1
        try clear p2
        try clear c3
        try clear c3b0
        try clear c3b1
        try clear c4
        try clear c4b0
        try clear c4b1
        try clear c4b2
        obtain ⟨x5_1, x16_1, rfl, HA, HK1, HO_5, HB⟩ := hrel
        cases gk with
        | zero => exact absurd HA.out (by simp [label_Text.l0])
        | succ k1 =>
          have H := HA.out
          clear HA
          simp only [label_Text.l0] at H
          by_cases c5 : x16_1 < (y164.length : Int)
          · rw [if_pos c5] at H
            have c5b0 : decide (x16_1 < (y164.length : Int)) = true := decide_eq_true c5
            clear c5
            by_cases c6 : 0 ≤ x16_1
            · rw [if_pos c6] at H
              have c6b0 : decide (0 ≤ x16_1) = true := decide_eq_true c6
              clear c6
              by_cases c7 : x16_1 < (y164.length : Int)
              · rw [if_pos c7] at H
                have c7b0 : decide (x16_1 < (y164.length : Int)) = true := decide_eq_true c7
                clear c7
                have HC8 := Aside0.mk H
                clear H
                have p168 : 0 ≤ (x16_1 : Int) := of_decide_eq_true (by first | (with_reducible assumption) | assumption)
                have q168 : x16_1 < (y164.length : Int) := of_decide_eq_true (by first | (with_reducible assumption) | assumption)
                obtain ⟨ad168, e168, hx168_0⟩ := Kd.at_int HR167.out x16_1 p168 q168
                cases e168
                replace hx168_0 := (HB.out.cell (World.block_lt_of_cell? w1_167 _ hx168_0)).trans hx168_0
                replace p168 := eq_true p168
                replace q168 := eq_true q168
                go_upto_region 9 with (fail)
                go_cut [32] (fun v32 wc => ∃ (kq : Nat) (x32_7 : Bool), v32 = .bool x32_7 ∧ Aside0 (label_Text.j1 kq x5_1 (rd y164 x16_1) y164 (y164.length : Int) x16_1 x32_7 = some (r1, r2)) ∧ Aside0 (kq ≤ k1) ∧ Aside0 (Kd.R (Kd.int .u8) 5 wc w1_167.heap.size (fun _ => True) u5 x5_1) ∧ Aside0 (Below w1_167.heap.size w1_167 wc))
                case first =>
                  have H := HC8.out
                  clear HC8
                  by_cases c9 : (rd y164 x16_1) = 46
                  · rw [if_pos c9] at H
                    have c9b0 : ((rd y164 x16_1) == 46) = true := beq_iff_eq.mpr c9
                    have c9b1 : ((rd y164 x16_1) != 46) = false := bne_eq_false_iff_eq.mpr c9
                    clear c9
                    (first | rw [c9b0] | (simp only [i64_w, i32_w]; rw [c9b0]) | skip)
                    have H' := Aside0.mk H
                    clear H
                    go_wp2
                    go_meet
                    case rel => exact ⟨_, (true), (by first | rfl | (simp; done) | (simp [*]; done)), H', ⟨by have := HK1.out; first | omega | exact Nat.le_refl _⟩, ⟨by (with_reducible repeat (first | apply Kd.R_alloc | apply Kd.R_drewN | apply Kd.R_drew)); exact HO_5.out⟩, ⟨by repeat (first | (with_reducible first | exact HB.out | apply below_alloc | apply pw_below_drewN | apply below_drew1) | exact HB.out)⟩⟩
                  · rw [if_neg c9] at H
                    have c9b0 : ((rd y164 x16_1) == 46) = false := beq_eq_false_iff_ne.mpr c9
                    have c9b1 : ((rd y164 x16_1) != 46) = true := bne_iff_ne.mpr c9
                    (first | rw [c9b0] | (simp only [i64_w, i32_w]; rw [c9b0]) | skip)
                    have H' := Aside0.mk H
                    clear H
                    go_wp2
                    go_meet
                    case rel => exact ⟨_, (((rd y164 x16_1) == 92)), (by first | rfl | (simp; done) | (simp [*]; done)), H', ⟨by have := HK1.out; first | omega | exact Nat.le_refl _⟩, ⟨by (with_reducible repeat (first | apply Kd.R_alloc | apply Kd.R_drewN | apply Kd.R_drew)); exact HO_5.out⟩, ⟨by repeat (first | (with_reducible first | exact HB.out | apply below_alloc | apply pw_below_drewN | apply below_drew1) | exact HB.out)⟩⟩
                case rest =>
                  clear HC8
                  try clear c1
                  try clear p1
                  try clear q1
                  try clear hx1
                  try clear p2
                  try clear c3
                  try clear c3b0
                  try clear c3b1
                  try clear c4
                  try clear c4b0
                  try clear c4b1
                  try clear c4b2
                  try clear c5
                  try clear c5b0
                  try clear c6
                  try clear c6b0
                  try clear c7
                  try clear c7b0
                  try clear c9
                  try clear c9b0
                  try clear c9b1
                  try clear hx168_0
                  try clear p168
                  try clear p2
                  try clear q168
                  obtain ⟨kq, x32_7, rfl, HA, HJ7, HO_5, HB⟩ := hcut
                  cases kq with
                  | zero => exact absurd HA.out (by simp [label_Text.j1])
                  | succ kj7 =>
                    have H := HA.out
                    clear HA
                    simp only [label_Text.j1] at H
                    by_cases c10 : x32_7 = true
                    · subst c10
                      have H1 : ((some (([92, (rd y164 x16_1)] : List Int) : List Int)).bind fun y169 => (if x5_1.length + y169.length < 140737488355328 then (label_Text.l0 kj7 (x5_1 ++ y169) y164 (y164.length : Int) (wrap64 (x16_1 + 1))) else (none))) = some (r1, r2) := by rw [if_pos rfl] at H; exact H
                      clear H
                      have H := H1
                      clear H1
                      obtain ⟨y169, hy169⟩ : ∃ y_ : List Int, y_ = (([92, (rd y164 x16_1)] : List Int)) := ⟨_, rfl⟩
                      replace H : (if x5_1.length + y169.length < 140737488355328 then (label_Text.l0 kj7 (x5_1 ++ y169) y164 (y164.length : Int) (wrap64 (x16_1 + 1))) else (none)) = some (r1, r2) := by first | (rw [hy169]; with_reducible exact H) | (have H2_ := (Option.bind_some _ _).symm.trans H; rw [hy169]; with_reducible exact H2_) | (have H2_ := (Option.bind_some _ _).symm.trans H; with_reducible exact H2_) | with_reducible exact H | (rw [hy169]; exact H) | exact H
                      have Ny169 := Aside0.mk hy169
                      clear hy169
                      by_cases c11 : x5_1.length + y169.length < 140737488355328
                      · rw [if_pos c11] at H
                        have LMc11 := Aside0.mk c11
                        clear c11
                        obtain ⟨y172, hy172⟩ : ∃ y_ : List Int, y_ = (x5_1 ++ y169) := ⟨_, rfl⟩
                        replace H : (label_Text.l0 kj7 y172 y164 (y164.length : Int) (wrap64 (x16_1 + 1))) = some (r1, r2) := by first | (rw [hy172]; with_reducible exact H) | (have H2_ := (Option.bind_some _ _).symm.trans H; rw [hy172]; with_reducible exact H2_) | (have H2_ := (Option.bind_some _ _).symm.trans H; with_reducible exact H2_) | with_reducible exact H | (rw [hy172]; exact H) | exact H
                        have Ny172 := Aside0.mk hy172
                        clear hy172
                        have H' := Aside0.mk H
                        clear H
                        go_wp2_with (first | ((with_reducible refine gate_dst (N := 41) rfl ?_); refine Kd.R_lit (Kd.int .u8) _ 5 ?hg (N := 41) ?hd (xs := ([92, (rd y164 x16_1)] : List Int)) (inner := [.int .u8 92, .int .u8 (rd y164 x16_1)]) (ok := fun _ => True) (okp := fun _ => True) ?hr ?hp (fun _ hk => hk) trivial (Below.refl _ _) (Nat.le_refl _) (by simp) ?_; (case hd => rfl); (case hg => rfl); (case hr => first | (go_simp; done) | (go_simp; rfl)); (case hp => exact (Reps.one (show Kd.M (Kd.int .u8) _ _ _ 92 [.int .u8 92] from rfl) (Reps.one (show Kd.M (Kd.int .u8) _ _ _ (rd y164 x16_1) [.int .u8 (rd y164 x16_1)] from rfl) (Reps.none _ _)))); intro v170 w12 ho13 hb hg_ hnew_; clear hg_ hnew_; (first | rw [← Ny169.out] at ho13 | (simp only [Int.reduceToNat] at ho13; rw [← Ny169.out] at ho13)); have n0_ := Aside0.mk (Kd.R_elder' (by (with_reducible repeat (first | apply Kd.R_alloc | apply Kd.R_drewN | apply Kd.R_drew)); exact HO_5.out) (Kd.R_base ho13) hb); have n1_ := Aside0.mk (Kd.R_lower (Kd.R_new' ho13 (Kd.R_lt (by (with_reducible repeat (first | apply Kd.R_alloc | apply Kd.R_drewN | apply Kd.R_drew)); exact HO_5.out))) (below_size (by repeat (first | (with_reducible first | exact HB.out | apply below_alloc | apply pw_below_drewN | apply below_drew1) | exact HB.out)))); have n2_ := Aside0.mk (below_step (by repeat (first | (with_reducible first | exact HB.out | apply below_alloc | apply pw_below_drewN | apply below_drew1) | exact HB.out)) hb); clear HO_5; clear HB; have HO_5 := n0_; have HO171 := n1_; have HB := n2_; clear n0_ n1_ n2_; clear hb ho13; obtain ⟨Ao15, co15, eo15⟩ := Kd.R_slice HO171.out; subst eo15) | ((with_reducible refine gate_builtin (b := .append) (xs := #[.tmp 39, .tmp 41]) rfl ?_); at_builtin; refine Kd.R_append_rows (Kd.int .u8) (w0 := w1_167) w1_167.heap.size rfl (.tmp 39) (.tmp 41) 44 5 (.int .u8 0) 1 rfl Try.underlying44 info5 rfl (by decide) (by omega) u5 x5_1 y169 _ _ _ (fun k_ => some k_ ≠ (.slice Ao15 y169.length co15 : Value).ownBlock) (fun _ => False) rfl rfl ?aO ?aR (fun _ _ h => h) (fun _ h => h.elim) ?aF ?aB ?aS ?aL ?_; (case aR => repeat (first | exact (Kd.R_reads' HO171.out).2.2 | (with_reducible refine Kd.C_alloc ?_ _) | (with_reducible refine Kd.C_drewN ?_ _) | (with_reducible refine Kd.C_drew ?_))); (case aB => exact (by repeat (first | (with_reducible first | exact HB.out | apply below_alloc | apply pw_below_drewN | apply below_drew1) | exact HB.out))); (case aF => exact (fun k_ hk => Kd.fresh' (Kd.R_lt (by (with_reducible repeat (first | apply Kd.R_alloc | apply Kd.R_drewN | apply Kd.R_drew)); exact HO171.out)) k_ hk)); (case aO => exact (by (with_reducible repeat (first | apply Kd.R_alloc | apply Kd.R_drewN | apply Kd.R_drew)); exact Kd.R_mono HO_5.out (fun _ hk => hk.2))); (case aS => exact (below_size (by repeat (first | (with_reducible first | exact HB.out | apply below_alloc | apply pw_below_drewN | apply below_drew1) | exact HB.out)))); (case aL => have := LMc11.out; omega); intro v173 w14 ho hb hg hat; rw [← Ny172.out] at ho; have n0_ := Aside0.mk (Kd.R_after (ok := (fun _ => True)) (by (with_reducible repeat (first | apply Kd.R_alloc | apply Kd.R_drewN | apply Kd.R_drew)); exact HO171.out) hg hat); have n1_ := Aside0.mk (hb); have n2_ := Aside0.mk (ho); clear HO171; clear HB; clear HO_5; have HO171 := n0_; have HB := n1_; have HO174 := n2_; clear n0_ n1_ n2_; clear ho hb hg hat))
                        go_roundg kj7
                        case measure => have := HK1.out; have := HJ7.out; omega
                        case rel => exact ⟨(y172), (wrap64 (x16_1 + 1)), (by first | rfl | (simp; done) | (simp [*]; done)), H', ⟨by have := HK1.out; have := HJ7.out; omega⟩, ⟨by (with_reducible repeat (first | apply Kd.R_alloc | apply Kd.R_drewN | apply Kd.R_drew)); exact Kd.R_mono HO174.out (fun _ hk => trivial)⟩, ⟨by repeat (first | (with_reducible first | exact HB.out | apply below_alloc | apply pw_below_drewN | apply below_drew1) | exact HB.out)⟩⟩
                      · rw [if_neg c11] at H
                        exact absurd H (by simp)
                    · replace c10 := Bool.eq_false_iff.mpr c10
                      subst c10
                      have H1 : ((label_plain.f (rd y164 x16_1)).bind fun t175 => (if t175 = true then (if x5_1.length < 140737488355328 then (label_Text.l0 kj7 (x5_1 ++ [(rd y164 x16_1)]) y164 (y164.length : Int) (wrap64 (x16_1 + 1))) else (none)) else (if x5_1.length < 140737488355328 then ((label_digits.f kj7 (x5_1 ++ [92]) (([(Int.tdiv (rd y164 x16_1) 100) % 256, ((Int.tdiv (rd y164 x16_1) 10) % 256) % 10, Int.tmod (rd y164 x16_1) 10] : List Int))).bind fun t185 => (label_Text.l0 kj7 t185 y164 (y164.length : Int) (wrap64 (x16_1 + 1)))) else (none)))) = some (r1, r2) := by rw [if_neg (show ¬ (false = true) by decide)] at H; exact H
                      clear H
                      have H := H1
                      clear H1
                      replace H := Option.bind_eq_some_iff.mp H
                      obtain ⟨t175, A160, H⟩ := H
                      replace H : (if t175 = true then (if x5_1.length < 140737488355328 then (label_Text.l0 kj7 (x5_1 ++ [(rd y164 x16_1)]) y164 (y164.length : Int) (wrap64 (x16_1 + 1))) else (none)) else (if x5_1.length < 140737488355328 then ((label_digits.f kj7 (x5_1 ++ [92]) (([(Int.tdiv (rd y164 x16_1) 100) % 256, ((Int.tdiv (rd y164 x16_1) 10) % 256) % 10, Int.tmod (rd y164 x16_1) 10] : List Int))).bind fun t185 => (label_Text.l0 kj7 t185 y164 (y164.length : Int) (wrap64 (x16_1 + 1)))) else (none))) = some (r1, r2) := H
                      have A16 := Aside0.mk A160
                      clear A160
                      by_cases c17 : t175 = true
                      · subst c17
                        have H1 : (if x5_1.length < 140737488355328 then (label_Text.l0 kj7 (x5_1 ++ [(rd y164 x16_1)]) y164 (y164.length : Int) (wrap64 (x16_1 + 1))) else (none)) = some (r1, r2) := by rw [if_pos rfl] at H; exact H
                        clear H
                        have H := H1
                        clear H1
                        by_cases c18 : x5_1.length < 140737488355328
                        · rw [if_pos c18] at H
                          have LMc18 := Aside0.mk c18
                          clear c18
                          obtain ⟨y176, hy176⟩ : ∃ y_ : List Int, y_ = (x5_1 ++ [(rd y164 x16_1)]) := ⟨_, rfl⟩
                          replace H : (label_Text.l0 kj7 y176 y164 (y164.length : Int) (wrap64 (x16_1 + 1))) = some (r1, r2) := by first | (rw [hy176]; with_reducible exact H) | (have H2_ := (Option.bind_some _ _).symm.trans H; rw [hy176]; with_reducible exact H2_) | (have H2_ := (Option.bind_some _ _).symm.trans H; with_reducible exact H2_) | with_reducible exact H | (rw [hy176]; exact H) | exact H
                          have Ny176 := Aside0.mk hy176
                          clear hy176
                          have H' := Aside0.mk H
                          clear H
                          go_wp2_with (first | ((with_reducible refine gate_callee (f := 59) rfl ?_); refine goesL_ (some 45) rfl rfl Try.func59 (by kernel_rfl) rfl #[.int .u8 (rd y164 x16_1)] rfl (by (try simp only [List.map_toArray, List.map_cons, List.map_nil]); first | done | rfl | (simp only [List.length_drop, List.length_take]; rfl)) ?_; (with_reducible refine (label_plain.calls (rd y164 x16_1) true _ A16.out).mono ?_); rintro e w' ⟨rfl, ⟨nd, rfl⟩⟩; refine ⟨_, rfl, ?_⟩) | ((with_reducible refine gate_builtin (b := .append) (xs := #[.tmp 46, .tmp 48]) rfl ?_); at_builtin; refine Kd.R_append (Kd.int .u8) (w0 := w1_167) w1_167.heap.size rfl (.tmp 46) (.tmp 48) 44 5 (.int .u8 0) 1 rfl Try.underlying44 info5 rfl (by decide) (by omega) u5 x5_1 (rd y164 x16_1) [.int .u8 (rd y164 x16_1)] (fun _ => True) (fun _ => False) rfl rfl ?aP (fun _ hk => hk.elim) ?aF ?aO ?aB ?aS ?aL ?_; (case aP => exact rfl); (case aB => exact (by repeat (first | (with_reducible first | exact HB.out | apply below_alloc | apply pw_below_drewN | apply below_drew1) | exact HB.out))); (case aF => exact (fun _ _ => trivial)); (case aO => exact (by (with_reducible repeat (first | apply Kd.R_alloc | apply Kd.R_drewN | apply Kd.R_drew)); exact HO_5.out)); (case aS => exact (below_size (by repeat (first | (with_reducible first | exact HB.out | apply below_alloc | apply pw_below_drewN | apply below_drew1) | exact HB.out)))); (case aL => have := LMc18.out; omega); intro v177 w19 ho hb hg hat; rw [← Ny176.out] at ho; have n0_ := Aside0.mk (hb); have n1_ := Aside0.mk (ho); clear HB; clear HO_5; have HB := n0_; have HO178 := n1_; clear n0_ n1_; clear ho hb hg hat))
                          go_roundg kj7
                          case measure => have := HK1.out; have := HJ7.out; omega
                          case rel => exact ⟨(y176), (wrap64 (x16_1 + 1)), (by first | rfl | (simp; done) | (simp [*]; done)), H', ⟨by have := HK1.out; have := HJ7.out; omega⟩, ⟨by (with_reducible repeat (first | apply Kd.R_alloc | apply Kd.R_drewN | apply Kd.R_drew)); exact HO178.out⟩, ⟨by repeat (first | (with_reducible first | exact HB.out | apply below_alloc | apply pw_below_drewN | apply below_drew1) | exact HB.out)⟩⟩
                        · rw [if_neg c18] at H
                          exact absurd H (by simp)
                      · replace c17 := Bool.eq_false_iff.mpr c17
                        subst c17
                        have H1 : (if x5_1.length < 140737488355328 then ((label_digits.f kj7 (x5_1 ++ [92]) (([(Int.tdiv (rd y164 x16_1) 100) % 256, ((Int.tdiv (rd y164 x16_1) 10) % 256) % 10, Int.tmod (rd y164 x16_1) 10] : List Int))).bind fun t185 => (label_Text.l0 kj7 t185 y164 (y164.length : Int) (wrap64 (x16_1 + 1)))) else (none)) = some (r1, r2) := by rw [if_neg (show ¬ (false = true) by decide)] at H; exact H
                        clear H
                        have H := H1
                        clear H1
                        by_cases c20 : x5_1.length < 140737488355328
                        · rw [if_pos c20] at H
                          have LMc20 := Aside0.mk c20
                          clear c20
                          obtain ⟨y179, hy179⟩ : ∃ y_ : List Int, y_ = (x5_1 ++ [92]) := ⟨_, rfl⟩
                          replace H : ((label_digits.f kj7 y179 (([(Int.tdiv (rd y164 x16_1) 100) % 256, ((Int.tdiv (rd y164 x16_1) 10) % 256) % 10, Int.tmod (rd y164 x16_1) 10] : List Int))).bind fun t185 => (label_Text.l0 kj7 t185 y164 (y164.length : Int) (wrap64 (x16_1 + 1)))) = some (r1, r2) := by first | (rw [hy179]; with_reducible exact H) | (have H2_ := (Option.bind_some _ _).symm.trans H; rw [hy179]; with_reducible exact H2_) | (have H2_ := (Option.bind_some _ _).symm.trans H; with_reducible exact H2_) | with_reducible exact H | (rw [hy179]; exact H) | exact H
                          have Ny179 := Aside0.mk hy179
                          clear hy179
                          obtain ⟨y182, hy182⟩ : ∃ y_ : List Int, y_ = (([(Int.tdiv (rd y164 x16_1) 100) % 256, ((Int.tdiv (rd y164 x16_1) 10) % 256) % 10, Int.tmod (rd y164 x16_1) 10] : List Int)) := ⟨_, rfl⟩
                          replace H : ((label_digits.f kj7 y179 y182).bind fun t185 => (label_Text.l0 kj7 t185 y164 (y164.length : Int) (wrap64 (x16_1 + 1)))) = some (r1, r2) := by first | (rw [hy182]; with_reducible exact H) | (have H2_ := (Option.bind_some _ _).symm.trans H; rw [hy182]; with_reducible exact H2_) | (have H2_ := (Option.bind_some _ _).symm.trans H; with_reducible exact H2_) | with_reducible exact H | (rw [hy182]; exact H) | exact H
                          have Ny182 := Aside0.mk hy182
                          clear hy182
                          replace H := Option.bind_eq_some_iff.mp H
                          obtain ⟨t185, A210, H⟩ := H
                          replace H : (label_Text.l0 kj7 t185 y164 (y164.length : Int) (wrap64 (x16_1 + 1))) = some (r1, r2) := H
                          have A21 := Aside0.mk A210
                          clear A210
                          have H' := Aside0.mk H
                          clear H
                          go_wp2_with (first | ((with_reducible refine gate_callee (f := 59) rfl ?_); refine goesL_ (some 45) rfl rfl Try.func59 (by kernel_rfl) rfl #[.int .u8 (rd y164 x16_1)] rfl (by (try simp only [List.map_toArray, List.map_cons, List.map_nil]); first | done | rfl | (simp only [List.length_drop, List.length_take]; rfl)) ?_; (with_reducible refine (label_plain.calls (rd y164 x16_1) false _ A16.out).mono ?_); rintro e w' ⟨rfl, ⟨nd, rfl⟩⟩; refine ⟨_, rfl, ?_⟩) | ((with_reducible refine gate_builtin (b := .append) (xs := #[.tmp 20, .tmp 21]) rfl ?_); at_builtin; refine Kd.R_append (Kd.int .u8) (w0 := w1_167) w1_167.heap.size rfl (.tmp 20) (.tmp 21) 44 5 (.int .u8 0) 1 rfl Try.underlying44 info5 rfl (by decide) (by omega) u5 x5_1 92 [.int .u8 92] (fun _ => True) (fun _ => False) rfl rfl ?aP (fun _ hk => hk.elim) ?aF ?aO ?aB ?aS ?aL ?_; (case aP => exact rfl); (case aB => exact (by repeat (first | (with_reducible first | exact HB.out | apply below_alloc | apply pw_below_drewN | apply below_drew1) | exact HB.out))); (case aF => exact (fun _ _ => trivial)); (case aO => exact (by (with_reducible repeat (first | apply Kd.R_alloc | apply Kd.R_drewN | apply Kd.R_drew)); exact HO_5.out)); (case aS => exact (below_size (by repeat (first | (with_reducible first | exact HB.out | apply below_alloc | apply pw_below_drewN | apply below_drew1) | exact HB.out)))); (case aL => have := LMc20.out; omega); intro v180 w22 ho hb hg hat; rw [← Ny179.out] at ho; have n0_ := Aside0.mk (hb); have n1_ := Aside0.mk (ho); clear HB; clear HO_5; have HB := n0_; have HO181 := n1_; clear n0_ n1_; clear ho hb hg hat) | ((with_reducible refine gate_dst (N := 30) rfl ?_); refine Kd.R_lit (Kd.int .u8) _ 5 ?hg (N := 30) ?hd (xs := ([(Int.tdiv (rd y164 x16_1) 100) % 256, ((Int.tdiv (rd y164 x16_1) 10) % 256) % 10, Int.tmod (rd y164 x16_1) 10] : List Int)) (inner := [.int .u8 ((Int.tdiv (rd y164 x16_1) 100) % 256), .int .u8 (((Int.tdiv (rd y164 x16_1) 10) % 256) % 10), .int .u8 (Int.tmod (rd y164 x16_1) 10)]) (ok := fun _ => True) (okp := fun _ => True) ?hr ?hp (fun _ hk => hk) trivial (Below.refl _ _) (Nat.le_refl _) (by simp) ?_; (case hd => rfl); (case hg => rfl); (case hr => first | (go_simp; done) | (go_simp; rfl)); (case hp => exact (Reps.one (show Kd.M (Kd.int .u8) _ _ _ ((Int.tdiv (rd y164 x16_1) 100) % 256) [.int .u8 ((Int.tdiv (rd y164 x16_1) 100) % 256)] from rfl) (Reps.one (show Kd.M (Kd.int .u8) _ _ _ (((Int.tdiv (rd y164 x16_1) 10) % 256) % 10) [.int .u8 (((Int.tdiv (rd y164 x16_1) 10) % 256) % 10)] from rfl) (Reps.one (show Kd.M (Kd.int .u8) _ _ _ (Int.tmod (rd y164 x16_1) 10) [.int .u8 (Int.tmod (rd y164 x16_1) 10)] from rfl) (Reps.none _ _))))); intro v183 w23 ho24 hb hg_ hnew_; clear hg_ hnew_; (first | rw [← Ny182.out] at ho24 | (simp only [Int.reduceToNat] at ho24; rw [← Ny182.out] at ho24)); have n0_ := Aside0.mk (Kd.R_elder' (by (with_reducible repeat (first | apply Kd.R_alloc | apply Kd.R_drewN | apply Kd.R_drew)); exact HO181.out) (Kd.R_base ho24) hb); have n1_ := Aside0.mk (Kd.R_lower (Kd.R_new' ho24 (Kd.R_lt (by (with_reducible repeat (first | apply Kd.R_alloc | apply Kd.R_drewN | apply Kd.R_drew)); exact HO181.out))) (below_size (by repeat (first | (with_reducible first | exact HB.out | apply below_alloc | apply pw_below_drewN | apply below_drew1) | exact HB.out)))); have n2_ := Aside0.mk (below_step (by repeat (first | (with_reducible first | exact HB.out | apply below_alloc | apply pw_below_drewN | apply below_drew1) | exact HB.out)) hb); clear HO181; clear HB; have HO181 := n0_; have HO184 := n1_; have HB := n2_; clear n0_ n1_ n2_; clear hb ho24; obtain ⟨Ao25, co25, eo25⟩ := Kd.R_slice HO181.out; subst eo25; obtain ⟨Ao26, co26, eo26⟩ := Kd.R_slice HO184.out; subst eo26) | ((with_reducible refine gate_callee (f := 60) rfl ?_); refine goesL_ (some 31) rfl rfl Try.func60 (by kernel_rfl) rfl #[.slice Ao25 y179.length co25, .slice Ao26 y182.length co26] rfl (by (try simp only [List.map_toArray, List.map_cons, List.map_nil]); first | done | rfl | (simp only [List.length_drop, List.length_take]; rfl)) ?_; (with_reducible refine (label_digits.calls kj7 (fun k_ => some k_ = (.slice Ao25 y179.length co25 : Value).ownBlock) (.slice Ao25 y179.length co25) y179 _ _ y182 t185 w1_167 _ ?side1 ?side2 ?side3 ?side4 A21.out).mono ?_); (case side1 => repeat (first | (with_reducible first | exact HB.out | apply below_alloc | apply pw_below_drewN | apply below_drew1) | exact HB.out)); (case side2 => exact Kd.R_tight rfl HO181.out); (case side3 => exact Kd.C_kept_own (HO184.out) (fun k_ hk_ hs_ => (hk_.2) hs_)); (case side4 => exact (Kd.R_reads' HO184.out).2.1); rintro e w27 ⟨v186, rfl, ho0, hb, hkp⟩; refine ⟨_, rfl, ?_⟩; have n0_ := Aside0.mk (Kd.R_mono (ok' := fun k_ => some k_ ≠ (v186 : Value).ownBlock) (Kd.R_keptB (HO184.out) hkp (fun k_ hk_ hs_ => (hk_.2) hs_)) (fun k_ hk_ => fun e_ => Or.elim (ho0.1 k_ e_.symm) (fun hs_ => hk_.2.1 hs_) (fun hn_ => Nat.not_le.2 hk_.2.2 hn_))); have n1_ := Aside0.mk (Kd.R_mono (ok' := fun k_ => some k_ ≠ (.slice Ao26 y182.length co26 : Value).ownBlock) ho0 (fun k_ hk_ => Or.elim hk_ (fun hs_ => fun e_ => (((HO184.out).1 k_ e_.symm).2) hs_) (fun hn_ => (Kd.fresh' (Kd.R_lt (by (with_reducible repeat (first | apply Kd.R_alloc | apply Kd.R_drewN | apply Kd.R_drew)); exact HO184.out)) k_ hn_)))); have n2_ := Aside0.mk (hb); clear HO184; clear HB; clear HO181; have HO184 := n0_; have HO187 := n1_; have HB := n2_; clear n0_ n1_ n2_; (try clear hb); (try clear hkp); (try clear ho0)))
                          go_roundg kj7
                          case measure => have := HK1.out; have := HJ7.out; omega
                          case rel => exact ⟨(t185), (wrap64 (x16_1 + 1)), (by first | rfl | (simp; done) | (simp [*]; done)), H', ⟨by have := HK1.out; have := HJ7.out; omega⟩, ⟨by (with_reducible repeat (first | apply Kd.R_alloc | apply Kd.R_drewN | apply Kd.R_drew)); exact Kd.R_mono HO187.out (fun _ hk => trivial)⟩, ⟨by repeat (first | (with_reducible first | exact HB.out | apply below_alloc | apply pw_below_drewN | apply below_drew1) | exact HB.out)⟩⟩
                        · rw [if_neg c20] at H
                          exact absurd H (by simp)
              · rw [if_neg c7] at H
                exact absurd H (by simp)
            · rw [if_neg c6] at H
              exact absurd H (by simp)
          · rw [if_neg c5] at H
            have c5b0 : decide (x16_1 < (y164.length : Int)) = false := decide_eq_false c5
            clear c5
            simp only [Option.some.injEq, Prod.mk.injEq] at H
            obtain ⟨rfl, rfl⟩ := H
            have hcv28 := own_string (P := Try.prog) Try.underlying44 Try.underlying5 Try.underlying9 (Kd.own_of_R HO_5.out)
            go_wp2
            go_ret2
            exact ⟨by first | rfl | (simp [errW_none, errW_some] <;> rfl) | (simp [*, errW_none, errW_some] <;> rfl), by refine below_from HBP167.out ?_; repeat (first | (with_reducible first | exact HB.out | apply below_alloc | apply pw_below_drewN | apply below_drew1) | exact HB.out)⟩
    · rw [if_neg c4] at H
      exact absurd H (by simp)
  · rw [if_neg c3] at H
    have c3b0 : (t163 == 0) = false := beq_eq_false_iff_ne.mpr c3
    have c3b1 : (t163 != 0) = true := bne_iff_ne.mpr c3
    simp only [Option.some.injEq, Prod.mk.injEq] at H
    obtain ⟨rfl, rfl⟩ := H
    go_enter Try.func39, Try.ntmps39
    go_wp2_with (first | ((with_reducible refine gate_callee (f := 32) rfl ?_); refine goesL_ (some 9) rfl rfl Try.func32 (by kernel_rfl) rfl #[.string a0] rfl (by (try simp only [List.map_toArray, List.map_cons, List.map_nil]); first | done | rfl | (simp only [List.length_drop, List.length_take]; rfl)) ?_; (with_reducible refine (label_Check.calls a0 t163 _ A2.out).mono ?_); rintro e w' ⟨rfl, ⟨nd, rfl⟩⟩; refine ⟨_, rfl, ?_⟩))
    go_ret2
    exact ⟨by first | rfl | (simp [errW_none, errW_some] <;> rfl) | (simp [*, errW_none, errW_some] <;> rfl), by repeat (first | (with_reducible first | exact HB.out | apply below_alloc | apply pw_below_drewN | apply below_drew1) | exact HB.out)⟩

section
open Go.Shelf
attribute [local go_sem] Oper.semAt_some
def tellsT (k : Nat) (x : ByteArray) : Prop := ∃ r1 r2, label_Text.f k x = some (r1, r2) ∧ r1.size ≤ 1000
def txAll (k : Nat) : List ByteArray → Option (List UInt8)
  | [] => some []
  | x :: t => (label_Text.f k x).bind fun p => (txAll k t).bind fun q => if p.1.size ≤ 1000 then some (p.1.data.toList ++ 46 :: q) else none
theorem txAll_snoc {k : Nat} {l : List ByteArray} {q : List UInt8} {x r1 : ByteArray} {r2 : Int} (h : txAll k l = some q) (hx : label_Text.f k x = some (r1, r2)) (hr : r1.size ≤ 1000) : txAll k (l ++ [x]) = some (q ++ (r1.data.toList ++ [46])) := by
  induction l generalizing q with
  | nil =>
    obtain rfl := Option.some.inj h
    show (label_Text.f k x).bind _ = _
    rw [hx, Option.bind_some, show txAll k [] = some [] from rfl, Option.bind_some, if_pos hr]
    simp
  | cons a t ih =>
    have h' : ((label_Text.f k a).bind fun p => (txAll k t).bind fun q => if p.1.size ≤ 1000 then some (p.1.data.toList ++ 46 :: q) else none) = some q := h
    cases ha : label_Text.f k a with
    | none => rw [ha] at h'; cases h'
    | some p =>
      rw [ha, Option.bind_some] at h'
      cases ht : txAll k t with
      | none => rw [ht] at h'; cases h'
      | some q1 =>
        rw [ht, Option.bind_some] at h'
        by_cases hp : p.1.size ≤ 1000
        · rw [if_pos hp] at h'
          obtain rfl := Option.some.inj h'
          show (label_Text.f k a).bind (fun p => (txAll k (t ++ [x])).bind fun q => if p.1.size ≤ 1000 then some (p.1.data.toList ++ 46 :: q) else none) = _
          rw [ha, Option.bind_some, ih ht, Option.bind_some, if_pos hp]
          simp
        · rw [if_neg hp] at h'; cases h'
theorem txAll_tells {k : Nat} {l : List ByteArray} {q : List UInt8} (h : txAll k l = some q) : (∀ x ∈ l, tellsT k x) ∧ q.length ≤ 1001 * l.length := by
  induction l generalizing q with
  | nil =>
    obtain rfl := Option.some.inj h
    exact ⟨fun x hx => (by cases hx), (by simp)⟩
  | cons a t ih =>
    have h' : ((label_Text.f k a).bind fun p => (txAll k t).bind fun q => if p.1.size ≤ 1000 then some (p.1.data.toList ++ 46 :: q) else none) = some q := h
    cases ha : label_Text.f k a with
    | none => rw [ha] at h'; cases h'
    | some p =>
      rw [ha, Option.bind_some] at h'
      cases ht : txAll k t with
      | none => rw [ht] at h'; cases h'
      | some q1 =>
        rw [ht, Option.bind_some] at h'
        by_cases hp : p.1.size ≤ 1000
        · rw [if_pos hp] at h'
          obtain rfl := Option.some.inj h'
          obtain ⟨h1, h2⟩ := ih ht
          refine ⟨?_, ?_⟩
          · intro x hx
            rcases List.mem_cons.1 hx with rfl | hx
            · exact ⟨p.1, p.2, ha, hp⟩
            · exact h1 x hx
          · have := data_length p.1
            simp only [List.length_append, List.length_cons]
            omega
        · rw [if_neg hp] at h'; cases h'

theorem builder_kept {T e : TypeId} {B b : Nat} {bs : List Value} {W W' : World} {row : Option Nat} (h : Lib.IsBuilder T e B b bs W) (hg : W.grownBy W' row) (hr : ∀ r, row = some r → ∃ o : Obj, W.heap[r]? = some o ∧ o.isCells = false) : Lib.IsBuilder T e B b bs W' := by
  have key : ∀ p, Lib.BuilderAt T e B b p bs W → Lib.BuilderAt T e B b p bs W' := by
    rintro p ⟨hB, v, hb, hown, hne⟩
    refine ⟨hB, v, ?_, hown.kept hg ?_, hne⟩
    · rw [hg.block b (Array.getElem?_eq_some_iff.1 hb).1 (fun e' => ?_)]
      · exact hb
      · obtain ⟨o, ho, hc⟩ := hr b (by first | exact e'.symm | exact e')
        rw [hb] at ho; cases ho; cases hc
    · rcases hown.2 with ⟨rfl, _⟩ | ⟨g, cap, cur, rfl, _, hgb, _⟩
      · exact .inl rfl
      · refine .inr fun e' => ?_
        obtain ⟨o, ho, hc⟩ := hr g (by simpa [Value.ownBlock] using e'.symm)
        rw [hgb] at ho; cases ho; cases hc
  rcases h with h | h
  · exact .inl (key _ h)
  · exact .inr (key _ h)
theorem builder_below {T e : TypeId} {B b : Nat} {bs : List Value} {W W' : World} (h : Lib.IsBuilder T e B b bs W) (hb' : Below W.heap.size W W') : Lib.IsBuilder T e B b bs W' := by
  have key : ∀ p, Lib.BuilderAt T e B b p bs W → Lib.BuilderAt T e B b p bs W' := by
    rintro p ⟨hB, v, hb, hown, hne⟩
    exact ⟨hB, v, (hb'.block b (Array.getElem?_eq_some_iff.1 hb).1).trans hb, (hown.kept (row := none) ⟨hb'.os, hb'.tape, hb'.output, hb'.size, fun j hj _ => hb'.block j hj⟩ (by cases hv : v.ownBlock <;> simp)), hne⟩
  rcases h with h | h
  · exact .inl (key _ h)
  · exact .inr (key _ h)
theorem kept_others {b : Nat} {cs : Array Value} {T : TypeId} {fz : Nat × Nat} {W W' : World} (h : Lib.OthersKept 5 (some b) W W') (hs : W.heap.size ≤ W'.heap.size) (hb : W.heap[b]? = some (.cells cs T fz)) : KeepsOthers W W' := by
  refine ⟨hs, fun k o hk ho => h k o hk (fun e => ?_) (fun c fz e => ?_)⟩
  · cases e
    rw [hb] at hk; cases hk; cases ho
  · subst e; cases ho

def name_Text.f (k : Nat) (s : ByteArray) : Option (ByteArray × Int) :=
  (name_Check.f k s).bind fun t => if t = 0 then (if s.size = 0 then some (⟨#[46]⟩, 0) else if s.size ≤ 254 ∧ (labelsP s).length ≤ 254 then (txAll k (labelsP s)).bind fun q => some (⟨q.toArray⟩, 0) else none) else some (⟨#[]⟩, t)

set_option maxRecDepth 100000 in
set_option maxHeartbeats 2000000 in
theorem text_in (n : Nat) (hn : 3 ≤ n) (k : Nat) (s : ByteArray) (q : List UInt8) (hs : s.size ≤ 254) (hs0 : s.size ≠ 0) (hlen : (labelsP s).length ≤ 254) (hk : name_Check.f k s = some 0) (hq : txAll k (labelsP s) = some q) (w : World) :
    CallsIn Fence.wide n Try.prog 7 #[.string s] w fun e W' => e = .returned (.tuple #[.string ⟨q.toArray⟩, .int .i64 0]) ∧ Below w.heap.size w W' := by
  have h1 : 1 ≤ n := by omega
  have HC := Aside0.mk hk
  have HQ := Aside0.mk hq
  clear hk hq
  have hne : s.toList.isEmpty = false := by
    rw [ByteArray.toList_eq, List.isEmpty_eq_false_iff]
    intro h
    have := data_length s
    rw [h] at this
    exact hs0 this.symm
  obtain ⟨htell, hql⟩ := txAll_tells HQ.out
  refine callsIn_of_wp_marks Try.func7 rfl trivial ?_ rfl
  simp only [Try.ntmps7, List.size_toArray, List.length_cons, List.length_nil, Nat.reduceAdd, Nat.reduceSub, Array.replicate_succ, Array.replicate_zero, List.push_toArray, List.append_toArray, List.nil_append, List.cons_append]
  gi_wp2_with (first
    | (refine ⟨trivial, ?_⟩; gi_at_call 15; (refine (callsIn_wide.2 (name_Check.calls k s 0 _ HC.out)).mono ?_); rintro e w' ⟨rfl, ⟨nd, rfl⟩⟩)
    | (refine ⟨trivial, ?_⟩; gi_at_call 38; (refine (each_calls (n - 1) s _).mono ?_); rintro e w' ⟨rfl, rfl⟩))
  have hB0 : Below w.heap.size w (((w.drewN nd).alloc (Obj.cells #[Value.pointer none, Value.slice none 0 0] 46)).alloc (.cells #[.string s] 22)) := ((pw_below_drewN (Below.refl _ _) nd).alloc (by simp) _).alloc (by simp) _
  have hbx : (((w.drewN nd).alloc (Obj.cells #[Value.pointer none, Value.slice none 0 0] 46)).alloc (.cells #[.string s] 22)).cell? ⟨w.heap.size + 1, 0, none⟩ = some (.string s) := by
    have := (Boxed.new ((w.drewN nd).alloc (Obj.cells #[Value.pointer none, Value.slice none 0 0] 46)) 22 (.string s)).cell
    simpa using this
  have hI0 : Lib.IsBuilder 46 5 w.heap.size w.heap.size [] (((w.drewN nd).alloc (Obj.cells #[Value.pointer none, Value.slice none 0 0] 46)).alloc (.cells #[.string s] 22)) := builder_below (Lib.fresh_isBuilder 46 5 (w.drewN nd)) ((Below.refl _ _).alloc (Nat.le_refl _) _)
  have hseq := each1_stopsQ (tellsT k) (n - 1) (by omega) (w.heap.size + 1) s (by omega) htell (((w.drewN nd).alloc (Obj.cells #[Value.pointer none, Value.slice none 0 0] 46)).alloc (.cells #[.string s] 22)) (by simp) hbx
  refine wpIn_rangeFunc_ownG rfl h1 (gf := 58) (lb := #[.pointer (some ⟨w.heap.size + 1, 0, none⟩)]) rfl trivial (enters_of Try.func58 (by kernel_rfl) rfl) hseq walksK_t walksK_b (Below.refl _ _) (fun _ => rfl)
    (fun pre W => (∃ l, txAll k (pre.map Subtype.val) = some l ∧ Lib.IsBuilder 46 5 w.heap.size w.heap.size (Lib.byteCells l) W) ∧ Below w.heap.size w W)
    (fun _ _ _ => False)
    (OwnFrom.and (Own.from (fun _ A B row hs hg hr => by obtain ⟨l, h1, h2⟩ := hs; exact ⟨l, h1, builder_kept h2 hg hr⟩) _) (ownFrom_below (Nat.le_refl _) (by simp; omega)))
    (fun _ _ _ _ _ hs _ _ => hs)
    ⟨⟨[], rfl, hI0⟩, hB0⟩
    (fun x => { tmps := #[.string s, undef, .string ⟨#[]⟩, .int .i64 0, .int .i64 0, .pointer (some ⟨w.heap.size, 0, none⟩), .string x.1, undef, undef, .string s, .int .i64 0, .int .i64 0, .bool false, undef, .string s, .bool false, .string s, .func (.func 58) #[] #[.pointer (some ⟨w.heap.size + 1, 0, none⟩)], .string x.1, undef, undef, undef, undef, undef, undef, undef, undef, undef], defers := [] }) ?assign ?body ?done ?stop
  case assign =>
    intro l x W K hK
    gi_wp2
    exact hK
  case body =>
    rintro l pre x W ⟨⟨q1, hq1, hI⟩, hB⟩ hlt
    obtain ⟨r1, r2, hx, hr⟩ := x.2
    have hq1l := (txAll_tells hq1).2
    rw [List.length_map] at hq1l
    have hsn := txAll_snoc hq1 hx hr
    have hBs := hB.size
    have h12 : 1 ≤ n - 1 - 1 := by omega
    have hsz : (Lib.byteCells q1).length + (r1 ++ (⟨#[46]⟩ : ByteArray)).size ≤ 140737488355328 := by
      rw [Lib.byteCells_length, ByteArray.size_append]
      show _ + (_ + 1) ≤ _
      omega
    have HT := fun (w1 : World) (hI : Lib.IsBuilder 46 5 w.heap.size w.heap.size (Lib.byteCells q1) w1) (hs : w.heap.size ≤ w1.heap.size) => (callsIn_wide (n := n - 1 - 1 - 1)).2 (bd_string_ w.heap.size w.heap.size (Lib.byteCells q1) (r1 ++ ⟨#[46]⟩) w1 hI hsz hs)
    gi_wp2_with (first
      | (refine ⟨trivial, ?_⟩; gi_at_call 39; (with_reducible refine CallsIn.mono (CallsIn.inRound (F := Fence.wide) l (callsIn_wide.2 (label_Text.calls k x.1 r1 r2 _ hx))) ?_); rintro e w1 ⟨rfl, hb1⟩; have hI1 := builder_below hI hb1)
      | (refine ⟨trivial, ?_⟩; gi_at_call 34; (with_reducible refine CallsIn.mono (CallsIn.inRound (F := Fence.wide) l (HT _ hI1 (Nat.le_trans hBs hb1.size))) ?_); rintro e w2 ⟨rfl, h2, hb2, hk2⟩))
    have hk0 : Lib.OthersKept 5 (some w.heap.size) W w2 := ((Lib.OthersKept.refl 5 (some w.heap.size) W).below hb1).trans hk2
    obtain ⟨cs, hcs⟩ : ∃ cs, W.heap[w.heap.size]? = some (.cells cs 46 (0, 0)) := by
      rcases hI with ⟨_, v, hb, _⟩ | ⟨_, v, hb, _⟩
      · exact ⟨_, hb⟩
      · exact ⟨_, hb⟩
    have hk : KeepsOthers W w2 := kept_others hk0 (Nat.le_trans hb1.size hb2.size) hcs
    refine ⟨hk.from _, hk.walks, ⟨_, by rw [List.map_append]; exact hsn, .inr ?_⟩, (hB.trans (hb1.mono hBs)).trans hb2⟩
    rw [Lib.byteCells_append]
    exact h2
  case done =>
    rintro D ys W hD hys ⟨⟨q1, hq1, hI⟩, hB⟩ hK
    have e1 : q1 = q := by
      rw [hys, HQ.out] at hq1
      exact (Option.some.inj hq1).symm
    subst e1
    gi_wp2_with (refine ⟨trivial, ?_⟩; gi_at_call 36; (refine (callsIn_wide.2 (Try.Builder_String_any_k w.heap.size w.heap.size _ _ (Lib.IsBuilderF.of hI) hB.size)).mono ?_); rintro e w1 ⟨rfl, _, hb1, hk1⟩)
    refine ⟨by simp, .inl ⟨_, _, rfl, run_takeDeferred (hk1 D _ hK (fun e => by cases e; simp at hD; omega) (fun c fz e => by cases e)), ?_⟩⟩
    exact ⟨_, results_tmp2 rfl _ _ _, rfl, (hB.trans hb1).trans (belowK_b (w := w) (Nat.le_refl _) _ D _ _ (by simp at hD; omega) (hk1 D _ hK (fun e => by cases e; simp at hD; omega) (fun c fz e => by cases e)) rfl rfl)⟩
  case stop =>
    rintro D c pre W _ _ h _
    exact h.elim

set_option maxRecDepth 100000 in
set_option maxHeartbeats 2000000 in
theorem text_bad (k : Nat) (s : ByteArray) (c : Int) (hc : c ≠ 0) (hk : name_Check.f k s = some c) (w : World) :
    Calls Try.prog 7 #[.string s] w fun e W' => e = .returned (.tuple #[.string ⟨#[]⟩, .int .i64 c]) ∧ Below w.heap.size w W' := by
  have HC := Aside0.mk hk
  have hc1 : (c == 0) = false := beq_eq_false_iff_ne.2 hc
  have hc2 : (c != 0) = true := bne_iff_ne.2 hc
  clear hk hc
  go_enter Try.func7, Try.ntmps7
  go_wp2_with (go_at_call 15; (with_reducible refine (name_Check.calls k s c _ HC.out).mono ?_); rintro e w' ⟨rfl, ⟨nd, rfl⟩⟩)
  go_ret2
  exact ⟨rfl, pw_below_drewN (Below.refl _ _) _⟩
set_option maxRecDepth 100000 in
set_option maxHeartbeats 2000000 in
theorem text_root (k : Nat) (s : ByteArray) (hs : s.size = 0) (hk : name_Check.f k s = some 0) (w : World) :
    Calls Try.prog 7 #[.string s] w fun e W' => e = .returned (.tuple #[.string ⟨#[46]⟩, .int .i64 0]) ∧ Below w.heap.size w W' := by
  have HC := Aside0.mk hk
  have hne : s.toList.isEmpty = true := by
    rw [ByteArray.toList_eq, List.isEmpty_iff]
    apply List.eq_nil_of_length_eq_zero
    rw [data_length]
    exact hs
  clear hk
  go_enter Try.func7, Try.ntmps7
  go_wp2_with (go_at_call 15; (with_reducible refine (name_Check.calls k s 0 _ HC.out).mono ?_); rintro e w' ⟨rfl, ⟨nd, rfl⟩⟩)
  go_ret2
  exact ⟨rfl, pw_below_drewN (Below.refl _ _) _⟩
theorem name_Text.calls (k : Nat) (a0 r1 : ByteArray) (r2 : Int) (w : World) (h : name_Text.f k a0 = some (r1, r2)) :
    Calls Try.prog 7 #[.string a0] w fun e w' => e = .returned (.tuple #[.string r1, .int .i64 r2]) ∧ Below w.heap.size w w' := by
  unfold name_Text.f at h
  cases hk : name_Check.f k a0 with
  | none => rw [hk] at h; cases h
  | some t =>
    rw [hk, Option.bind_some] at h
    by_cases ht : t = 0
    · subst ht
      rw [if_pos rfl] at h
      by_cases h0 : a0.size = 0
      · rw [if_pos h0] at h
        obtain ⟨rfl, rfl⟩ : r1 = ⟨#[46]⟩ ∧ r2 = 0 := by
          have := Option.some.inj h
          exact ⟨(congrArg Prod.fst this).symm, (congrArg Prod.snd this).symm⟩
        exact text_root k a0 h0 hk w
      · rw [if_neg h0] at h
        by_cases hs : a0.size ≤ 254 ∧ (labelsP a0).length ≤ 254
        · rw [if_pos hs] at h
          cases hq : txAll k (labelsP a0) with
          | none => rw [hq] at h; cases h
          | some q =>
            rw [hq, Option.bind_some] at h
            obtain ⟨rfl, rfl⟩ : r1 = ⟨q.toArray⟩ ∧ r2 = 0 := by
              have := Option.some.inj h
              exact ⟨(congrArg Prod.fst this).symm, (congrArg Prod.snd this).symm⟩
            exact (callsIn_wide (n := 9)).1 (text_in 9 (by omega) k a0 q hs.1 h0 hs.2 hk hq w)
        · rw [if_neg hs] at h; cases h
    · rw [if_neg ht] at h
      obtain ⟨rfl, rfl⟩ : r1 = ⟨#[]⟩ ∧ r2 = t := by
        have := Option.some.inj h
        exact ⟨(congrArg Prod.fst this).symm, (congrArg Prod.snd this).symm⟩
      exact text_bad k a0 r2 ht hk w
theorem txAll_mono : ∀ l k, LeO (txAll k l) (txAll (k + 1) l) := by
  intro l k
  induction l with
  | nil => exact LeO.refl _
  | cons a t ih =>
    show LeO ((label_Text.f k a).bind fun p => (txAll k t).bind fun q => if p.1.size ≤ 1000 then some (p.1.data.toList ++ 46 :: q) else none) ((label_Text.f (k + 1) a).bind fun p => (txAll (k + 1) t).bind fun q => if p.1.size ≤ 1000 then some (p.1.data.toList ++ 46 :: q) else none)
    exact LeO.bind (label_Text.mono a k) (fun _ => LeO.bind ih (fun _ => LeO.refl _))
theorem name_Text.mono : ∀ a0 k, LeO (name_Text.f k a0) (name_Text.f (k + 1) a0) := by
  intro a0 k
  unfold name_Text.f
  exact LeO.bind (name_Check.mono a0 k) (fun _ => LeO.ite (LeO.ite (LeO.refl _) (LeO.ite (LeO.bind (txAll_mono _ _) (fun _ => LeO.refl _)) (LeO.refl _))) (LeO.refl _))
end

/-! ### nameplateref02_Check: function 16 -/
def nameplateref02_Check.l0 : Nat → ByteArray → Int → Option (Int)
  | 0, _, _ => none
  | k + 1, x0, x3 => if x3 < (x0.size : Int) then (if 0 ≤ x3 then (if (wrap64 (bt x0 x3)) < 1 then (some 4) else (if (wrap64 (bt x0 x3)) > 63 then (some 4) else (if (wrap64 ((wrap64 (x3 + 1)) + (wrap64 (bt x0 x3)))) > (x0.size : Int) then (some 4) else (nameplateref02_Check.l0 k x0 (wrap64 ((wrap64 (x3 + 1)) + (wrap64 (bt x0 x3)))))))) else (none)) else (some 0)
def nameplateref02_Check.f (k : Nat) (a0 : ByteArray) : Option (Int) := if (a0.size : Int) > 254 then (some 3) else (nameplateref02_Check.l0 k a0 0)
theorem nameplateref02_Check.mono_l : ∀ k, (∀ y0 y1, LeO (nameplateref02_Check.l0 k y0 y1) (nameplateref02_Check.l0 (k + 1) y0 y1))
  | 0 => fun _ _ r h => by simp [nameplateref02_Check.l0] at h
  | k + 1 => by
    have ih0 := nameplateref02_Check.mono_l k
    · intro y0 y1
      unfold nameplateref02_Check.l0
      repeat' first
      | (with_reducible exact ih0 _ _)
      | (with_reducible exact LeO.refl _)
      | (with_reducible exact LeO.none _)
      | (with_reducible refine LeO.ite ?_ ?_)
      | (with_reducible refine LeO.bind ?_ (fun _ => ?_))
      | exact ih0 _ _
      | exact LeO.none _
      | refine LeO.ite ?_ ?_
      | refine LeO.bind ?_ (fun _ => ?_)
theorem nameplateref02_Check.mono : ∀ a0 k, LeO (nameplateref02_Check.f k a0) (nameplateref02_Check.f (k + 1) a0) := by
  intro a0 k
  have ih0 := nameplateref02_Check.mono_l k
  unfold nameplateref02_Check.f
  repeat' first
      | (with_reducible exact ih0 _ _)
      | (with_reducible exact LeO.refl _)
      | (with_reducible exact LeO.none _)
      | (with_reducible refine LeO.ite ?_ ?_)
      | (with_reducible refine LeO.bind ?_ (fun _ => ?_))
      | exact ih0 _ _
      | exact LeO.none _
      | refine LeO.ite ?_ ?_
      | refine LeO.bind ?_ (fun _ => ?_)
set_option maxHeartbeats 8000000 in
set_option maxRecDepth 100000 in
theorem nameplateref02_Check.calls (k : Nat) (a0 : ByteArray) (r : Int) (w : World) (h : nameplateref02_Check.f k a0 = some r) :
    Calls Try.prog 16 #[.string a0] w fun e w' => e = .returned (.int .i64 r) ∧ Drawn0 w w' := by
  have H : (if (a0.size : Int) > 254 then (some 3) else (nameplateref02_Check.l0 k a0 0)) = some r := h
  clear h
  by_cases c2 : (a0.size : Int) > 254
  · rw [if_pos c2] at H
    have c2b0 : decide (254 < (a0.size : Int)) = true := decide_eq_true c2
    have c2b1 : decide (254 < a0.size) = true := decide_eq_true (by omega)
    clear c2
    obtain rfl := Option.some.inj H
    go_enter Try.func16, Try.ntmps16
    go_wp2
    go_ret
    exact ⟨by first | rfl | (simp; done) | (simp [*]; done), by repeat (first | exact Drawn0.refl _ | apply Drawn0.step)⟩
  · rw [if_neg c2] at H
    have c2b0 : decide (254 < (a0.size : Int)) = false := decide_eq_false c2
    have c2b1 : decide (254 < a0.size) = false := decide_eq_false (by omega)
    clear c2
    have H' := Aside0.mk H
    clear H
    go_enter Try.func16, Try.ntmps16
    go_wp2
    go_loopg [3] k (fun kq v3 w' => ∃ (x3_1 : Int), v3 = .int .i64 x3_1 ∧ Aside0 (nameplateref02_Check.l0 kq a0 x3_1 = some r) ∧ Aside0 (kq ≤ k) ∧ Drawn0 w w')
    case atStart => exact ⟨(0), (by first | rfl | (simp; done) | (simp [*]; done)), H', ⟨Nat.le_refl _⟩, by repeat (first | exact Drawn0.refl _ | apply Drawn0.step)⟩
    case round =>
      clear H'
      try clear c1
      try clear c2
      try clear c2b0
      try clear c2b1
      try clear p2
      obtain ⟨x3_1, rfl, HA, HK1, ⟨m1, rfl⟩⟩ := hrel
      cases gk with
      | zero => exact absurd HA.out (by simp [nameplateref02_Check.l0])
      | succ k1 =>
        have H := HA.out
        clear HA
        simp only [nameplateref02_Check.l0] at H
        by_cases c3 : x3_1 < (a0.size : Int)
        · rw [if_pos c3] at H
          have c3b0 : decide (x3_1 < (a0.size : Int)) = true := decide_eq_true c3
          clear c3
          by_cases c4 : 0 ≤ x3_1
          · rw [if_pos c4] at H
            have c4b0 : decide (0 ≤ x3_1) = true := decide_eq_true c4
            clear c4
            by_cases c6 : (wrap64 (bt a0 x3_1)) < 1
            · rw [if_pos c6] at H
              have c6b0 : decide ((wrap64 (bt a0 x3_1)) < 1) = true := decide_eq_true c6
              clear c6
              obtain rfl := Option.some.inj H
              have p5 : 0 ≤ (x3_1 : Int) := of_decide_eq_true (by first | (with_reducible assumption) | assumption)
              have q5 : x3_1 < (a0.size : Int) := of_decide_eq_true (by first | (with_reducible assumption) | assumption)
              have hx5 := bt_at a0 x3_1
              replace p5 := eq_true p5
              replace q5 := eq_true q5
              go_wp2
              go_ret
              exact ⟨by first | rfl | (simp; done) | (simp [*]; done), by repeat (first | exact Drawn0.refl _ | apply Drawn0.step)⟩
            · rw [if_neg c6] at H
              have c6b0 : decide ((wrap64 (bt a0 x3_1)) < 1) = false := decide_eq_false c6
              clear c6
              by_cases c7 : (wrap64 (bt a0 x3_1)) > 63
              · rw [if_pos c7] at H
                have c7b0 : decide (63 < (wrap64 (bt a0 x3_1))) = true := decide_eq_true c7
                clear c7
                obtain rfl := Option.some.inj H
                have p5 : 0 ≤ (x3_1 : Int) := of_decide_eq_true (by first | (with_reducible assumption) | assumption)
                have q5 : x3_1 < (a0.size : Int) := of_decide_eq_true (by first | (with_reducible assumption) | assumption)
                have hx5 := bt_at a0 x3_1
                replace p5 := eq_true p5
                replace q5 := eq_true q5
                go_wp2
                go_ret
                exact ⟨by first | rfl | (simp; done) | (simp [*]; done), by repeat (first | exact Drawn0.refl _ | apply Drawn0.step)⟩
              · rw [if_neg c7] at H
                have c7b0 : decide (63 < (wrap64 (bt a0 x3_1))) = false := decide_eq_false c7
                clear c7
                by_cases c8 : (wrap64 ((wrap64 (x3_1 + 1)) + (wrap64 (bt a0 x3_1)))) > (a0.size : Int)
                · rw [if_pos c8] at H
                  have c8b0 : decide ((a0.size : Int) < (wrap64 ((wrap64 (x3_1 + 1)) + (wrap64 (bt a0 x3_1))))) = true := decide_eq_true c8
                  clear c8
                  obtain rfl := Option.some.inj H
                  have p5 : 0 ≤ (x3_1 : Int) := of_decide_eq_true (by first | (with_reducible assumption) | assumption)
                  have q5 : x3_1 < (a0.size : Int) := of_decide_eq_true (by first | (with_reducible assumption) | assumption)
                  have hx5 := bt_at a0 x3_1
                  replace p5 := eq_true p5
                  replace q5 := eq_true q5
                  go_wp2
                  go_ret
                  exact ⟨by first | rfl | (simp; done) | (simp [*]; done), by repeat (first | exact Drawn0.refl _ | apply Drawn0.step)⟩
                · rw [if_neg c8] at H
                  have c8b0 : decide ((a0.size : Int) < (wrap64 ((wrap64 (x3_1 + 1)) + (wrap64 (bt a0 x3_1))))) = false := decide_eq_false c8
                  clear c8
                  have H' := Aside0.mk H
                  clear H
                  have p5 : 0 ≤ (x3_1 : Int) := of_decide_eq_true (by first | (with_reducible assumption) | assumption)
                  have q5 : x3_1 < (a0.size : Int) := of_decide_eq_true (by first | (with_reducible assumption) | assumption)
                  have hx5 := bt_at a0 x3_1
                  replace p5 := eq_true p5
                  replace q5 := eq_true q5
                  go_wp2
                  go_roundg k1
                  case measure => have := HK1.out; omega
                  case rel => exact ⟨(wrap64 ((wrap64 (x3_1 + 1)) + (wrap64 (bt a0 x3_1)))), (by first | rfl | (simp; done) | (simp [*]; done)), H', ⟨by have := HK1.out; omega⟩, by repeat (first | exact Drawn0.refl _ | apply Drawn0.step)⟩
          · rw [if_neg c4] at H
            exact absurd H (by simp)
        · rw [if_neg c3] at H
          have c3b0 : decide (x3_1 < (a0.size : Int)) = false := decide_eq_false c3
          clear c3
          obtain rfl := Option.some.inj H
          go_wp2
          go_ret
          exact ⟨by first | rfl | (simp; done) | (simp [*]; done), by repeat (first | exact Drawn0.refl _ | apply Drawn0.step)⟩

end Go.Proofs.Ytfpdmmpjoejmiaa.OCalls
