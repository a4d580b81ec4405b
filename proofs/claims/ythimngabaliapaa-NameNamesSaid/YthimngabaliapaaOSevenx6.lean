/- This text proves, for each Go function named below, which plain Lean function its call computes, in whatever memory; a program of this session has written it. -/
import Derived.Test.YthimngabaliapaaOSevenx0
import Derived.Test.YthimngabaliapaaOSevenx1
import Derived.Test.YthimngabaliapaaOSevenx2
import Derived.Test.YthimngabaliapaaOSevenx4
namespace Go.Proofs.Ythimngabaliapaa.OSeven
open Go.RowKit Go.Proofs.YthimngabaliapaaW.PrintWords Go.Proofs.YthimngabaliapaaW.PrintLast Go.Proofs.YthimngabaliapaaW.PrintMore
attribute [local go_sem] max2_int min2_int max_two min_two max_three min_three max_four min_four   -- for this text's walks alone
set_option linter.unusedVariables false
set_option linter.unusedSimpArgs false

/-! ### api_Errno: function 44 -/
def api_Errno.l0 : Nat → Int → List Int → Int → Int → Option (Int)
  | 0, _, _, _, _ => none
  | k + 1, x3, x6, x7, x8 => if x8 < x7 then (if 0 ≤ x8 then (if x8 < (x6.length : Int) then (if (rd x6 x8) = x3 then (api_Errno.l0 k x3 x6 x7 (wrap64 (x8 + 1))) else (some (rd x6 x8))) else (none)) else (none)) else (some x3)
def api_Errno.f (k : Nat) (l0 : List Int) : Option (Int) := api_Errno.l0 k 0 l0 (l0.length : Int) 0
theorem api_Errno.mono_l : ∀ k, (∀ y0 y1 y2 y3, LeO (api_Errno.l0 k y0 y1 y2 y3) (api_Errno.l0 (k + 1) y0 y1 y2 y3))
  | 0 => fun _ _ _ _ r h => by simp [api_Errno.l0] at h
  | k + 1 => by
    have ih0 := api_Errno.mono_l k
    · intro y0 y1 y2 y3
      unfold api_Errno.l0
      repeat' first
      | (with_reducible exact ih0 _ _ _ _)
      | (with_reducible exact LeO.refl _)
      | (with_reducible exact LeO.none _)
      | (with_reducible refine LeO.ite ?_ ?_)
      | (with_reducible refine LeO.bind ?_ (fun _ => ?_))
      | exact ih0 _ _ _ _
      | exact LeO.none _
      | refine LeO.ite ?_ ?_
      | refine LeO.bind ?_ (fun _ => ?_)
theorem api_Errno.mono : ∀ a0 k, LeO (api_Errno.f k a0) (api_Errno.f (k + 1) a0) := by
  intro a0 k
  have ih0 := api_Errno.mono_l k
  unfold api_Errno.f
  repeat' first
      | (with_reducible exact ih0 _ _ _ _)
      | (with_reducible exact LeO.refl _)
      | (with_reducible exact LeO.none _)
      | (with_reducible refine LeO.ite ?_ ?_)
      | (with_reducible refine LeO.bind ?_ (fun _ => ?_))
      | exact ih0 _ _ _ _
      | exact LeO.none _
      | refine LeO.ite ?_ ?_
      | refine LeO.bind ?_ (fun _ => ?_)
set_option maxHeartbeats 8000000 in
set_option maxRecDepth 100000 in
theorem api_Errno.calls (k : Nat) (A0 : Option Addr) (c0 : Nat) (l0 : List Int) (r : Int) (w : World) (hr0 : Kd.C (Kd.int .i64) w A0 l0.length l0) (hc0 : l0.length ≤ c0) (h : api_Errno.f k l0 = some r) :
    Calls Try.prog 44 #[.slice A0 l0.length c0] w fun e w' => e = .returned (.int .i64 r) ∧ Drawn0 w w' := by
  have HR0 := Aside0.mk hr0
  have HC0 := Aside0.mk hc0
  clear hr0 hc0
  have H : (api_Errno.l0 k 0 l0 (l0.length : Int) 0) = some r := h
  clear h
  have H' := Aside0.mk H
  clear H
  go_enter Try.func44, Try.ntmps44
  go_wp2
  go_loopg [8] k (fun kq v8 w' => ∃ (x8_1 : Int), v8 = .int .i64 x8_1 ∧ Aside0 (api_Errno.l0 kq 0 l0 (l0.length : Int) x8_1 = some r) ∧ Aside0 (kq ≤ k) ∧ Drawn0 w w')
  case atStart => exact ⟨(0), (by first | rfl | (simp; done) | (simp [*]; done)), H', ⟨Nat.le_refl _⟩, by repeat (first | exact Drawn0.refl _ | apply Drawn0.step)⟩
  case round =>
    clear H'
    obtain ⟨x8_1, rfl, HA, HK1, ⟨m1, rfl⟩⟩ := hrel
    cases gk with
    | zero => exact absurd HA.out (by simp [api_Errno.l0])
    | succ k1 =>
      have H := HA.out
      clear HA
      simp only [api_Errno.l0] at H
      by_cases c2 : x8_1 < (l0.length : Int)
      · rw [if_pos c2] at H
        have c2b0 : decide (x8_1 < (l0.length : Int)) = true := decide_eq_true c2
        clear c2
        by_cases c3 : 0 ≤ x8_1
        · rw [if_pos c3] at H
          have c3b0 : decide (0 ≤ x8_1) = true := decide_eq_true c3
          clear c3
          by_cases c4 : x8_1 < (l0.length : Int)
          · rw [if_pos c4] at H
            have c4b0 : decide (x8_1 < (l0.length : Int)) = true := decide_eq_true c4
            clear c4
            by_cases c5 : (rd l0 x8_1) = 0
            · rw [if_pos c5] at H
              have c5b0 : ((rd l0 x8_1) == 0) = true := beq_iff_eq.mpr c5
              have c5b1 : ((rd l0 x8_1) != 0) = false := bne_eq_false_iff_eq.mpr c5
              clear c5
              have H' := Aside0.mk H
              clear H
              have p166 : 0 ≤ (x8_1 : Int) := of_decide_eq_true (by first | (with_reducible assumption) | assumption)
              have q166 : x8_1 < (l0.length : Int) := of_decide_eq_true (by first | (with_reducible assumption) | assumption)
              obtain ⟨ad166, e166, hx166_0⟩ := Kd.at_int HR0.out x8_1 p166 q166
              cases e166
              replace p166 := eq_true p166
              replace q166 := eq_true q166
              go_wp2
              go_roundg k1
              case measure => have := HK1.out; omega
              case rel => exact ⟨(wrap64 (x8_1 + 1)), (by first | rfl | (simp; done) | (simp [*]; done)), H', ⟨by have := HK1.out; omega⟩, by repeat (first | exact Drawn0.refl _ | apply Drawn0.step)⟩
            · rw [if_neg c5] at H
              have c5b0 : ((rd l0 x8_1) == 0) = false := beq_eq_false_iff_ne.mpr c5
              have c5b1 : ((rd l0 x8_1) != 0) = true := bne_iff_ne.mpr c5
              obtain rfl := Option.some.inj H
              have p166 : 0 ≤ (x8_1 : Int) := of_decide_eq_true (by first | (with_reducible assumption) | assumption)
              have q166 : x8_1 < (l0.length : Int) := of_decide_eq_true (by first | (with_reducible assumption) | assumption)
              obtain ⟨ad166, e166, hx166_0⟩ := Kd.at_int HR0.out x8_1 p166 q166
              cases e166
              replace p166 := eq_true p166
              replace q166 := eq_true q166
              go_wp2
              go_ret
              exact ⟨by first | rfl | (simp; done) | (simp [*]; done), by repeat (first | exact Drawn0.refl _ | apply Drawn0.step)⟩
          · rw [if_neg c4] at H
            exact absurd H (by simp)
        · rw [if_neg c3] at H
          exact absurd H (by simp)
      · rw [if_neg c2] at H
        have c2b0 : decide (x8_1 < (l0.length : Int)) = false := decide_eq_false c2
        clear c2
        obtain rfl := Option.some.inj H
        go_wp2
        go_ret
        exact ⟨by first | rfl | (simp; done) | (simp [*]; done), by repeat (first | exact Drawn0.refl _ | apply Drawn0.step)⟩

/-! ### name_Join: function 15 -/
def name_Join.f (k : Nat) (a0 : ByteArray) (a1 : ByteArray) : Option (ByteArray × Int) := (name_Check.f k a0).bind fun t167 => ((name_Check.f k a1).bind fun t168 => ((api_Errno.f k (([t167, t168] : List Int))).bind fun t172 => (if t172 = 0 then (if (wrap64 ((a0.size : Int) + (a1.size : Int))) > 254 then (some ((⟨#[]⟩ : ByteArray), 3)) else (if a0.size + a1.size ≤ 9223372036854775807 then (some (a0 ++ a1, 0)) else (none))) else (some ((⟨#[]⟩ : ByteArray), t172)))))
theorem name_Join.mono : ∀ a0 a1 k, LeO (name_Join.f k a0 a1) (name_Join.f (k + 1) a0 a1) := by
  intro a0 a1 k
  unfold name_Join.f
  repeat' first
      | (with_reducible exact api_Errno.mono _ _)
      | (with_reducible exact name_Check.mono _ _)
      | (with_reducible exact LeO.refl _)
      | (with_reducible exact LeO.none _)
      | (with_reducible refine LeO.ite ?_ ?_)
      | (with_reducible refine LeO.bind ?_ (fun _ => ?_))
      | exact api_Errno.mono _ _
      | exact name_Check.mono _ _
      | exact LeO.none _
      | refine LeO.ite ?_ ?_
      | refine LeO.bind ?_ (fun _ => ?_)
set_option maxHeartbeats 8000000 in
set_option maxRecDepth 100000 in
theorem name_Join.calls (k : Nat) (a0 : ByteArray) (a1 : ByteArray) (r1 : ByteArray) (r2 : Int) (w : World) (h : name_Join.f k a0 a1 = some (r1, r2)) :
    Calls Try.prog 15 #[.string a0, .string a1] w fun e w' => e = .returned (.tuple #[.string r1, .int .i64 r2]) ∧ Below w.heap.size w w' := by
  have HB := Aside0.mk (Below.refl w.heap.size w)
  have H : ((name_Check.f k a0).bind fun t167 => ((name_Check.f k a1).bind fun t168 => ((api_Errno.f k (([t167, t168] : List Int))).bind fun t172 => (if t172 = 0 then (if (wrap64 ((a0.size : Int) + (a1.size : Int))) > 254 then (some ((⟨#[]⟩ : ByteArray), 3)) else (if a0.size + a1.size ≤ 9223372036854775807 then (some (a0 ++ a1, 0)) else (none))) else (some ((⟨#[]⟩ : ByteArray), t172)))))) = some (r1, r2) := h
  clear h
  replace H := Option.bind_eq_some_iff.mp H
  obtain ⟨t167, A30, H⟩ := H
  replace H : ((name_Check.f k a1).bind fun t168 => ((api_Errno.f k (([t167, t168] : List Int))).bind fun t172 => (if t172 = 0 then (if (wrap64 ((a0.size : Int) + (a1.size : Int))) > 254 then (some ((⟨#[]⟩ : ByteArray), 3)) else (if a0.size + a1.size ≤ 9223372036854775807 then (some (a0 ++ a1, 0)) else (none))) else (some ((⟨#[]⟩ : ByteArray), t172))))) = some (r1, r2) := H
  have A3 := Aside0.mk A30
  clear A30
  replace H := Option.bind_eq_some_iff.mp H
  obtain ⟨t168, A40, H⟩ := H
  replace H : ((api_Errno.f k (([t167, t168] : List Int))).bind fun t172 => (if t172 = 0 then (if (wrap64 ((a0.size : Int) + (a1.size : Int))) > 254 then (some ((⟨#[]⟩ : ByteArray), 3)) else (if a0.size + a1.size ≤ 9223372036854775807 then (some (a0 ++ a1, 0)) else (none))) else (some ((⟨#[]⟩ : ByteArray), t172)))) = some (r1, r2) := H
  have A4 := Aside0.mk A40
  clear A40
  obtain ⟨y169, hy169⟩ : ∃ y_ : List Int, y_ = (([t167, t168] : List Int)) := ⟨_, rfl⟩
  replace H : ((api_Errno.f k y169).bind fun t172 => (if t172 = 0 then (if (wrap64 ((a0.size : Int) + (a1.size : Int))) > 254 then (some ((⟨#[]⟩ : ByteArray), 3)) else (if a0.size + a1.size ≤ 9223372036854775807 then (some (a0 ++ a1, 0)) else (none))) else (some ((⟨#[]⟩ : ByteArray), t172)))) = some (r1, r2) := by first | (rw [hy169]; with_reducible exact H) | (have H2_ := (Option.bind_some _ _).symm.trans H; rw [hy169]; with_reducible exact H2_) | (have H2_ := (Option.bind_some _ _).symm.trans H; with_reducible exact H2_) | with_reducible exact H | (rw [hy169]; exact H) | exact H
  have Ny169 := Aside0.mk hy169
  clear hy169
  replace H := Option.bind_eq_some_iff.mp H
  obtain ⟨t172, A50, H⟩ := H
  replace H : (if t172 = 0 then (if (wrap64 ((a0.size : Int) + (a1.size : Int))) > 254 then (some ((⟨#[]⟩ : ByteArray), 3)) else (if a0.size + a1.size ≤ 9223372036854775807 then (some (a0 ++ a1, 0)) else (none))) else (some ((⟨#[]⟩ : ByteArray), t172))) = some (r1, r2) := H
  have A5 := Aside0.mk A50
  clear A50
  by_cases c6 : t172 = 0
  · rw [if_pos c6] at H
    have c6b0 : (t172 == 0) = true := beq_iff_eq.mpr c6
    have c6b1 : (t172 != 0) = false := bne_eq_false_iff_eq.mpr c6
    clear c6
    by_cases c7 : (wrap64 ((a0.size : Int) + (a1.size : Int))) > 254
    · rw [if_pos c7] at H
      have c7b0 : decide (254 < (wrap64 ((a0.size : Int) + (a1.size : Int)))) = true := decide_eq_true c7
      clear c7
      simp only [Option.some.injEq, Prod.mk.injEq] at H
      obtain ⟨rfl, rfl⟩ := H
      go_enter Try.func15, Try.ntmps15
      go_wp2_with (first | ((with_reducible refine gate_callee (f := 12) rfl ?_); refine goesL_ (some 8) rfl rfl Try.func12 (by kernel_rfl) rfl #[.string a0] rfl (by (try simp only [List.map_toArray, List.map_cons, List.map_nil]); first | done | rfl | (simp only [List.length_drop, List.length_take]; rfl)) ?_; (with_reducible refine (name_Check.calls k a0 t167 _ A3.out).mono ?_); rintro e w' ⟨rfl, ⟨nd, rfl⟩⟩; refine ⟨_, rfl, ?_⟩) | ((with_reducible refine gate_callee (f := 12) rfl ?_); refine goesL_ (some 10) rfl rfl Try.func12 (by kernel_rfl) rfl #[.string a1] rfl (by (try simp only [List.map_toArray, List.map_cons, List.map_nil]); first | done | rfl | (simp only [List.length_drop, List.length_take]; rfl)) ?_; (with_reducible refine (name_Check.calls k a1 t168 _ A4.out).mono ?_); rintro e w' ⟨rfl, ⟨nd, rfl⟩⟩; refine ⟨_, rfl, ?_⟩) | ((with_reducible refine gate_dst (N := 11) rfl ?_); refine Kd.R_lit (Kd.int .i64) _ 24 ?hg (N := 11) ?hd (xs := ([t167, t168] : List Int)) (inner := [.int .i64 t167, .int .i64 t168]) (ok := fun _ => True) (okp := fun _ => True) ?hr ?hp (fun _ hk => hk) trivial (Below.refl _ _) (Nat.le_refl _) (by simp) ?_; (case hd => rfl); (case hg => rfl); (case hr => first | (go_simp; done) | (go_simp; rfl)); (case hp => exact (Reps.one (show Kd.M (Kd.int .i64) _ _ _ t167 [.int .i64 t167] from rfl) (Reps.one (show Kd.M (Kd.int .i64) _ _ _ t168 [.int .i64 t168] from rfl) (Reps.none _ _)))); intro v170 w8 ho9 hb hg_ hnew_; clear hg_ hnew_; (first | rw [← Ny169.out] at ho9 | (simp only [Int.reduceToNat] at ho9; rw [← Ny169.out] at ho9)); have n0_ := Aside0.mk (Kd.R_lower ho9 (below_size (by repeat (first | (with_reducible first | exact HB.out | apply below_alloc | apply pw_below_drewN | apply below_drew1) | exact HB.out)))); have n1_ := Aside0.mk (below_step (by repeat (first | (with_reducible first | exact HB.out | apply below_alloc | apply pw_below_drewN | apply below_drew1) | exact HB.out)) hb); clear HB; have HO171 := n0_; have HB := n1_; clear n0_ n1_; clear hb ho9; obtain ⟨Ao10, co10, eo10⟩ := Kd.R_slice HO171.out; subst eo10) | ((with_reducible refine gate_callee (f := 44) rfl ?_); refine goesL_ (some 12) rfl rfl Try.func44 (by kernel_rfl) rfl #[.slice Ao10 y169.length co10] rfl (by (try simp only [List.map_toArray, List.map_cons, List.map_nil]); first | done | rfl | (simp only [List.length_drop, List.length_take]; rfl)) ?_; (with_reducible refine (api_Errno.calls k _ _ y169 t172 _ ?side1 ?side2 A5.out).mono ?_); (case side1 => repeat (first | exact (Kd.R_reads' HO171.out).2.2 | (with_reducible refine Kd.C_alloc ?_ _) | (with_reducible refine Kd.C_drewN ?_ _) | (with_reducible refine Kd.C_drew ?_))); (case side2 => exact (Kd.R_reads' HO171.out).2.1); rintro e w' ⟨rfl, ⟨nd, rfl⟩⟩; refine ⟨_, rfl, ?_⟩))
      go_ret2
      exact ⟨by first | rfl | (simp [errW_none, errW_some] <;> rfl) | (simp [*, errW_none, errW_some] <;> rfl), by repeat (first | (with_reducible first | exact HB.out | apply below_alloc | apply pw_below_drewN | apply below_drew1) | exact HB.out)⟩
    · rw [if_neg c7] at H
      have c7b0 : decide (254 < (wrap64 ((a0.size : Int) + (a1.size : Int)))) = false := decide_eq_false c7
      clear c7
      by_cases c11 : a0.size + a1.size ≤ 9223372036854775807
      · rw [if_pos c11] at H
        have c11b0 := eq_true c11
        have c11b1 : decide (a0.size + a1.size ≤ 9223372036854775807) = true := decide_eq_true c11
        try rw [wrap_id (n := (a0.size : Int) + (a1.size : Int)) (by omega) (by omega)] at c7b0
        try rw [wrap_id (n := (a0.size : Int) + (a1.size : Int)) (by omega) (by omega)] at c7b0
        try have c11b2 : (9223372036854775807 < a0.size + a1.size) = False := eq_false (Nat.not_lt.2 c11)
        simp only [Option.some.injEq, Prod.mk.injEq] at H
        obtain ⟨rfl, rfl⟩ := H
        go_enter Try.func15, Try.ntmps15
        go_wp2_with (first | ((with_reducible refine gate_callee (f := 12) rfl ?_); refine goesL_ (some 8) rfl rfl Try.func12 (by kernel_rfl) rfl #[.string a0] rfl (by (try simp only [List.map_toArray, List.map_cons, List.map_nil]); first | done | rfl | (simp only [List.length_drop, List.length_take]; rfl)) ?_; (with_reducible refine (name_Check.calls k a0 t167 _ A3.out).mono ?_); rintro e w' ⟨rfl, ⟨nd, rfl⟩⟩; refine ⟨_, rfl, ?_⟩) | ((with_reducible refine gate_callee (f := 12) rfl ?_); refine goesL_ (some 10) rfl rfl Try.func12 (by kernel_rfl) rfl #[.string a1] rfl (by (try simp only [List.map_toArray, List.map_cons, List.map_nil]); first | done | rfl | (simp only [List.length_drop, List.length_take]; rfl)) ?_; (with_reducible refine (name_Check.calls k a1 t168 _ A4.out).mono ?_); rintro e w' ⟨rfl, ⟨nd, rfl⟩⟩; refine ⟨_, rfl, ?_⟩) | ((with_reducible refine gate_dst (N := 11) rfl ?_); refine Kd.R_lit (Kd.int .i64) _ 24 ?hg (N := 11) ?hd (xs := ([t167, t168] : List Int)) (inner := [.int .i64 t167, .int .i64 t168]) (ok := fun _ => True) (okp := fun _ => True) ?hr ?hp (fun _ hk => hk) trivial (Below.refl _ _) (Nat.le_refl _) (by simp) ?_; (case hd => rfl); (case hg => rfl); (case hr => first | (go_simp; done) | (go_simp; rfl)); (case hp => exact (Reps.one (show Kd.M (Kd.int .i64) _ _ _ t167 [.int .i64 t167] from rfl) (Reps.one (show Kd.M (Kd.int .i64) _ _ _ t168 [.int .i64 t168] from rfl) (Reps.none _ _)))); intro v170 w12 ho13 hb hg_ hnew_; clear hg_ hnew_; (first | rw [← Ny169.out] at ho13 | (simp only [Int.reduceToNat] at ho13; rw [← Ny169.out] at ho13)); have n0_ := Aside0.mk (Kd.R_lower ho13 (below_size (by repeat (first | (with_reducible first | exact HB.out | apply below_alloc | apply pw_below_drewN | apply below_drew1) | exact HB.out)))); have n1_ := Aside0.mk (below_step (by repeat (first | (with_reducible first | exact HB.out | apply below_alloc | apply pw_below_drewN | apply below_drew1) | exact HB.out)) hb); clear HB; have HO171 := n0_; have HB := n1_; clear n0_ n1_; clear hb ho13; obtain ⟨Ao14, co14, eo14⟩ := Kd.R_slice HO171.out; subst eo14) | ((with_reducible refine gate_callee (f := 44) rfl ?_); refine goesL_ (some 12) rfl rfl Try.func44 (by kernel_rfl) rfl #[.slice Ao14 y169.length co14] rfl (by (try simp only [List.map_toArray, List.map_cons, List.map_nil]); first | done | rfl | (simp only [List.length_drop, List.length_take]; rfl)) ?_; (with_reducible refine (api_Errno.calls k _ _ y169 t172 _ ?side1 ?side2 A5.out).mono ?_); (case side1 => repeat (first | exact (Kd.R_reads' HO171.out).2.2 | (with_reducible refine Kd.C_alloc ?_ _) | (with_reducible refine Kd.C_drewN ?_ _) | (with_reducible refine Kd.C_drew ?_))); (case side2 => exact (Kd.R_reads' HO171.out).2.1); rintro e w' ⟨rfl, ⟨nd, rfl⟩⟩; refine ⟨_, rfl, ?_⟩))
        go_ret2
        exact ⟨by first | rfl | (simp [errW_none, errW_some] <;> rfl) | (simp [*, errW_none, errW_some] <;> rfl), by repeat (first | (with_reducible first | exact HB.out | apply below_alloc | apply pw_below_drewN | apply below_drew1) | exact HB.out)⟩
      · rw [if_neg c11] at H
        exact absurd H (by simp)
  · rw [if_neg c6] at H
    have c6b0 : (t172 == 0) = false := beq_eq_false_iff_ne.mpr c6
    have c6b1 : (t172 != 0) = true := bne_iff_ne.mpr c6
    simp only [Option.some.injEq, Prod.mk.injEq] at H
    obtain ⟨rfl, rfl⟩ := H
    go_enter Try.func15, Try.ntmps15
    go_wp2_with (first | ((with_reducible refine gate_callee (f := 12) rfl ?_); refine goesL_ (some 8) rfl rfl Try.func12 (by kernel_rfl) rfl #[.string a0] rfl (by (try simp only [List.map_toArray, List.map_cons, List.map_nil]); first | done | rfl | (simp only [List.length_drop, List.length_take]; rfl)) ?_; (with_reducible refine (name_Check.calls k a0 t167 _ A3.out).mono ?_); rintro e w' ⟨rfl, ⟨nd, rfl⟩⟩; refine ⟨_, rfl, ?_⟩) | ((with_reducible refine gate_callee (f := 12) rfl ?_); refine goesL_ (some 10) rfl rfl Try.func12 (by kernel_rfl) rfl #[.string a1] rfl (by (try simp only [List.map_toArray, List.map_cons, List.map_nil]); first | done | rfl | (simp only [List.length_drop, List.length_take]; rfl)) ?_; (with_reducible refine (name_Check.calls k a1 t168 _ A4.out).mono ?_); rintro e w' ⟨rfl, ⟨nd, rfl⟩⟩; refine ⟨_, rfl, ?_⟩) | ((with_reducible refine gate_dst (N := 11) rfl ?_); refine Kd.R_lit (Kd.int .i64) _ 24 ?hg (N := 11) ?hd (xs := ([t167, t168] : List Int)) (inner := [.int .i64 t167, .int .i64 t168]) (ok := fun _ => True) (okp := fun _ => True) ?hr ?hp (fun _ hk => hk) trivial (Below.refl _ _) (Nat.le_refl _) (by simp) ?_; (case hd => rfl); (case hg => rfl); (case hr => first | (go_simp; done) | (go_simp; rfl)); (case hp => exact (Reps.one (show Kd.M (Kd.int .i64) _ _ _ t167 [.int .i64 t167] from rfl) (Reps.one (show Kd.M (Kd.int .i64) _ _ _ t168 [.int .i64 t168] from rfl) (Reps.none _ _)))); intro v170 w15 ho16 hb hg_ hnew_; clear hg_ hnew_; (first | rw [← Ny169.out] at ho16 | (simp only [Int.reduceToNat] at ho16; rw [← Ny169.out] at ho16)); have n0_ := Aside0.mk (Kd.R_lower ho16 (below_size (by repeat (first | (with_reducible first | exact HB.out | apply below_alloc | apply pw_below_drewN | apply below_drew1) | exact HB.out)))); have n1_ := Aside0.mk (below_step (by repeat (first | (with_reducible first | exact HB.out | apply below_alloc | apply pw_below_drewN | apply below_drew1) | exact HB.out)) hb); clear HB; have HO171 := n0_; have HB := n1_; clear n0_ n1_; clear hb ho16; obtain ⟨Ao17, co17, eo17⟩ := Kd.R_slice HO171.out; subst eo17) | ((with_reducible refine gate_callee (f := 44) rfl ?_); refine goesL_ (some 12) rfl rfl Try.func44 (by kernel_rfl) rfl #[.slice Ao17 y169.length co17] rfl (by (try simp only [List.map_toArray, List.map_cons, List.map_nil]); first | done | rfl | (simp only [List.length_drop, List.length_take]; rfl)) ?_; (with_reducible refine (api_Errno.calls k _ _ y169 t172 _ ?side1 ?side2 A5.out).mono ?_); (case side1 => repeat (first | exact (Kd.R_reads' HO171.out).2.2 | (with_reducible refine Kd.C_alloc ?_ _) | (with_reducible refine Kd.C_drewN ?_ _) | (with_reducible refine Kd.C_drew ?_))); (case side2 => exact (Kd.R_reads' HO171.out).2.1); rintro e w' ⟨rfl, ⟨nd, rfl⟩⟩; refine ⟨_, rfl, ?_⟩))
    go_ret2
    exact ⟨by first | rfl | (simp [errW_none, errW_some] <;> rfl) | (simp [*, errW_none, errW_some] <;> rfl), by repeat (first | (with_reducible first | exact HB.out | apply below_alloc | apply pw_below_drewN | apply below_drew1) | exact HB.out)⟩

/-! ### nameplatelaw02_NameJoins: function 4 -/
def nameplatelaw02_NameJoins.j0 : Nat → ByteArray → ByteArray → ByteArray → Bool → Option (Bool)
  | 0, _, _, _, _ => none
  | k + 1, x0, x1, x2, x46 => if x46 = true then (some true) else ((name_Join.f k x0 x1).bind fun bt177 => ((name_Join.f k x1 x2).bind fun bt179 => (if (wrap64 ((wrap64 ((x0.size : Int) + (x1.size : Int))) + (x2.size : Int))) > 254 then ((name_Join.f k bt177.1 x2).bind fun bt181 => (if bt177.2 = 3 then (some true) else (if bt179.2 = 3 then (some true) else (some (bt181.2 == 3))))) else ((name_Join.f k bt177.1 x2).bind fun bt183 => ((name_Join.f k x0 bt179.1).bind fun bt185 => (if bt177.2 = 0 then (if bt179.2 = 0 then (if bt183.2 = 0 then (if bt185.2 = 0 then (if bt183.1.toList = bt185.1.toList then (if (bt183.1.size : Int) = (wrap64 ((wrap64 ((x0.size : Int) + (x1.size : Int))) + (x2.size : Int))) then ((name_Under.f k bt183.1 x2).bind fun t187 => (if t187 = true then ((name_Under.f k bt183.1 bt179.1).bind fun t188 => (if t188 = true then ((name_Labels.f k bt183.1).bind fun t189 => ((name_Labels.f k x0).bind fun t192 => ((name_Labels.f k x1).bind fun t195 => ((name_Labels.f k x2).bind fun t198 => (some ((t189.length : Int) == (wrap64 ((wrap64 ((t192.length : Int) + (t195.length : Int))) + (t198.length : Int))))))))) else (some false))) else (some false))) else (some false)) else (some false)) else (some false)) else (some false)) else (some false)) else (some false)))))))
def nameplatelaw02_NameJoins.f (k : Nat) (a0 : ByteArray) (a1 : ByteArray) (a2 : ByteArray) : Option (Bool) := (nameplatelaw02_lives.f k).bind fun t173 => (if t173 = true then (if (a0.size : Int) > 400 then (nameplatelaw02_NameJoins.j0 k a0 a1 a2 true) else (if (a1.size : Int) > 400 then (nameplatelaw02_NameJoins.j0 k a0 a1 a2 true) else (if (a2.size : Int) > 400 then (nameplatelaw02_NameJoins.j0 k a0 a1 a2 true) else ((name_Check.f k a0).bind fun t174 => (if t174 = 0 then ((name_Check.f k a1).bind fun t175 => (if t175 = 0 then ((name_Check.f k a2).bind fun t176 => (nameplatelaw02_NameJoins.j0 k a0 a1 a2 (t176 != 0))) else (nameplatelaw02_NameJoins.j0 k a0 a1 a2 true))) else (nameplatelaw02_NameJoins.j0 k a0 a1 a2 true)))))) else (some false))
theorem nameplatelaw02_NameJoins.mono_l : ∀ k, (∀ y0 y1 y2 y3, LeO (nameplatelaw02_NameJoins.j0 k y0 y1 y2 y3) (nameplatelaw02_NameJoins.j0 (k + 1) y0 y1 y2 y3))
  | 0 => fun _ _ _ _ r h => by simp [nameplatelaw02_NameJoins.j0] at h
  | k + 1 => by
    have ih0 := nameplatelaw02_NameJoins.mono_l k
    · intro y0 y1 y2 y3
      unfold nameplatelaw02_NameJoins.j0
      repeat' first
      | (with_reducible exact ih0 _ _ _ _)
      | (with_reducible exact name_Check.mono _ _)
      | (with_reducible exact name_Join.mono _ _ _)
      | (with_reducible exact name_Labels.mono _ _)
      | (with_reducible exact name_Under.mono _ _ _)
      | (with_reducible exact nameplatelaw02_lives.mono _)
      | (with_reducible exact LeO.refl _)
      | (with_reducible exact LeO.none _)
      | (with_reducible refine LeO.ite ?_ ?_)
      | (with_reducible refine LeO.bind ?_ (fun _ => ?_))
      | exact ih0 _ _ _ _
      | exact name_Check.mono _ _
      | exact name_Join.mono _ _ _
      | exact name_Labels.mono _ _
      | exact name_Under.mono _ _ _
      | exact nameplatelaw02_lives.mono _
      | exact LeO.none _
      | refine LeO.ite ?_ ?_
      | refine LeO.bind ?_ (fun _ => ?_)
theorem nameplatelaw02_NameJoins.mono : ∀ a0 a1 a2 k, LeO (nameplatelaw02_NameJoins.f k a0 a1 a2) (nameplatelaw02_NameJoins.f (k + 1) a0 a1 a2) := by
  intro a0 a1 a2 k
  have ih0 := nameplatelaw02_NameJoins.mono_l k
  unfold nameplatelaw02_NameJoins.f
  repeat' first
      | (with_reducible exact ih0 _ _ _ _)
      | (with_reducible exact name_Check.mono _ _)
      | (with_reducible exact name_Join.mono _ _ _)
      | (with_reducible exact name_Labels.mono _ _)
      | (with_reducible exact name_Under.mono _ _ _)
      | (with_reducible exact nameplatelaw02_lives.mono _)
      | (with_reducible exact LeO.refl _)
      | (with_reducible exact LeO.none _)
      | (with_reducible refine LeO.ite ?_ ?_)
      | (with_reducible refine LeO.bind ?_ (fun _ => ?_))
      | exact ih0 _ _ _ _
      | exact name_Check.mono _ _
      | exact name_Join.mono _ _ _
      | exact name_Labels.mono _ _
      | exact name_Under.mono _ _ _
      | exact nameplatelaw02_lives.mono _
      | exact LeO.none _
      | refine LeO.ite ?_ ?_
      | refine LeO.bind ?_ (fun _ => ?_)
set_option maxHeartbeats 8000000 in
set_option maxRecDepth 100000 in
theorem nameplatelaw02_NameJoins.calls (k : Nat) (a0 : ByteArray) (a1 : ByteArray) (a2 : ByteArray) (r : Bool) (w : World) (hr_ : Aside0 (r = true)) (h : nameplatelaw02_NameJoins.f k a0 a1 a2 = some r) :
    Calls Try.prog 4 #[.string a0, .string a1, .string a2] w fun e w' => e = .returned (.bool r) ∧ Below w.heap.size w w' := by
  have HB := Aside0.mk (Below.refl w.heap.size w)
  have H : ((nameplatelaw02_lives.f k).bind fun t173 => (if t173 = true then (if (a0.size : Int) > 400 then (nameplatelaw02_NameJoins.j0 k a0 a1 a2 true) else (if (a1.size : Int) > 400 then (nameplatelaw02_NameJoins.j0 k a0 a1 a2 true) else (if (a2.size : Int) > 400 then (nameplatelaw02_NameJoins.j0 k a0 a1 a2 true) else ((name_Check.f k a0).bind fun t174 => (if t174 = 0 then ((name_Check.f k a1).bind fun t175 => (if t175 = 0 then ((name_Check.f k a2).bind fun t176 => (nameplatelaw02_NameJoins.j0 k a0 a1 a2 (t176 != 0))) else (nameplatelaw02_NameJoins.j0 k a0 a1 a2 true))) else (nameplatelaw02_NameJoins.j0 k a0 a1 a2 true)))))) else (some false))) = some r := h
  clear h
  replace H := Option.bind_eq_some_iff.mp H
  obtain ⟨t173, A40, H⟩ := H
  replace H : (if t173 = true then (if (a0.size : Int) > 400 then (nameplatelaw02_NameJoins.j0 k a0 a1 a2 true) else (if (a1.size : Int) > 400 then (nameplatelaw02_NameJoins.j0 k a0 a1 a2 true) else (if (a2.size : Int) > 400 then (nameplatelaw02_NameJoins.j0 k a0 a1 a2 true) else ((name_Check.f k a0).bind fun t174 => (if t174 = 0 then ((name_Check.f k a1).bind fun t175 => (if t175 = 0 then ((name_Check.f k a2).bind fun t176 => (nameplatelaw02_NameJoins.j0 k a0 a1 a2 (t176 != 0))) else (nameplatelaw02_NameJoins.j0 k a0 a1 a2 true))) else (nameplatelaw02_NameJoins.j0 k a0 a1 a2 true)))))) else (some false)) = some r := H
  have A4 := Aside0.mk A40
  clear A40
  by_cases c5 : t173 = true
  · subst c5
    have H1 : (if (a0.size : Int) > 400 then (nameplatelaw02_NameJoins.j0 k a0 a1 a2 true) else (if (a1.size : Int) > 400 then (nameplatelaw02_NameJoins.j0 k a0 a1 a2 true) else (if (a2.size : Int) > 400 then (nameplatelaw02_NameJoins.j0 k a0 a1 a2 true) else ((name_Check.f k a0).bind fun t174 => (if t174 = 0 then ((name_Check.f k a1).bind fun t175 => (if t175 = 0 then ((name_Check.f k a2).bind fun t176 => (nameplatelaw02_NameJoins.j0 k a0 a1 a2 (t176 != 0))) else (nameplatelaw02_NameJoins.j0 k a0 a1 a2 true))) else (nameplatelaw02_NameJoins.j0 k a0 a1 a2 true)))))) = some r := by rw [if_pos rfl] at H; exact H
    clear H
    have H := H1
    clear H1
    have HC6 := Aside0.mk H
    clear H
    go_enter Try.func4, Try.ntmps4
    go_upto_region 3 with (first | ((with_reducible refine gate_callee (f := 11) rfl ?_); refine goesL_ (some 17) rfl rfl Try.func11 (by kernel_rfl) rfl #[] rfl (by (try simp only [List.map_toArray, List.map_cons, List.map_nil]); first | done | rfl | (simp only [List.length_drop, List.length_take]; rfl)) ?_; (with_reducible refine (nameplatelaw02_lives.calls k  true _ A4.out).mono ?_); rintro e w7 ⟨rfl, hb⟩; refine ⟨_, rfl, ?_⟩; have n0_ := Aside0.mk (below_step (by repeat (first | (with_reducible first | exact HB.out | apply below_alloc | apply pw_below_drewN | apply below_drew1) | exact HB.out)) hb); clear HB; have HB := n0_; clear n0_; (try clear hb); (try clear hb2); (try clear hk); (try clear hi)))
    (try simp only [Act.put, List.setIfInBounds_toArray, List.set_cons_zero, List.set_cons_succ])
    go_cut [46] (fun v46 wc => ∃ (kq : Nat) (x46_5 : Bool), v46 = .bool x46_5 ∧ Aside0 (nameplatelaw02_NameJoins.j0 kq a0 a1 a2 x46_5 = some r) ∧ Aside0 (kq ≤ k) ∧ Aside0 (Below w.heap.size w wc))
    case first =>
      have H := HC6.out
      clear HC6
      by_cases c8 : (a0.size : Int) > 400
      · rw [if_pos c8] at H
        have c8b0 : decide (400 < (a0.size : Int)) = true := decide_eq_true c8
        have c8b1 : decide (400 < a0.size) = true := decide_eq_true (by omega)
        clear c8
        (first | rw [c8b0] | (simp only [i64_w, i32_w]; rw [c8b0]) | skip)
        have H' := Aside0.mk H
        clear H
        go_wp2
        go_meet
        case rel => exact ⟨_, (true), (by first | rfl | (simp; done) | (simp [*]; done)), H', ⟨by first | omega | exact Nat.le_refl _⟩, ⟨by repeat (first | (with_reducible first | exact HB.out | apply below_alloc | apply pw_below_drewN | apply below_drew1) | exact HB.out)⟩⟩
      · rw [if_neg c8] at H
        have c8b0 : decide (400 < (a0.size : Int)) = false := decide_eq_false c8
        have c8b1 : decide (400 < a0.size) = false := decide_eq_false (by omega)
        clear c8
        (first | rw [c8b0] | (simp only [i64_w, i32_w]; rw [c8b0]) | skip)
        by_cases c9 : (a1.size : Int) > 400
        · rw [if_pos c9] at H
          have c9b0 : decide (400 < (a1.size : Int)) = true := decide_eq_true c9
          have c9b1 : decide (400 < a1.size) = true := decide_eq_true (by omega)
          clear c9
          have H' := Aside0.mk H
          clear H
          go_wp2
          go_meet
          case rel => exact ⟨_, (true), (by first | rfl | (simp; done) | (simp [*]; done)), H', ⟨by first | omega | exact Nat.le_refl _⟩, ⟨by repeat (first | (with_reducible first | exact HB.out | apply below_alloc | apply pw_below_drewN | apply below_drew1) | exact HB.out)⟩⟩
        · rw [if_neg c9] at H
          have c9b0 : decide (400 < (a1.size : Int)) = false := decide_eq_false c9
          have c9b1 : decide (400 < a1.size) = false := decide_eq_false (by omega)
          clear c9
          by_cases c10 : (a2.size : Int) > 400
          · rw [if_pos c10] at H
            have c10b0 : decide (400 < (a2.size : Int)) = true := decide_eq_true c10
            have c10b1 : decide (400 < a2.size) = true := decide_eq_true (by omega)
            clear c10
            have H' := Aside0.mk H
            clear H
            go_wp2
            go_meet
            case rel => exact ⟨_, (true), (by first | rfl | (simp; done) | (simp [*]; done)), H', ⟨by first | omega | exact Nat.le_refl _⟩, ⟨by repeat (first | (with_reducible first | exact HB.out | apply below_alloc | apply pw_below_drewN | apply below_drew1) | exact HB.out)⟩⟩
          · rw [if_neg c10] at H
            have c10b0 : decide (400 < (a2.size : Int)) = false := decide_eq_false c10
            have c10b1 : decide (400 < a2.size) = false := decide_eq_false (by omega)
            clear c10
            replace H := Option.bind_eq_some_iff.mp H
            obtain ⟨t174, A110, H⟩ := H
            replace H : (if t174 = 0 then ((name_Check.f k a1).bind fun t175 => (if t175 = 0 then ((name_Check.f k a2).bind fun t176 => (nameplatelaw02_NameJoins.j0 k a0 a1 a2 (t176 != 0))) else (nameplatelaw02_NameJoins.j0 k a0 a1 a2 true))) else (nameplatelaw02_NameJoins.j0 k a0 a1 a2 true)) = some r := H
            have A11 := Aside0.mk A110
            clear A110
            by_cases c12 : t174 = 0
            · rw [if_pos c12] at H
              have c12b0 : (t174 == 0) = true := beq_iff_eq.mpr c12
              have c12b1 : (t174 != 0) = false := bne_eq_false_iff_eq.mpr c12
              clear c12
              replace H := Option.bind_eq_some_iff.mp H
              obtain ⟨t175, A130, H⟩ := H
              replace H : (if t175 = 0 then ((name_Check.f k a2).bind fun t176 => (nameplatelaw02_NameJoins.j0 k a0 a1 a2 (t176 != 0))) else (nameplatelaw02_NameJoins.j0 k a0 a1 a2 true)) = some r := H
              have A13 := Aside0.mk A130
              clear A130
              by_cases c14 : t175 = 0
              · rw [if_pos c14] at H
                have c14b0 : (t175 == 0) = true := beq_iff_eq.mpr c14
                have c14b1 : (t175 != 0) = false := bne_eq_false_iff_eq.mpr c14
                clear c14
                replace H := Option.bind_eq_some_iff.mp H
                obtain ⟨t176, A150, H⟩ := H
                replace H : (nameplatelaw02_NameJoins.j0 k a0 a1 a2 (t176 != 0)) = some r := H
                have A15 := Aside0.mk A150
                clear A150
                have H' := Aside0.mk H
                clear H
                go_wp2_with (first | (go_at_call 12; (with_reducible refine (name_Check.calls k a0 t174 _ A11.out).mono ?_); rintro e w' ⟨rfl, ⟨nd, rfl⟩⟩) | (go_at_call 12; (with_reducible refine (name_Check.calls k a1 t175 _ A13.out).mono ?_); rintro e w' ⟨rfl, ⟨nd, rfl⟩⟩) | (go_at_call 12; (with_reducible refine (name_Check.calls k a2 t176 _ A15.out).mono ?_); rintro e w' ⟨rfl, ⟨nd, rfl⟩⟩))
                go_meet
                case rel => exact ⟨_, ((t176 != 0)), (by first | rfl | (simp; done) | (simp [*]; done)), H', ⟨by first | omega | exact Nat.le_refl _⟩, ⟨by repeat (first | (with_reducible first | exact HB.out | apply below_alloc | apply pw_below_drewN | apply below_drew1) | exact HB.out)⟩⟩
              · rw [if_neg c14] at H
                have c14b0 : (t175 == 0) = false := beq_eq_false_iff_ne.mpr c14
                have c14b1 : (t175 != 0) = true := bne_iff_ne.mpr c14
                have H' := Aside0.mk H
                clear H
                go_wp2_with (first | (go_at_call 12; (with_reducible refine (name_Check.calls k a0 t174 _ A11.out).mono ?_); rintro e w' ⟨rfl, ⟨nd, rfl⟩⟩) | (go_at_call 12; (with_reducible refine (name_Check.calls k a1 t175 _ A13.out).mono ?_); rintro e w' ⟨rfl, ⟨nd, rfl⟩⟩))
                go_meet
                case rel => exact ⟨_, (true), (by first | rfl | (simp; done) | (simp [*]; done)), H', ⟨by first | omega | exact Nat.le_refl _⟩, ⟨by repeat (first | (with_reducible first | exact HB.out | apply below_alloc | apply pw_below_drewN | apply below_drew1) | exact HB.out)⟩⟩
            · rw [if_neg c12] at H
              have c12b0 : (t174 == 0) = false := beq_eq_false_iff_ne.mpr c12
              have c12b1 : (t174 != 0) = true := bne_iff_ne.mpr c12
              have H' := Aside0.mk H
              clear H
              go_wp2_with (first | (go_at_call 12; (with_reducible refine (name_Check.calls k a0 t174 _ A11.out).mono ?_); rintro e w' ⟨rfl, ⟨nd, rfl⟩⟩))
              go_meet
              case rel => exact ⟨_, (true), (by first | rfl | (simp; done) | (simp [*]; done)), H', ⟨by first | omega | exact Nat.le_refl _⟩, ⟨by repeat (first | (with_reducible first | exact HB.out | apply below_alloc | apply pw_below_drewN | apply below_drew1) | exact HB.out)⟩⟩
    case rest =>
      clear HC6
      try clear c1
      try clear p2
      try clear c4
      try clear c5
      try clear c8
      try clear c8b0
      try clear c8b1
      try clear c9
      try clear c9b0
      try clear c9b1
      try clear c10
      try clear c10b0
      try clear c10b1
      try clear c11
      try clear c12
      try clear c12b0
      try clear c12b1
      try clear c14
      try clear c14b0
      try clear c14b1
      obtain ⟨kq, x46_5, rfl, HA, HJ5, HB⟩ := hcut
      cases kq with
      | zero => exact absurd HA.out (by simp [nameplatelaw02_NameJoins.j0])
      | succ kj5 =>
        have H := HA.out
        clear HA
        simp only [nameplatelaw02_NameJoins.j0] at H
        by_cases c16 : x46_5 = true
        · subst c16
          have H1 : (some true) = some r := by rw [if_pos rfl] at H; exact H
          clear H
          have H := H1
          clear H1
          obtain rfl := Option.some.inj H
          go_wp2
          go_ret
          exact ⟨by first | rfl | (simp [errW_none, errW_some] <;> rfl) | (simp [*, errW_none, errW_some] <;> rfl), by repeat (first | (with_reducible first | exact HB.out | apply below_alloc | apply pw_below_drewN | apply below_drew1) | exact HB.out)⟩
        · replace c16 := Bool.eq_false_iff.mpr c16
          subst c16
          have H1 : ((name_Join.f kj5 a0 a1).bind fun bt177 => ((name_Join.f kj5 a1 a2).bind fun bt179 => (if (wrap64 ((wrap64 ((a0.size : Int) + (a1.size : Int))) + (a2.size : Int))) > 254 then ((name_Join.f kj5 bt177.1 a2).bind fun bt181 => (if bt177.2 = 3 then (some true) else (if bt179.2 = 3 then (some true) else (some (bt181.2 == 3))))) else ((name_Join.f kj5 bt177.1 a2).bind fun bt183 => ((name_Join.f kj5 a0 bt179.1).bind fun bt185 => (if bt177.2 = 0 then (if bt179.2 = 0 then (if bt183.2 = 0 then (if bt185.2 = 0 then (if bt183.1.toList = bt185.1.toList then (if (bt183.1.size : Int) = (wrap64 ((wrap64 ((a0.size : Int) + (a1.size : Int))) + (a2.size : Int))) then ((name_Under.f kj5 bt183.1 a2).bind fun t187 => (if t187 = true then ((name_Under.f kj5 bt183.1 bt179.1).bind fun t188 => (if t188 = true then ((name_Labels.f kj5 bt183.1).bind fun t189 => ((name_Labels.f kj5 a0).bind fun t192 => ((name_Labels.f kj5 a1).bind fun t195 => ((name_Labels.f kj5 a2).bind fun t198 => (some ((t189.length : Int) == (wrap64 ((wrap64 ((t192.length : Int) + (t195.length : Int))) + (t198.length : Int))))))))) else (some false))) else (some false))) else (some false)) else (some false)) else (some false)) else (some false)) else (some false)) else (some false))))))) = some r := by rw [if_neg (show ¬ (false = true) by decide)] at H; exact H
          clear H
          have H := H1
          clear H1
          replace H := Option.bind_eq_some_iff.mp H
          obtain ⟨⟨t177, t178⟩, A170, H⟩ := H
          replace H : ((name_Join.f kj5 a1 a2).bind fun bt179 => (if (wrap64 ((wrap64 ((a0.size : Int) + (a1.size : Int))) + (a2.size : Int))) > 254 then ((name_Join.f kj5 t177 a2).bind fun bt181 => (if t178 = 3 then (some true) else (if bt179.2 = 3 then (some true) else (some (bt181.2 == 3))))) else ((name_Join.f kj5 t177 a2).bind fun bt183 => ((name_Join.f kj5 a0 bt179.1).bind fun bt185 => (if t178 = 0 then (if bt179.2 = 0 then (if bt183.2 = 0 then (if bt185.2 = 0 then (if bt183.1.toList = bt185.1.toList then (if (bt183.1.size : Int) = (wrap64 ((wrap64 ((a0.size : Int) + (a1.size : Int))) + (a2.size : Int))) then ((name_Under.f kj5 bt183.1 a2).bind fun t187 => (if t187 = true then ((name_Under.f kj5 bt183.1 bt179.1).bind fun t188 => (if t188 = true then ((name_Labels.f kj5 bt183.1).bind fun t189 => ((name_Labels.f kj5 a0).bind fun t192 => ((name_Labels.f kj5 a1).bind fun t195 => ((name_Labels.f kj5 a2).bind fun t198 => (some ((t189.length : Int) == (wrap64 ((wrap64 ((t192.length : Int) + (t195.length : Int))) + (t198.length : Int))))))))) else (some false))) else (some false))) else (some false)) else (some false)) else (some false)) else (some false)) else (some false)) else (some false)))))) = some r := H
          have A17 := Aside0.mk A170
          clear A170
          replace H := Option.bind_eq_some_iff.mp H
          obtain ⟨⟨t179, t180⟩, A180, H⟩ := H
          replace H : (if (wrap64 ((wrap64 ((a0.size : Int) + (a1.size : Int))) + (a2.size : Int))) > 254 then ((name_Join.f kj5 t177 a2).bind fun bt181 => (if t178 = 3 then (some true) else (if t180 = 3 then (some true) else (some (bt181.2 == 3))))) else ((name_Join.f kj5 t177 a2).bind fun bt183 => ((name_Join.f kj5 a0 t179).bind fun bt185 => (if t178 = 0 then (if t180 = 0 then (if bt183.2 = 0 then (if bt185.2 = 0 then (if bt183.1.toList = bt185.1.toList then (if (bt183.1.size : Int) = (wrap64 ((wrap64 ((a0.size : Int) + (a1.size : Int))) + (a2.size : Int))) then ((name_Under.f kj5 bt183.1 a2).bind fun t187 => (if t187 = true then ((name_Under.f kj5 bt183.1 t179).bind fun t188 => (if t188 = true then ((name_Labels.f kj5 bt183.1).bind fun t189 => ((name_Labels.f kj5 a0).bind fun t192 => ((name_Labels.f kj5 a1).bind fun t195 => ((name_Labels.f kj5 a2).bind fun t198 => (some ((t189.length : Int) == (wrap64 ((wrap64 ((t192.length : Int) + (t195.length : Int))) + (t198.length : Int))))))))) else (some false))) else (some false))) else (some false)) else (some false)) else (some false)) else (some false)) else (some false)) else (some false))))) = some r := H
          have A18 := Aside0.mk A180
          clear A180
          by_cases c19 : (wrap64 ((wrap64 ((a0.size : Int) + (a1.size : Int))) + (a2.size : Int))) > 254
          · rw [if_pos c19] at H
            have c19b0 : decide (254 < (wrap64 ((wrap64 ((a0.size : Int) + (a1.size : Int))) + (a2.size : Int)))) = true := decide_eq_true c19
            clear c19
            replace H := Option.bind_eq_some_iff.mp H
            obtain ⟨⟨t181, t182⟩, A200, H⟩ := H
            replace H : (if t178 = 3 then (some true) else (if t180 = 3 then (some true) else (some (t182 == 3)))) = some r := H
            have A20 := Aside0.mk A200
            clear A200
            by_cases c21 : t178 = 3
            · rw [if_pos c21] at H
              have c21b0 : (t178 == 3) = true := beq_iff_eq.mpr c21
              have c21b1 : (t178 != 3) = false := bne_eq_false_iff_eq.mpr c21
              clear c21
              obtain rfl := Option.some.inj H
              go_wp2_with (first | ((with_reducible refine gate_callee (f := 15) rfl ?_); refine goesL_ (some 50) rfl rfl Try.func15 (by kernel_rfl) rfl #[.string a0, .string a1] rfl (by (try simp only [List.map_toArray, List.map_cons, List.map_nil]); first | done | rfl | (simp only [List.length_drop, List.length_take]; rfl)) ?_; (with_reducible refine (name_Join.calls kj5 a0 a1 t177 t178 _ A17.out).mono ?_); rintro e w22 ⟨rfl, hb⟩; refine ⟨_, rfl, ?_⟩; have n0_ := Aside0.mk (below_step (by repeat (first | (with_reducible first | exact HB.out | apply below_alloc | apply pw_below_drewN | apply below_drew1) | exact HB.out)) hb); clear HB; have HB := n0_; clear n0_; (try clear hb); (try clear hb2); (try clear hk); (try clear hi)) | ((with_reducible refine gate_callee (f := 15) rfl ?_); refine goesL_ (some 56) rfl rfl Try.func15 (by kernel_rfl) rfl #[.string a1, .string a2] rfl (by (try simp only [List.map_toArray, List.map_cons, List.map_nil]); first | done | rfl | (simp only [List.length_drop, List.length_take]; rfl)) ?_; (with_reducible refine (name_Join.calls kj5 a1 a2 t179 t180 _ A18.out).mono ?_); rintro e w23 ⟨rfl, hb⟩; refine ⟨_, rfl, ?_⟩; have n0_ := Aside0.mk (below_step (by repeat (first | (with_reducible first | exact HB.out | apply below_alloc | apply pw_below_drewN | apply below_drew1) | exact HB.out)) hb); clear HB; have HB := n0_; clear n0_; (try clear hb); (try clear hb2); (try clear hk); (try clear hi)) | ((with_reducible refine gate_callee (f := 15) rfl ?_); refine goesL_ (some 71) rfl rfl Try.func15 (by kernel_rfl) rfl #[.string t177, .string a2] rfl (by (try simp only [List.map_toArray, List.map_cons, List.map_nil]); first | done | rfl | (simp only [List.length_drop, List.length_take]; rfl)) ?_; (with_reducible refine (name_Join.calls kj5 t177 a2 t181 t182 _ A20.out).mono ?_); rintro e w24 ⟨rfl, hb⟩; refine ⟨_, rfl, ?_⟩; have n0_ := Aside0.mk (below_step (by repeat (first | (with_reducible first | exact HB.out | apply below_alloc | apply pw_below_drewN | apply below_drew1) | exact HB.out)) hb); clear HB; have HB := n0_; clear n0_; (try clear hb); (try clear hb2); (try clear hk); (try clear hi)))
              go_ret
              exact ⟨by first | rfl | (simp [errW_none, errW_some] <;> rfl) | (simp [*, errW_none, errW_some] <;> rfl), by repeat (first | (with_reducible first | exact HB.out | apply below_alloc | apply pw_below_drewN | apply below_drew1) | exact HB.out)⟩
            · rw [if_neg c21] at H
              have c21b0 : (t178 == 3) = false := beq_eq_false_iff_ne.mpr c21
              have c21b1 : (t178 != 3) = true := bne_iff_ne.mpr c21
              by_cases c25 : t180 = 3
              · rw [if_pos c25] at H
                have c25b0 : (t180 == 3) = true := beq_iff_eq.mpr c25
                have c25b1 : (t180 != 3) = false := bne_eq_false_iff_eq.mpr c25
                clear c25
                obtain rfl := Option.some.inj H
                go_wp2_with (first | ((with_reducible refine gate_callee (f := 15) rfl ?_); refine goesL_ (some 50) rfl rfl Try.func15 (by kernel_rfl) rfl #[.string a0, .string a1] rfl (by (try simp only [List.map_toArray, List.map_cons, List.map_nil]); first | done | rfl | (simp only [List.length_drop, List.length_take]; rfl)) ?_; (with_reducible refine (name_Join.calls kj5 a0 a1 t177 t178 _ A17.out).mono ?_); rintro e w26 ⟨rfl, hb⟩; refine ⟨_, rfl, ?_⟩; have n0_ := Aside0.mk (below_step (by repeat (first | (with_reducible first | exact HB.out | apply below_alloc | apply pw_below_drewN | apply below_drew1) | exact HB.out)) hb); clear HB; have HB := n0_; clear n0_; (try clear hb); (try clear hb2); (try clear hk); (try clear hi)) | ((with_reducible refine gate_callee (f := 15) rfl ?_); refine goesL_ (some 56) rfl rfl Try.func15 (by kernel_rfl) rfl #[.string a1, .string a2] rfl (by (try simp only [List.map_toArray, List.map_cons, List.map_nil]); first | done | rfl | (simp only [List.length_drop, List.length_take]; rfl)) ?_; (with_reducible refine (name_Join.calls kj5 a1 a2 t179 t180 _ A18.out).mono ?_); rintro e w27 ⟨rfl, hb⟩; refine ⟨_, rfl, ?_⟩; have n0_ := Aside0.mk (below_step (by repeat (first | (with_reducible first | exact HB.out | apply below_alloc | apply pw_below_drewN | apply below_drew1) | exact HB.out)) hb); clear HB; have HB := n0_; clear n0_; (try clear hb); (try clear hb2); (try clear hk); (try clear hi)) | ((with_reducible refine gate_callee (f := 15) rfl ?_); refine goesL_ (some 71) rfl rfl Try.func15 (by kernel_rfl) rfl #[.string t177, .string a2] rfl (by (try simp only [List.map_toArray, List.map_cons, List.map_nil]); first | done | rfl | (simp only [List.length_drop, List.length_take]; rfl)) ?_; (with_reducible refine (name_Join.calls kj5 t177 a2 t181 t182 _ A20.out).mono ?_); rintro e w28 ⟨rfl, hb⟩; refine ⟨_, rfl, ?_⟩; have n0_ := Aside0.mk (below_step (by repeat (first | (with_reducible first | exact HB.out | apply below_alloc | apply pw_below_drewN | apply below_drew1) | exact HB.out)) hb); clear HB; have HB := n0_; clear n0_; (try clear hb); (try clear hb2); (try clear hk); (try clear hi)))
                go_ret
                exact ⟨by first | rfl | (simp [errW_none, errW_some] <;> rfl) | (simp [*, errW_none, errW_some] <;> rfl), by repeat (first | (with_reducible first | exact HB.out | apply below_alloc | apply pw_below_drewN | apply below_drew1) | exact HB.out)⟩
              · rw [if_neg c25] at H
                have c25b0 : (t180 == 3) = false := beq_eq_false_iff_ne.mpr c25
                have c25b1 : (t180 != 3) = true := bne_iff_ne.mpr c25
                obtain rfl := Option.some.inj H
                go_wp2_with (first | ((with_reducible refine gate_callee (f := 15) rfl ?_); refine goesL_ (some 50) rfl rfl Try.func15 (by kernel_rfl) rfl #[.string a0, .string a1] rfl (by (try simp only [List.map_toArray, List.map_cons, List.map_nil]); first | done | rfl | (simp only [List.length_drop, List.length_take]; rfl)) ?_; (with_reducible refine (name_Join.calls kj5 a0 a1 t177 t178 _ A17.out).mono ?_); rintro e w29 ⟨rfl, hb⟩; refine ⟨_, rfl, ?_⟩; have n0_ := Aside0.mk (below_step (by repeat (first | (with_reducible first | exact HB.out | apply below_alloc | apply pw_below_drewN | apply below_drew1) | exact HB.out)) hb); clear HB; have HB := n0_; clear n0_; (try clear hb); (try clear hb2); (try clear hk); (try clear hi)) | ((with_reducible refine gate_callee (f := 15) rfl ?_); refine goesL_ (some 56) rfl rfl Try.func15 (by kernel_rfl) rfl #[.string a1, .string a2] rfl (by (try simp only [List.map_toArray, List.map_cons, List.map_nil]); first | done | rfl | (simp only [List.length_drop, List.length_take]; rfl)) ?_; (with_reducible refine (name_Join.calls kj5 a1 a2 t179 t180 _ A18.out).mono ?_); rintro e w30 ⟨rfl, hb⟩; refine ⟨_, rfl, ?_⟩; have n0_ := Aside0.mk (below_step (by repeat (first | (with_reducible first | exact HB.out | apply below_alloc | apply pw_below_drewN | apply below_drew1) | exact HB.out)) hb); clear HB; have HB := n0_; clear n0_; (try clear hb); (try clear hb2); (try clear hk); (try clear hi)) | ((with_reducible refine gate_callee (f := 15) rfl ?_); refine goesL_ (some 71) rfl rfl Try.func15 (by kernel_rfl) rfl #[.string t177, .string a2] rfl (by (try simp only [List.map_toArray, List.map_cons, List.map_nil]); first | done | rfl | (simp only [List.length_drop, List.length_take]; rfl)) ?_; (with_reducible refine (name_Join.calls kj5 t177 a2 t181 t182 _ A20.out).mono ?_); rintro e w31 ⟨rfl, hb⟩; refine ⟨_, rfl, ?_⟩; have n0_ := Aside0.mk (below_step (by repeat (first | (with_reducible first | exact HB.out | apply below_alloc | apply pw_below_drewN | apply below_drew1) | exact HB.out)) hb); clear HB; have HB := n0_; clear n0_; (try clear hb); (try clear hb2); (try clear hk); (try clear hi)))
                go_ret
                exact ⟨by first | rfl | (simp [errW_none, errW_some] <;> rfl) | (simp [*, errW_none, errW_some] <;> rfl), by repeat (first | (with_reducible first | exact HB.out | apply below_alloc | apply pw_below_drewN | apply below_drew1) | exact HB.out)⟩
          · rw [if_neg c19] at H
            have c19b0 : decide (254 < (wrap64 ((wrap64 ((a0.size : Int) + (a1.size : Int))) + (a2.size : Int)))) = false := decide_eq_false c19
            clear c19
            replace H := Option.bind_eq_some_iff.mp H
            obtain ⟨⟨t183, t184⟩, A320, H⟩ := H
            replace H : ((name_Join.f kj5 a0 t179).bind fun bt185 => (if t178 = 0 then (if t180 = 0 then (if t184 = 0 then (if bt185.2 = 0 then (if t183.toList = bt185.1.toList then (if (t183.size : Int) = (wrap64 ((wrap64 ((a0.size : Int) + (a1.size : Int))) + (a2.size : Int))) then ((name_Under.f kj5 t183 a2).bind fun t187 => (if t187 = true then ((name_Under.f kj5 t183 t179).bind fun t188 => (if t188 = true then ((name_Labels.f kj5 t183).bind fun t189 => ((name_Labels.f kj5 a0).bind fun t192 => ((name_Labels.f kj5 a1).bind fun t195 => ((name_Labels.f kj5 a2).bind fun t198 => (some ((t189.length : Int) == (wrap64 ((wrap64 ((t192.length : Int) + (t195.length : Int))) + (t198.length : Int))))))))) else (some false))) else (some false))) else (some false)) else (some false)) else (some false)) else (some false)) else (some false)) else (some false))) = some r := H
            have A32 := Aside0.mk A320
            clear A320
            replace H := Option.bind_eq_some_iff.mp H
            obtain ⟨⟨t185, t186⟩, A330, H⟩ := H
            replace H : (if t178 = 0 then (if t180 = 0 then (if t184 = 0 then (if t186 = 0 then (if t183.toList = t185.toList then (if (t183.size : Int) = (wrap64 ((wrap64 ((a0.size : Int) + (a1.size : Int))) + (a2.size : Int))) then ((name_Under.f kj5 t183 a2).bind fun t187 => (if t187 = true then ((name_Under.f kj5 t183 t179).bind fun t188 => (if t188 = true then ((name_Labels.f kj5 t183).bind fun t189 => ((name_Labels.f kj5 a0).bind fun t192 => ((name_Labels.f kj5 a1).bind fun t195 => ((name_Labels.f kj5 a2).bind fun t198 => (some ((t189.length : Int) == (wrap64 ((wrap64 ((t192.length : Int) + (t195.length : Int))) + (t198.length : Int))))))))) else (some false))) else (some false))) else (some false)) else (some false)) else (some false)) else (some false)) else (some false)) else (some false)) = some r := H
            have A33 := Aside0.mk A330
            clear A330
            by_cases c34 : t178 = 0
            · rw [if_pos c34] at H
              have c34b0 : (t178 == 0) = true := beq_iff_eq.mpr c34
              have c34b1 : (t178 != 0) = false := bne_eq_false_iff_eq.mpr c34
              clear c34
              by_cases c35 : t180 = 0
              · rw [if_pos c35] at H
                have c35b0 : (t180 == 0) = true := beq_iff_eq.mpr c35
                have c35b1 : (t180 != 0) = false := bne_eq_false_iff_eq.mpr c35
                clear c35
                by_cases c36 : t184 = 0
                · rw [if_pos c36] at H
                  have c36b0 : (t184 == 0) = true := beq_iff_eq.mpr c36
                  have c36b1 : (t184 != 0) = false := bne_eq_false_iff_eq.mpr c36
                  clear c36
                  by_cases c37 : t186 = 0
                  · rw [if_pos c37] at H
                    have c37b0 : (t186 == 0) = true := beq_iff_eq.mpr c37
                    have c37b1 : (t186 != 0) = false := bne_eq_false_iff_eq.mpr c37
                    clear c37
                    by_cases c38 : t183.toList = t185.toList
                    · rw [if_pos c38] at H
                      have c38b0 : (t183.toList == t185.toList) = true := beq_iff_eq.mpr c38
                      have c38b1 : (t183.toList != t185.toList) = false := bne_eq_false_iff_eq.mpr c38
                      clear c38
                      by_cases c39 : (t183.size : Int) = (wrap64 ((wrap64 ((a0.size : Int) + (a1.size : Int))) + (a2.size : Int)))
                      · rw [if_pos c39] at H
                        have c39b0 : ((t183.size : Int) == (wrap64 ((wrap64 ((a0.size : Int) + (a1.size : Int))) + (a2.size : Int)))) = true := beq_iff_eq.mpr c39
                        have c39b1 : ((t183.size : Int) != (wrap64 ((wrap64 ((a0.size : Int) + (a1.size : Int))) + (a2.size : Int)))) = false := bne_eq_false_iff_eq.mpr c39
                        clear c39
                        replace H := Option.bind_eq_some_iff.mp H
                        obtain ⟨t187, A400, H⟩ := H
                        replace H : (if t187 = true then ((name_Under.f kj5 t183 t179).bind fun t188 => (if t188 = true then ((name_Labels.f kj5 t183).bind fun t189 => ((name_Labels.f kj5 a0).bind fun t192 => ((name_Labels.f kj5 a1).bind fun t195 => ((name_Labels.f kj5 a2).bind fun t198 => (some ((t189.length : Int) == (wrap64 ((wrap64 ((t192.length : Int) + (t195.length : Int))) + (t198.length : Int))))))))) else (some false))) else (some false)) = some r := H
                        have A40 := Aside0.mk A400
                        clear A400
                        by_cases c41 : t187 = true
                        · subst c41
                          have H1 : ((name_Under.f kj5 t183 t179).bind fun t188 => (if t188 = true then ((name_Labels.f kj5 t183).bind fun t189 => ((name_Labels.f kj5 a0).bind fun t192 => ((name_Labels.f kj5 a1).bind fun t195 => ((name_Labels.f kj5 a2).bind fun t198 => (some ((t189.length : Int) == (wrap64 ((wrap64 ((t192.length : Int) + (t195.length : Int))) + (t198.length : Int))))))))) else (some false))) = some r := by rw [if_pos rfl] at H; exact H
                          clear H
                          have H := H1
                          clear H1
                          replace H := Option.bind_eq_some_iff.mp H
                          obtain ⟨t188, A420, H⟩ := H
                          replace H : (if t188 = true then ((name_Labels.f kj5 t183).bind fun t189 => ((name_Labels.f kj5 a0).bind fun t192 => ((name_Labels.f kj5 a1).bind fun t195 => ((name_Labels.f kj5 a2).bind fun t198 => (some ((t189.length : Int) == (wrap64 ((wrap64 ((t192.length : Int) + (t195.length : Int))) + (t198.length : Int))))))))) else (some false)) = some r := H
                          have A42 := Aside0.mk A420
                          clear A420
                          by_cases c43 : t188 = true
                          · subst c43
                            have H1 : ((name_Labels.f kj5 t183).bind fun t189 => ((name_Labels.f kj5 a0).bind fun t192 => ((name_Labels.f kj5 a1).bind fun t195 => ((name_Labels.f kj5 a2).bind fun t198 => (some ((t189.length : Int) == (wrap64 ((wrap64 ((t192.length : Int) + (t195.length : Int))) + (t198.length : Int))))))))) = some r := by rw [if_pos rfl] at H; exact H
                            clear H
                            have H := H1
                            clear H1
                            replace H := Option.bind_eq_some_iff.mp H
                            obtain ⟨t189, A440, H⟩ := H
                            replace H : ((name_Labels.f kj5 a0).bind fun t192 => ((name_Labels.f kj5 a1).bind fun t195 => ((name_Labels.f kj5 a2).bind fun t198 => (some ((t189.length : Int) == (wrap64 ((wrap64 ((t192.length : Int) + (t195.length : Int))) + (t198.length : Int)))))))) = some r := H
                            have A44 := Aside0.mk A440
                            clear A440
                            replace H := Option.bind_eq_some_iff.mp H
                            obtain ⟨t192, A450, H⟩ := H
                            replace H : ((name_Labels.f kj5 a1).bind fun t195 => ((name_Labels.f kj5 a2).bind fun t198 => (some ((t189.length : Int) == (wrap64 ((wrap64 ((t192.length : Int) + (t195.length : Int))) + (t198.length : Int))))))) = some r := H
                            have A45 := Aside0.mk A450
                            clear A450
                            replace H := Option.bind_eq_some_iff.mp H
                            obtain ⟨t195, A460, H⟩ := H
                            replace H : ((name_Labels.f kj5 a2).bind fun t198 => (some ((t189.length : Int) == (wrap64 ((wrap64 ((t192.length : Int) + (t195.length : Int))) + (t198.length : Int)))))) = some r := H
                            have A46 := Aside0.mk A460
                            clear A460
                            replace H := Option.bind_eq_some_iff.mp H
                            obtain ⟨t198, A470, H⟩ := H
                            replace H : (some ((t189.length : Int) == (wrap64 ((wrap64 ((t192.length : Int) + (t195.length : Int))) + (t198.length : Int))))) = some r := H
                            have A47 := Aside0.mk A470
                            clear A470
                            obtain rfl := Option.some.inj H
                            go_wp2_with (first | ((with_reducible refine gate_callee (f := 15) rfl ?_); refine goesL_ (some 50) rfl rfl Try.func15 (by kernel_rfl) rfl #[.string a0, .string a1] rfl (by (try simp only [List.map_toArray, List.map_cons, List.map_nil]); first | done | rfl | (simp only [List.length_drop, List.length_take]; rfl)) ?_; (with_reducible refine (name_Join.calls kj5 a0 a1 t177 t178 _ A17.out).mono ?_); rintro e w48 ⟨rfl, hb⟩; refine ⟨_, rfl, ?_⟩; have n0_ := Aside0.mk (below_step (by repeat (first | (with_reducible first | exact HB.out | apply below_alloc | apply pw_below_drewN | apply below_drew1) | exact HB.out)) hb); clear HB; have HB := n0_; clear n0_; (try clear hb); (try clear hb2); (try clear hk); (try clear hi)) | ((with_reducible refine gate_callee (f := 15) rfl ?_); refine goesL_ (some 56) rfl rfl Try.func15 (by kernel_rfl) rfl #[.string a1, .string a2] rfl (by (try simp only [List.map_toArray, List.map_cons, List.map_nil]); first | done | rfl | (simp only [List.length_drop, List.length_take]; rfl)) ?_; (with_reducible refine (name_Join.calls kj5 a1 a2 t179 t180 _ A18.out).mono ?_); rintro e w49 ⟨rfl, hb⟩; refine ⟨_, rfl, ?_⟩; have n0_ := Aside0.mk (below_step (by repeat (first | (with_reducible first | exact HB.out | apply below_alloc | apply pw_below_drewN | apply below_drew1) | exact HB.out)) hb); clear HB; have HB := n0_; clear n0_; (try clear hb); (try clear hb2); (try clear hk); (try clear hi)) | ((with_reducible refine gate_callee (f := 15) rfl ?_); refine goesL_ (some 87) rfl rfl Try.func15 (by kernel_rfl) rfl #[.string t177, .string a2] rfl (by (try simp only [List.map_toArray, List.map_cons, List.map_nil]); first | done | rfl | (simp only [List.length_drop, List.length_take]; rfl)) ?_; (with_reducible refine (name_Join.calls kj5 t177 a2 t183 t184 _ A32.out).mono ?_); rintro e w50 ⟨rfl, hb⟩; refine ⟨_, rfl, ?_⟩; have n0_ := Aside0.mk (below_step (by repeat (first | (with_reducible first | exact HB.out | apply below_alloc | apply pw_below_drewN | apply below_drew1) | exact HB.out)) hb); clear HB; have HB := n0_; clear n0_; (try clear hb); (try clear hb2); (try clear hk); (try clear hi)) | ((with_reducible refine gate_callee (f := 15) rfl ?_); refine goesL_ (some 93) rfl rfl Try.func15 (by kernel_rfl) rfl #[.string a0, .string t179] rfl (by (try simp only [List.map_toArray, List.map_cons, List.map_nil]); first | done | rfl | (simp only [List.length_drop, List.length_take]; rfl)) ?_; (with_reducible refine (name_Join.calls kj5 a0 t179 t185 t186 _ A33.out).mono ?_); rintro e w51 ⟨rfl, hb⟩; refine ⟨_, rfl, ?_⟩; have n0_ := Aside0.mk (below_step (by repeat (first | (with_reducible first | exact HB.out | apply below_alloc | apply pw_below_drewN | apply below_drew1) | exact HB.out)) hb); clear HB; have HB := n0_; clear n0_; (try clear hb); (try clear hb2); (try clear hk); (try clear hi)) | (go_at_call 16; (with_reducible refine (name_Under.calls kj5 t183 a2 true _ A40.out).mono ?_); rintro e w52 ⟨rfl, hb⟩; have n0_ := Aside0.mk (below_step (by repeat (first | (with_reducible first | exact HB.out | apply below_alloc | apply pw_below_drewN | apply below_drew1) | exact HB.out)) hb); clear HB; have HB := n0_; clear n0_; (try clear hb); (try clear hb2); (try clear hk); (try clear hi)) | (go_at_call 16; (with_reducible refine (name_Under.calls kj5 t183 t179 true _ A42.out).mono ?_); rintro e w53 ⟨rfl, hb⟩; have n0_ := Aside0.mk (below_step (by repeat (first | (with_reducible first | exact HB.out | apply below_alloc | apply pw_below_drewN | apply below_drew1) | exact HB.out)) hb); clear HB; have HB := n0_; clear n0_; (try clear hb); (try clear hb2); (try clear hk); (try clear hi)) | (go_at_call 14; (with_reducible refine (name_Labels.calls kj5 t183 t189 _ A44.out).mono ?_); rintro e w54 ⟨v190, rfl, ho0, hb⟩; have n0_ := Aside0.mk (Kd.R_lower ho0 (below_size (by repeat (first | (with_reducible first | exact HB.out | apply below_alloc | apply pw_below_drewN | apply below_drew1) | exact HB.out)))); have n1_ := Aside0.mk (below_step (by repeat (first | (with_reducible first | exact HB.out | apply below_alloc | apply pw_below_drewN | apply below_drew1) | exact HB.out)) hb); clear HB; have HO191 := n0_; have HB := n1_; clear n0_ n1_; (try clear hb); (try clear hb2); (try clear hk); (try clear hi); (try clear ho0); obtain ⟨Ao55, co55, eo55⟩ := Kd.R_slice HO191.out; subst eo55) | (go_at_call 14; (with_reducible refine (name_Labels.calls kj5 a0 t192 _ A45.out).mono ?_); rintro e w56 ⟨v193, rfl, ho0, hb⟩; have n0_ := Aside0.mk (Kd.R_elder' (by (with_reducible repeat (first | apply Kd.R_alloc | apply Kd.R_drewN | apply Kd.R_drew)); exact HO191.out) (Kd.R_base ho0) hb); have n1_ := Aside0.mk (Kd.R_lower (Kd.R_new' ho0 (Kd.R_lt (by (with_reducible repeat (first | apply Kd.R_alloc | apply Kd.R_drewN | apply Kd.R_drew)); exact HO191.out))) (below_size (by repeat (first | (with_reducible first | exact HB.out | apply below_alloc | apply pw_below_drewN | apply below_drew1) | exact HB.out)))); have n2_ := Aside0.mk (below_step (by repeat (first | (with_reducible first | exact HB.out | apply below_alloc | apply pw_below_drewN | apply below_drew1) | exact HB.out)) hb); clear HO191; clear HB; have HO191 := n0_; have HO194 := n1_; have HB := n2_; clear n0_ n1_ n2_; (try clear hb); (try clear hb2); (try clear hk); (try clear hi); (try clear ho0); obtain ⟨Ao57, co57, eo57⟩ := Kd.R_slice HO194.out; subst eo57) | (go_at_call 14; (with_reducible refine (name_Labels.calls kj5 a1 t195 _ A46.out).mono ?_); rintro e w58 ⟨v196, rfl, ho0, hb⟩; have n0_ := Aside0.mk (Kd.R_elder' (by (with_reducible repeat (first | apply Kd.R_alloc | apply Kd.R_drewN | apply Kd.R_drew)); exact HO191.out) (Kd.R_base ho0) hb); have n1_ := Aside0.mk (Kd.R_elder' (by (with_reducible repeat (first | apply Kd.R_alloc | apply Kd.R_drewN | apply Kd.R_drew)); exact HO194.out) (Kd.R_base ho0) hb); have n2_ := Aside0.mk (Kd.R_lower (Kd.R_new' (Kd.R_new' ho0 (Kd.R_lt (by (with_reducible repeat (first | apply Kd.R_alloc | apply Kd.R_drewN | apply Kd.R_drew)); exact HO191.out))) (Kd.R_lt (by (with_reducible repeat (first | apply Kd.R_alloc | apply Kd.R_drewN | apply Kd.R_drew)); exact HO194.out))) (below_size (by repeat (first | (with_reducible first | exact HB.out | apply below_alloc | apply pw_below_drewN | apply below_drew1) | exact HB.out)))); have n3_ := Aside0.mk (below_step (by repeat (first | (with_reducible first | exact HB.out | apply below_alloc | apply pw_below_drewN | apply below_drew1) | exact HB.out)) hb); clear HO191; clear HO194; clear HB; have HO191 := n0_; have HO194 := n1_; have HO197 := n2_; have HB := n3_; clear n0_ n1_ n2_ n3_; (try clear hb); (try clear hb2); (try clear hk); (try clear hi); (try clear ho0); obtain ⟨Ao59, co59, eo59⟩ := Kd.R_slice HO197.out; subst eo59) | (go_at_call 14; (with_reducible refine (name_Labels.calls kj5 a2 t198 _ A47.out).mono ?_); rintro e w60 ⟨v199, rfl, ho0, hb⟩; have n0_ := Aside0.mk (Kd.R_elder' (by (with_reducible repeat (first | apply Kd.R_alloc | apply Kd.R_drewN | apply Kd.R_drew)); exact HO191.out) (Kd.R_base ho0) hb); have n1_ := Aside0.mk (Kd.R_elder' (by (with_reducible repeat (first | apply Kd.R_alloc | apply Kd.R_drewN | apply Kd.R_drew)); exact HO194.out) (Kd.R_base ho0) hb); have n2_ := Aside0.mk (Kd.R_elder' (by (with_reducible repeat (first | apply Kd.R_alloc | apply Kd.R_drewN | apply Kd.R_drew)); exact HO197.out) (Kd.R_base ho0) hb); have n3_ := Aside0.mk (Kd.R_lower (Kd.R_new' (Kd.R_new' (Kd.R_new' ho0 (Kd.R_lt (by (with_reducible repeat (first | apply Kd.R_alloc | apply Kd.R_drewN | apply Kd.R_drew)); exact HO191.out))) (Kd.R_lt (by (with_reducible repeat (first | apply Kd.R_alloc | apply Kd.R_drewN | apply Kd.R_drew)); exact HO194.out))) (Kd.R_lt (by (with_reducible repeat (first | apply Kd.R_alloc | apply Kd.R_drewN | apply Kd.R_drew)); exact HO197.out))) (below_size (by repeat (first | (with_reducible first | exact HB.out | apply below_alloc | apply pw_below_drewN | apply below_drew1) | exact HB.out)))); have n4_ := Aside0.mk (below_step (by repeat (first | (with_reducible first | exact HB.out | apply below_alloc | apply pw_below_drewN | apply below_drew1) | exact HB.out)) hb); clear HO191; clear HO194; clear HO197; clear HB; have HO191 := n0_; have HO194 := n1_; have HO197 := n2_; have HO200 := n3_; have HB := n4_; clear n0_ n1_ n2_ n3_ n4_; (try clear hb); (try clear hb2); (try clear hk); (try clear hi); (try clear ho0); obtain ⟨Ao61, co61, eo61⟩ := Kd.R_slice HO200.out; subst eo61))
                            go_ret
                            exact ⟨by first | rfl | (simp [errW_none, errW_some] <;> rfl) | (simp [*, errW_none, errW_some] <;> rfl), by repeat (first | (with_reducible first | exact HB.out | apply below_alloc | apply pw_below_drewN | apply below_drew1) | exact HB.out)⟩
                          · replace c43 := Bool.eq_false_iff.mpr c43
                            subst c43
                            have H1 : (some false) = some r := by rw [if_neg (show ¬ (false = true) by decide)] at H; exact H
                            clear H
                            have H := H1
                            clear H1
                            exact absurd ((Option.some.inj H).trans hr_.out) (by decide)
                        · replace c41 := Bool.eq_false_iff.mpr c41
                          subst c41
                          have H1 : (some false) = some r := by rw [if_neg (show ¬ (false = true) by decide)] at H; exact H
                          clear H
                          have H := H1
                          clear H1
                          exact absurd ((Option.some.inj H).trans hr_.out) (by decide)
                      · rw [if_neg c39] at H
                        have c39b0 : ((t183.size : Int) == (wrap64 ((wrap64 ((a0.size : Int) + (a1.size : Int))) + (a2.size : Int)))) = false := beq_eq_false_iff_ne.mpr c39
                        have c39b1 : ((t183.size : Int) != (wrap64 ((wrap64 ((a0.size : Int) + (a1.size : Int))) + (a2.size : Int)))) = true := bne_iff_ne.mpr c39
                        exact absurd ((Option.some.inj H).trans hr_.out) (by decide)
                    · rw [if_neg c38] at H
                      have c38b0 : (t183.toList == t185.toList) = false := beq_eq_false_iff_ne.mpr c38
                      have c38b1 : (t183.toList != t185.toList) = true := bne_iff_ne.mpr c38
                      exact absurd ((Option.some.inj H).trans hr_.out) (by decide)
                  · rw [if_neg c37] at H
                    have c37b0 : (t186 == 0) = false := beq_eq_false_iff_ne.mpr c37
                    have c37b1 : (t186 != 0) = true := bne_iff_ne.mpr c37
                    exact absurd ((Option.some.inj H).trans hr_.out) (by decide)
                · rw [if_neg c36] at H
                  have c36b0 : (t184 == 0) = false := beq_eq_false_iff_ne.mpr c36
                  have c36b1 : (t184 != 0) = true := bne_iff_ne.mpr c36
                  exact absurd ((Option.some.inj H).trans hr_.out) (by decide)
              · rw [if_neg c35] at H
                have c35b0 : (t180 == 0) = false := beq_eq_false_iff_ne.mpr c35
                have c35b1 : (t180 != 0) = true := bne_iff_ne.mpr c35
                exact absurd ((Option.some.inj H).trans hr_.out) (by decide)
            · rw [if_neg c34] at H
              have c34b0 : (t178 == 0) = false := beq_eq_false_iff_ne.mpr c34
              have c34b1 : (t178 != 0) = true := bne_iff_ne.mpr c34
              exact absurd ((Option.some.inj H).trans hr_.out) (by decide)
  · replace c5 := Bool.eq_false_iff.mpr c5
    subst c5
    have H1 : (some false) = some r := by rw [if_neg (show ¬ (false = true) by decide)] at H; exact H
    clear H
    have H := H1
    clear H1
    exact absurd ((Option.some.inj H).trans hr_.out) (by decide)

/-- THE ONE PURE STATEMENT of nameplatelaw02_NameJoins: yours. -/
def nameplatelaw02_NameJoins.Pure : Prop := ∀ (a0 : ByteArray) (a1 : ByteArray) (a2 : ByteArray), a0.size ≤ 140737488351232 → a1.size ≤ 140737488351232 → a2.size ≤ 140737488351232 → ∃ k, nameplatelaw02_NameJoins.f k a0 a1 a2 = some true
theorem nameplatelaw02_NameJoins.walk (P : nameplatelaw02_NameJoins.Pure) (a0 : ByteArray) (a1 : ByteArray) (a2 : ByteArray) (w : World) (w0 : a0.size ≤ 140737488351232) (w1 : a1.size ≤ 140737488351232) (w2 : a2.size ≤ 140737488351232) :
    Calls Try.prog 4 #[.string a0, .string a1, .string a2] w fun e w' => e = .returned (.bool true) ∧ Below w.heap.size w w' := by
  obtain ⟨k, h⟩ := P a0 a1 a2 w0 w1 w2
  refine (nameplatelaw02_NameJoins.calls k a0 a1 a2 true w ⟨rfl⟩ h).mono ?_
  rintro e w' ⟨rfl, hd⟩
  exact ⟨rfl, hd⟩

-- NOT PRINTED: function 48 (slices_EqualFunc_string_string_string_string)

section
open Go.Shelf
attribute [local go_sem] Oper.semAt_some
set_option maxRecDepth 100000 in
set_option maxHeartbeats 2000000 in
theorem eqf_len (A0 A1 : Option Addr) (c0 c1 : Nat) (x y : List ByteArray) (hne : x.length ≠ y.length) (w : World) :
    Calls Try.prog 48 #[.slice A0 x.length c0, .slice A1 y.length c1, .func (.func 46) #[] #[]] w fun e w' => e = .returned (.bool false) ∧ Below w.heap.size w w' := by
  have h1 : ((x.length : Int) == (y.length : Int)) = false := beq_eq_false_iff_ne.2 (by omega)
  have h2 : ((x.length : Int) != (y.length : Int)) = true := bne_iff_ne.2 (by omega)
  go_enter Try.func48, Try.ntmps48
  go_wp2
  go_ret
  exact ⟨rfl, Below.refl _ _⟩
set_option maxRecDepth 100000 in
set_option maxHeartbeats 2000000 in
theorem eqf_same (A0 A1 : Option Addr) (c0 c1 : Nat) (x y : List ByteArray) (r : Bool) (hx254 : x.length ≤ 254) (hl : x.length = y.length) (hr : allSame (x.zip y) = some r) (w : World) (hC0 : Kd.C Kd.string w A0 x.length x) (hC1 : Kd.C Kd.string w A1 y.length y) :
    Calls Try.prog 48 #[.slice A0 x.length c0, .slice A1 y.length c1, .func (.func 46) #[] #[]] w fun e w' => e = .returned (.bool r) ∧ Below w.heap.size w w' := by
  have HR := Aside0.mk hr
  clear hr
  have h1 : ((x.length : Int) == (y.length : Int)) = true := beq_iff_eq.2 (by omega)
  have h2 : ((x.length : Int) != (y.length : Int)) = false := bne_eq_false_iff_eq.2 (by omega)
  have HL := Aside0.mk hl
  clear hl
  go_enter Try.func48, Try.ntmps48
  go_wp2
  go_loopg [17] x.length (fun kq v17 w' => ∃ n : Nat, v17 = .int .i64 (n : Int) ∧ Aside0 (n + kq = x.length) ∧ Aside0 (∀ m : Nat, m < n → label_Same.f (rdOf ByteArray.empty x (m : Int)) (rdOf ByteArray.empty y (m : Int)) = some true) ∧ Aside0 (Below w.heap.size w w'))
  case atStart => exact ⟨0, rfl, ⟨by omega⟩, ⟨fun m hm => absurd hm (Nat.not_lt_zero _)⟩, ⟨by first | exact Below.refl _ _ | exact pw_below_drewN (Below.refl _ _) _⟩⟩
  case round =>
    obtain ⟨n, rfl, HA, HC, HB⟩ := hrel
    have hA := HA.out
    have hB := HB.out
    by_cases hn : n < x.length
    · obtain ⟨b, hb, hbr⟩ := allSame_at HL.out.symm HR.out hn
      obtain ⟨ad, e1, hx⟩ := Kd.at_string (Kd.C_below hC0 hB) (n : Int) (by omega) (by omega)
      subst e1
      obtain ⟨ad1, e1, hy⟩ := Kd.at_string (Kd.C_below hC1 hB) (n : Int) (by omega) (by have := HL.out; omega)
      subst e1
      rw [Int.toNat_natCast] at hx hy
      obtain ⟨p, hp⟩ : ∃ p, rdOf ByteArray.empty x (n : Int) = p := ⟨_, rfl⟩
      obtain ⟨q, hq⟩ : ∃ q, rdOf ByteArray.empty y (n : Int) = q := ⟨_, rfl⟩
      rw [hp, hq] at hb
      rw [hp] at hx
      rw [hq] at hy
      have HX := Aside0.mk hb
      have HP := Aside0.mk hp
      have HQ := Aside0.mk hq
      clear hb hp hq
      have b1 : decide ((n : Int) < (x.length : Int)) = true := decide_eq_true (by omega)
      have p1 : (0 ≤ (n : Int)) = True := eq_true (by omega)
      have q1 : ((n : Int) < (x.length : Int)) = True := eq_true (by omega)
      have q2 : ((n : Int) < (y.length : Int)) = True := eq_true (by have := HL.out; omega)
      have hw : wrap64 ((n : Int) + 1) = ((n + 1 : Nat) : Int) := by
        rw [wrap_id (by omega) (by omega)]
        rfl
      have HT := Aside0.mk (fun (W : World) => label_Same.calls p q b W HX.out)
      cases b with
      | true =>
        clear hbr
        go_wp2_with (go_at_call 46; (with_reducible refine (HT.out _).mono ?_); rintro e w7 ⟨rfl, hb7⟩)
        go_roundg (gk - 1)
        case measure => omega
        case rel =>
          refine ⟨n + 1, rfl, ⟨by omega⟩, ⟨fun m hm => ?_⟩, ⟨hB.trans (hb7.mono hB.size)⟩⟩
          by_cases hmn : m < n
          · exact HC.out m hmn
          · obtain rfl : m = n := by omega
            rw [HP.out, HQ.out]
            exact HX.out
      | false =>
        have hbr' := hbr rfl
        subst hbr'
        clear hbr
        go_wp2_with (go_at_call 46; (with_reducible refine (HT.out _).mono ?_); rintro e w7 ⟨rfl, hb7⟩)
        go_ret
        exact ⟨rfl, hB.trans (hb7.mono hB.size)⟩
    · have en : n = x.length := by omega
      subst en
      have hrt : r = true := allSame_true HL.out.symm HR.out HC.out
      subst hrt
      have b1 : decide ((x.length : Int) < (x.length : Int)) = false := decide_eq_false (by omega)
      go_wp2
      go_ret
      exact ⟨rfl, hB⟩

def name_Same.f (k : Nat) (a0 a1 : ByteArray) : Option Bool :=
  (name_Check.f k a0).bind fun t => if t = 0 then ((name_Check.f k a1).bind fun u => if u = 0 then ((name_Labels.f k a0).bind fun x => (name_Labels.f k a1).bind fun y => if x.length = y.length then allSame (x.zip y) else some false) else some false) else some false
set_option maxRecDepth 100000 in
set_option maxHeartbeats 2000000 in
theorem nsame_bad1 (k : Nat) (a0 a1 : ByteArray) (c : Int) (hc : c ≠ 0) (hk : name_Check.f k a0 = some c) (w : World) :
    Calls Try.prog 19 #[.string a0, .string a1] w fun e W' => e = .returned (.bool false) ∧ Below w.heap.size w W' := by
  have HC := Aside0.mk hk
  have hc1 : (c == 0) = false := beq_eq_false_iff_ne.2 hc
  have hc2 : (c != 0) = true := bne_iff_ne.2 hc
  clear hk hc
  go_enter Try.func19, Try.ntmps19
  go_wp2_with (go_at_call 12; (with_reducible refine (name_Check.calls k a0 c _ HC.out).mono ?_); rintro e w' ⟨rfl, ⟨nd, rfl⟩⟩)
  go_ret
  exact ⟨rfl, pw_below_drewN (Below.refl _ _) _⟩
set_option maxRecDepth 100000 in
set_option maxHeartbeats 2000000 in
theorem nsame_bad2 (k : Nat) (a0 a1 : ByteArray) (c : Int) (hc : c ≠ 0) (hk0 : name_Check.f k a0 = some 0) (hk : name_Check.f k a1 = some c) (w : World) :
    Calls Try.prog 19 #[.string a0, .string a1] w fun e W' => e = .returned (.bool false) ∧ Below w.heap.size w W' := by
  have HC0 := Aside0.mk hk0
  have HC := Aside0.mk hk
  have hc1 : (c == 0) = false := beq_eq_false_iff_ne.2 hc
  have hc2 : (c != 0) = true := bne_iff_ne.2 hc
  clear hk hc hk0
  go_enter Try.func19, Try.ntmps19
  go_wp2_with (first
    | (go_at_call 12; (with_reducible refine (name_Check.calls k a0 0 _ HC0.out).mono ?_); rintro e w' ⟨rfl, ⟨nd, rfl⟩⟩)
    | (go_at_call 12; (with_reducible refine (name_Check.calls k a1 c _ HC.out).mono ?_); rintro e w' ⟨rfl, ⟨nd2, rfl⟩⟩))
  go_ret
  exact ⟨rfl, pw_below_drewN (Below.refl _ _) _⟩
set_option maxRecDepth 100000 in
set_option maxHeartbeats 2000000 in
theorem nsame_good (k : Nat) (a0 a1 : ByteArray) (x y : List ByteArray) (r : Bool) (hk0 : name_Check.f k a0 = some 0) (hk1 : name_Check.f k a1 = some 0) (hx : name_Labels.f k a0 = some x) (hy : name_Labels.f k a1 = some y)
    (hE : ∀ (A0 A1 : Option Addr) (c0 c1 : Nat) (w : World), Kd.C Kd.string w A0 x.length x → Kd.C Kd.string w A1 y.length y → Calls Try.prog 48 #[.slice A0 x.length c0, .slice A1 y.length c1, .func (.func 46) #[] #[]] w fun e w' => e = .returned (.bool r) ∧ Below w.heap.size w w') (w : World) :
    Calls Try.prog 19 #[.string a0, .string a1] w fun e W' => e = .returned (.bool r) ∧ Below w.heap.size w W' := by
  have HC0 := Aside0.mk hk0
  have HC1 := Aside0.mk hk1
  have HX := Aside0.mk hx
  have HY := Aside0.mk hy
  have HE := Aside0.mk hE
  clear hk1 hk0 hx hy hE
  go_enter Try.func19, Try.ntmps19
  go_wp2_with (first
    | (go_at_call 12; (with_reducible refine (name_Check.calls k a0 0 _ HC0.out).mono ?_); rintro e w' ⟨rfl, ⟨nd, rfl⟩⟩)
    | (go_at_call 12; (with_reducible refine (name_Check.calls k a1 0 _ HC1.out).mono ?_); rintro e w' ⟨rfl, ⟨nd2, rfl⟩⟩)
    | (go_at_call 14; (with_reducible refine (name_Labels.calls k a0 x _ HX.out).mono ?_); rintro e w3 ⟨v3, rfl, hr3, hb3⟩; have HR3 := Aside0.mk hr3; have HB3 := Aside0.mk hb3; clear hr3 hb3; obtain ⟨A3, c3, e3⟩ := Kd.R_slice HR3.out; subst e3)
    | (go_at_call 14; (with_reducible refine (name_Labels.calls k a1 y _ HY.out).mono ?_); rintro e w4 ⟨v4, rfl, hr4, hb4⟩; have HR4 := Aside0.mk hr4; have HB4 := Aside0.mk hb4; clear hr4 hb4; obtain ⟨A4, c4, e4⟩ := Kd.R_slice HR4.out; subst e4)
    | (go_at_call 48; (with_reducible refine (HE.out _ _ _ _ _ (Kd.C_below (Kd.R_reads' HR3.out).2.2 HB4.out) (Kd.R_reads' HR4.out).2.2).mono ?_); rintro e w5 ⟨rfl, hb5⟩; have HB5 := Aside0.mk hb5; clear hb5))
  go_ret
  refine ⟨rfl, ?_⟩
  have h3 := HB3.out.size
  have h4 := HB4.out.size
  exact ((pw_below_drewN (Below.refl _ _) _).trans (HB3.out.mono (by simp))).trans ((HB4.out.mono (by simpa using h3)).trans (HB5.out.mono (by simp at h3; omega)))
theorem name_Same.calls (k : Nat) (a0 a1 : ByteArray) (r : Bool) (w : World) (h : name_Same.f k a0 a1 = some r) :
    Calls Try.prog 19 #[.string a0, .string a1] w fun e w' => e = .returned (.bool r) ∧ Below w.heap.size w w' := by
  unfold name_Same.f at h
  cases hk : name_Check.f k a0 with
  | none => rw [hk] at h; cases h
  | some t =>
    rw [hk, Option.bind_some] at h
    by_cases ht : t = 0
    · subst ht
      rw [if_pos rfl] at h
      cases hk1 : name_Check.f k a1 with
      | none => rw [hk1] at h; cases h
      | some u =>
        rw [hk1, Option.bind_some] at h
        by_cases hu : u = 0
        · subst hu
          rw [if_pos rfl] at h
          cases hx : name_Labels.f k a0 with
          | none => rw [hx] at h; cases h
          | some x =>
            rw [hx, Option.bind_some] at h
            cases hy : name_Labels.f k a1 with
            | none => rw [hy] at h; cases h
            | some y =>
              rw [hy, Option.bind_some] at h
              by_cases hl : x.length = y.length
              · rw [if_pos hl] at h
                exact nsame_good k a0 a1 x y r hk hk1 hx hy (fun A0 A1 c0 c1 W h0 h1 => eqf_same A0 A1 c0 c1 x y r (name_Labels_le hx) hl h W h0 h1) w
              · rw [if_neg hl] at h
                obtain rfl := Option.some.inj h
                exact nsame_good k a0 a1 x y false hk hk1 hx hy (fun A0 A1 c0 c1 W _ _ => eqf_len A0 A1 c0 c1 x y hl W) w
        · rw [if_neg hu] at h
          obtain rfl := Option.some.inj h
          exact nsame_bad2 k a0 a1 u hu hk hk1 w
    · rw [if_neg ht] at h
      obtain rfl := Option.some.inj h
      exact nsame_bad1 k a0 a1 t ht hk w
theorem name_Same.mono : ∀ a0 a1 k, LeO (name_Same.f k a0 a1) (name_Same.f (k + 1) a0 a1) := by
  intro a0 a1 k
  unfold name_Same.f
  exact LeO.bind (name_Check.mono a0 k) (fun _ => LeO.ite (LeO.bind (name_Check.mono a1 k) (fun _ => LeO.ite (LeO.bind (name_Labels.mono a0 k) (fun _ => LeO.bind (name_Labels.mono a1 k) (fun _ => LeO.refl _))) (LeO.refl _))) (LeO.refl _))
end

end Go.Proofs.Ythimngabaliapaa.OSeven
