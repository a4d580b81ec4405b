/- This text proves, for each Go function named below, which plain Lean function its call computes, in whatever memory; a program of this session has written it. -/
import Derived.Test.YtnbjogebdjjepacOAllx0
import Derived.Test.YtnbjogebdjjepacOAllx1
import Derived.Test.YtnbjogebdjjepacOAllx2
import Derived.Test.YtnbjogebdjjepacOAllx3
import Derived.Test.YtnbjogebdjjepacOAllx4
namespace Go.Proofs.Ytnbjogebdjjepac.OAll
open Go.RowKit Go.Proofs.YtnbjogebdjjepacW.PrintWords Go.Proofs.YtnbjogebdjjepacW.PrintLast Go.Proofs.YtnbjogebdjjepacW.PrintMore
attribute [local go_sem] max2_int min2_int max_two min_two max_three min_three max_four min_four   -- for this text's walks alone
set_option linter.unusedVariables false
set_option linter.unusedSimpArgs false

/-! ### nameplateref01_Compare: function 22 -/
mutual
def nameplateref01_Compare.l0 : Nat → ByteArray → ByteArray → Int → Option (Int)
  | 0, _, _, _ => none
  | k + 1, x0, x1, x5 => if x5 < (x0.size : Int) then (nameplateref01_Compare.j1 k x0 x1 x5 (decide (x5 < (x1.size : Int)))) else (nameplateref01_Compare.j1 k x0 x1 x5 false)
def nameplateref01_Compare.j1 : Nat → ByteArray → ByteArray → Int → Bool → Option (Int)
  | 0, _, _, _, _ => none
  | k + 1, x0, x1, x5, x19 => if x19 = true then (if 0 ≤ x5 then (if x5 < (x0.size : Int) then (if x5 < (x1.size : Int) then (if (bt x0 x5) < (bt x1 x5) then (some (-1)) else (if (bt x0 x5) > (bt x1 x5) then (some 1) else (nameplateref01_Compare.l0 k x0 x1 (wrap64 (x5 + 1))))) else (none)) else (none)) else (none)) else (if (x0.size : Int) < (x1.size : Int) then (some (-1)) else (if (x0.size : Int) > (x1.size : Int) then (some 1) else (some 0)))
end
def nameplateref01_Compare.f (k : Nat) (a0 : ByteArray) (a1 : ByteArray) : Option (Int) := (nameplateref01_Fold.f a0).bind fun t204 => ((nameplateref01_Fold.f a1).bind fun t205 => (nameplateref01_Compare.l0 k t204 t205 0))
theorem nameplateref01_Compare.mono_l : ∀ k, (∀ y0 y1 y2, LeO (nameplateref01_Compare.l0 k y0 y1 y2) (nameplateref01_Compare.l0 (k + 1) y0 y1 y2)) ∧ (∀ y0 y1 y2 y3, LeO (nameplateref01_Compare.j1 k y0 y1 y2 y3) (nameplateref01_Compare.j1 (k + 1) y0 y1 y2 y3))
  | 0 => ⟨fun _ _ _ r h => by simp [nameplateref01_Compare.l0] at h, fun _ _ _ _ r h => by simp [nameplateref01_Compare.j1] at h⟩
  | k + 1 => by
    obtain ⟨ih0, ih1⟩ := nameplateref01_Compare.mono_l k
    refine ⟨?_, ?_⟩
    · intro y0 y1 y2
      unfold nameplateref01_Compare.l0
      repeat' first
      | (with_reducible exact ih0 _ _ _)
      | (with_reducible exact ih1 _ _ _ _)
      | (with_reducible exact LeO.refl _)
      | (with_reducible exact LeO.none _)
      | (with_reducible refine LeO.ite ?_ ?_)
      | (with_reducible refine LeO.bind ?_ (fun _ => ?_))
      | exact ih0 _ _ _
      | exact ih1 _ _ _ _
      | exact LeO.none _
      | refine LeO.ite ?_ ?_
      | refine LeO.bind ?_ (fun _ => ?_)
    · intro y0 y1 y2 y3
      unfold nameplateref01_Compare.j1
      repeat' first
      | (with_reducible exact ih0 _ _ _)
      | (with_reducible exact ih1 _ _ _ _)
      | (with_reducible exact LeO.refl _)
      | (with_reducible exact LeO.none _)
      | (with_reducible refine LeO.ite ?_ ?_)
      | (with_reducible refine LeO.bind ?_ (fun _ => ?_))
      | exact ih0 _ _ _
      | exact ih1 _ _ _ _
      | exact LeO.none _
      | refine LeO.ite ?_ ?_
      | refine LeO.bind ?_ (fun _ => ?_)
theorem nameplateref01_Compare.mono : ∀ a0 a1 k, LeO (nameplateref01_Compare.f k a0 a1) (nameplateref01_Compare.f (k + 1) a0 a1) := by
  intro a0 a1 k
  obtain ⟨ih0, ih1⟩ := nameplateref01_Compare.mono_l k
  unfold nameplateref01_Compare.f
  repeat' first
      | (with_reducible exact ih0 _ _ _)
      | (with_reducible exact ih1 _ _ _ _)
      | (with_reducible exact LeO.refl _)
      | (with_reducible exact LeO.none _)
      | (with_reducible refine LeO.ite ?_ ?_)
      | (with_reducible refine LeO.bind ?_ (fun _ => ?_))
      | exact ih0 _ _ _
      | exact ih1 _ _ _ _
      | exact LeO.none _
      | refine LeO.ite ?_ ?_
      | refine LeO.bind ?_ (fun _ => ?_)
set_option maxHeartbeats 8000000 in
set_option maxRecDepth 100000 in
theorem nameplateref01_Compare.calls (k : Nat) (a0 : ByteArray) (a1 : ByteArray) (r : Int) (w : World) (h : nameplateref01_Compare.f k a0 a1 = some r) :
    Calls Try.prog 22 #[.string a0, .string a1] w fun e w' => e = .returned (.int .i64 r) ∧ Below w.heap.size w w' := by
  have HB := Aside0.mk (Below.refl w.heap.size w)
  have H : ((nameplateref01_Fold.f a0).bind fun t204 => ((nameplateref01_Fold.f a1).bind fun t205 => (nameplateref01_Compare.l0 k t204 t205 0))) = some r := h
  clear h
  replace H := Option.bind_eq_some_iff.mp H
  obtain ⟨t204, A30, H⟩ := H
  replace H : ((nameplateref01_Fold.f a1).bind fun t205 => (nameplateref01_Compare.l0 k t204 t205 0)) = some r := H
  have A3 := Aside0.mk A30
  clear A30
  replace H := Option.bind_eq_some_iff.mp H
  obtain ⟨t205, A40, H⟩ := H
  replace H : (nameplateref01_Compare.l0 k t204 t205 0) = some r := H
  have A4 := Aside0.mk A40
  clear A40
  have H' := Aside0.mk H
  clear H
  go_enter Try.func22, Try.ntmps22
  go_wp2_with (first | (go_at_call 20; (with_reducible refine (nameplateref01_Fold.calls a0 t204 _ A3.out).mono ?_); rintro e w5 ⟨rfl, hb⟩; have n0_ := Aside0.mk (below_step (by repeat (first | (with_reducible first | exact HB.out | apply below_alloc | apply pw_below_drewN | apply below_drew1) | exact HB.out)) hb); clear HB; have HB := n0_; clear n0_; (try clear hb); (try clear hb2); (try clear hk); (try clear hi)) | (go_at_call 20; (with_reducible refine (nameplateref01_Fold.calls a1 t205 _ A4.out).mono ?_); rintro e w6 ⟨rfl, hb⟩; have n0_ := Aside0.mk (below_step (by repeat (first | (with_reducible first | exact HB.out | apply below_alloc | apply pw_below_drewN | apply below_drew1) | exact HB.out)) hb); clear HB; have HB := n0_; clear n0_; (try clear hb); (try clear hb2); (try clear hk); (try clear hi)))
  repeat (go_quiet (first | (go_at_call 20; (with_reducible refine (nameplateref01_Fold.calls a0 t204 _ A3.out).mono ?_); rintro e w5 ⟨rfl, hb⟩; have n0_ := Aside0.mk (below_step (by repeat (first | (with_reducible first | exact HB.out | apply below_alloc | apply pw_below_drewN | apply below_drew1) | exact HB.out)) hb); clear HB; have HB := n0_; clear n0_; (try clear hb); (try clear hb2); (try clear hk); (try clear hi)) | (go_at_call 20; (with_reducible refine (nameplateref01_Fold.calls a1 t205 _ A4.out).mono ?_); rintro e w6 ⟨rfl, hb⟩; have n0_ := Aside0.mk (below_step (by repeat (first | (with_reducible first | exact HB.out | apply below_alloc | apply pw_below_drewN | apply below_drew1) | exact HB.out)) hb); clear HB; have HB := n0_; clear n0_; (try clear hb); (try clear hb2); (try clear hk); (try clear hi))); try go_wp2_with (first | (go_at_call 20; (with_reducible refine (nameplateref01_Fold.calls a0 t204 _ A3.out).mono ?_); rintro e w5 ⟨rfl, hb⟩; have n0_ := Aside0.mk (below_step (by repeat (first | (with_reducible first | exact HB.out | apply below_alloc | apply pw_below_drewN | apply below_drew1) | exact HB.out)) hb); clear HB; have HB := n0_; clear n0_; (try clear hb); (try clear hb2); (try clear hk); (try clear hi)) | (go_at_call 20; (with_reducible refine (nameplateref01_Fold.calls a1 t205 _ A4.out).mono ?_); rintro e w6 ⟨rfl, hb⟩; have n0_ := Aside0.mk (below_step (by repeat (first | (with_reducible first | exact HB.out | apply below_alloc | apply pw_below_drewN | apply below_drew1) | exact HB.out)) hb); clear HB; have HB := n0_; clear n0_; (try clear hb); (try clear hb2); (try clear hk); (try clear hi))))
  go_loopg [5] k (fun kq v5 w' => ∃ (x5_1 : Int), v5 = .int .i64 x5_1 ∧ Aside0 (nameplateref01_Compare.l0 kq t204 t205 x5_1 = some r) ∧ Aside0 (kq ≤ k) ∧ Aside0 (Below w.heap.size w w'))
  case atStart => exact ⟨(0), (by first | rfl | (simp; done) | (simp [*]; done)), H', ⟨Nat.le_refl _⟩, ⟨by repeat (first | (with_reducible first | exact HB.out | apply below_alloc | apply pw_below_drewN | apply below_drew1) | exact HB.out)⟩⟩
  case round =>
    clear H'
    try clear c2
    try clear p2
    obtain ⟨x5_1, rfl, HA, HK1, HB⟩ := hrel
    cases gk with
    | zero => exact absurd HA.out (by simp [nameplateref01_Compare.l0])
    | succ k1 =>
      have H := HA.out
      clear HA
      simp only [nameplateref01_Compare.l0] at H
      have HC7 := Aside0.mk H
      clear H
      go_upto_region 3 with (fail)
      repeat (go_quiet (fail); go_upto_region 3 with (fail))
      go_cut [19] (fun v19 wc => ∃ (kq : Nat) (x19_6 : Bool), v19 = .bool x19_6 ∧ Aside0 (nameplateref01_Compare.j1 kq t204 t205 x5_1 x19_6 = some r) ∧ Aside0 (kq ≤ k1) ∧ Aside0 (Below w.heap.size w wc))
      case first =>
        have H := HC7.out
        clear HC7
        by_cases c8 : x5_1 < (t204.size : Int)
        · rw [if_pos c8] at H
          have c8b0 : decide (x5_1 < (t204.size : Int)) = true := decide_eq_true c8
          clear c8
          (first | rw [c8b0] | (simp only [i64_w, i32_w]; rw [c8b0]) | skip)
          have H' := Aside0.mk H
          clear H
          go_wp2
          repeat (go_quiet (fail); try go_wp2)
          go_meet
          case rel => exact ⟨_, (decide (x5_1 < (t205.size : Int))), (by first | rfl | (simp; done) | (simp [*]; done)), H', ⟨by have := HK1.out; first | omega | exact Nat.le_refl _⟩, ⟨by repeat (first | (with_reducible first | exact HB.out | apply below_alloc | apply pw_below_drewN | apply below_drew1) | exact HB.out)⟩⟩
        · rw [if_neg c8] at H
          have c8b0 : decide (x5_1 < (t204.size : Int)) = false := decide_eq_false c8
          clear c8
          (first | rw [c8b0] | (simp only [i64_w, i32_w]; rw [c8b0]) | skip)
          have H' := Aside0.mk H
          clear H
          go_wp2
          repeat (go_quiet (fail); try go_wp2)
          go_meet
          case rel => exact ⟨_, (false), (by first | rfl | (simp; done) | (simp [*]; done)), H', ⟨by have := HK1.out; first | omega | exact Nat.le_refl _⟩, ⟨by repeat (first | (with_reducible first | exact HB.out | apply below_alloc | apply pw_below_drewN | apply below_drew1) | exact HB.out)⟩⟩
      case rest =>
        clear HC7
        try clear c2
        try clear p2
        try clear c8
        try clear c8b0
        try clear p2
        obtain ⟨kq, x19_6, rfl, HA, HJ6, HB⟩ := hcut
        cases kq with
        | zero => exact absurd HA.out (by simp [nameplateref01_Compare.j1])
        | succ kj6 =>
          have H := HA.out
          clear HA
          simp only [nameplateref01_Compare.j1] at H
          by_cases c9 : x19_6 = true
          · subst c9
            have H1 : (if 0 ≤ x5_1 then (if x5_1 < (t204.size : Int) then (if x5_1 < (t205.size : Int) then (if (bt t204 x5_1) < (bt t205 x5_1) then (some (-1)) else (if (bt t204 x5_1) > (bt t205 x5_1) then (some 1) else (nameplateref01_Compare.l0 kj6 t204 t205 (wrap64 (x5_1 + 1))))) else (none)) else (none)) else (none)) = some r := by rw [if_pos rfl] at H; exact H
            clear H
            have H := H1
            clear H1
            by_cases c10 : 0 ≤ x5_1
            · rw [if_pos c10] at H
              have c10b0 : decide (0 ≤ x5_1) = true := decide_eq_true c10
              clear c10
              by_cases c11 : x5_1 < (t204.size : Int)
              · rw [if_pos c11] at H
                have c11b0 : decide (x5_1 < (t204.size : Int)) = true := decide_eq_true c11
                clear c11
                by_cases c13 : x5_1 < (t205.size : Int)
                · rw [if_pos c13] at H
                  have c13b0 : decide (x5_1 < (t205.size : Int)) = true := decide_eq_true c13
                  clear c13
                  by_cases c15 : (bt t204 x5_1) < (bt t205 x5_1)
                  · rw [if_pos c15] at H
                    have c15b0 : decide ((bt t204 x5_1) < (bt t205 x5_1)) = true := decide_eq_true c15
                    clear c15
                    obtain rfl := Option.some.inj H
                    have p12 : 0 ≤ (x5_1 : Int) := of_decide_eq_true (by first | (with_reducible assumption) | assumption)
                    have q12 : x5_1 < (t204.size : Int) := of_decide_eq_true (by first | (with_reducible assumption) | assumption)
                    have hx12 := bt_at t204 x5_1
                    replace p12 := eq_true p12
                    replace q12 := eq_true q12
                    have p14 : 0 ≤ (x5_1 : Int) := of_decide_eq_true (by first | (with_reducible assumption) | assumption)
                    have q14 : x5_1 < (t205.size : Int) := of_decide_eq_true (by first | (with_reducible assumption) | assumption)
                    have hx14 := bt_at t205 x5_1
                    replace p14 := eq_true p14
                    replace q14 := eq_true q14
                    go_wp2
                    repeat (go_quiet (fail); try go_wp2)
                    go_ret
                    exact ⟨by first | rfl | (simp [errW_none, errW_some] <;> rfl) | (simp [*, errW_none, errW_some] <;> rfl), by repeat (first | (with_reducible first | exact HB.out | apply below_alloc | apply pw_below_drewN | apply below_drew1) | exact HB.out)⟩
                  · rw [if_neg c15] at H
                    have c15b0 : decide ((bt t204 x5_1) < (bt t205 x5_1)) = false := decide_eq_false c15
                    clear c15
                    by_cases c18 : (bt t204 x5_1) > (bt t205 x5_1)
                    · rw [if_pos c18] at H
                      have c18b0 : decide ((bt t205 x5_1) < (bt t204 x5_1)) = true := decide_eq_true c18
                      clear c18
                      obtain rfl := Option.some.inj H
                      have p12 : 0 ≤ (x5_1 : Int) := of_decide_eq_true (by first | (with_reducible assumption) | assumption)
                      have q12 : x5_1 < (t204.size : Int) := of_decide_eq_true (by first | (with_reducible assumption) | assumption)
                      have hx12 := bt_at t204 x5_1
                      replace p12 := eq_true p12
                      replace q12 := eq_true q12
                      have p14 : 0 ≤ (x5_1 : Int) := of_decide_eq_true (by first | (with_reducible assumption) | assumption)
                      have q14 : x5_1 < (t205.size : Int) := of_decide_eq_true (by first | (with_reducible assumption) | assumption)
                      have hx14 := bt_at t205 x5_1
                      replace p14 := eq_true p14
                      replace q14 := eq_true q14
                      have p16 : 0 ≤ (x5_1 : Int) := of_decide_eq_true (by first | (with_reducible assumption) | assumption)
                      have q16 : x5_1 < (t204.size : Int) := of_decide_eq_true (by first | (with_reducible assumption) | assumption)
                      have hx16 := bt_at t204 x5_1
                      replace p16 := eq_true p16
                      replace q16 := eq_true q16
                      have p17 : 0 ≤ (x5_1 : Int) := of_decide_eq_true (by first | (with_reducible assumption) | assumption)
                      have q17 : x5_1 < (t205.size : Int) := of_decide_eq_true (by first | (with_reducible assumption) | assumption)
                      have hx17 := bt_at t205 x5_1
                      replace p17 := eq_true p17
                      replace q17 := eq_true q17
                      go_wp2
                      repeat (go_quiet (fail); try go_wp2)
                      go_ret
                      exact ⟨by first | rfl | (simp [errW_none, errW_some] <;> rfl) | (simp [*, errW_none, errW_some] <;> rfl), by repeat (first | (with_reducible first | exact HB.out | apply below_alloc | apply pw_below_drewN | apply below_drew1) | exact HB.out)⟩
                    · rw [if_neg c18] at H
                      have c18b0 : decide ((bt t205 x5_1) < (bt t204 x5_1)) = false := decide_eq_false c18
                      clear c18
                      have H' := Aside0.mk H
                      clear H
                      have p12 : 0 ≤ (x5_1 : Int) := of_decide_eq_true (by first | (with_reducible assumption) | assumption)
                      have q12 : x5_1 < (t204.size : Int) := of_decide_eq_true (by first | (with_reducible assumption) | assumption)
                      have hx12 := bt_at t204 x5_1
                      replace p12 := eq_true p12
                      replace q12 := eq_true q12
                      have p14 : 0 ≤ (x5_1 : Int) := of_decide_eq_true (by first | (with_reducible assumption) | assumption)
                      have q14 : x5_1 < (t205.size : Int) := of_decide_eq_true (by first | (with_reducible assumption) | assumption)
                      have hx14 := bt_at t205 x5_1
                      replace p14 := eq_true p14
                      replace q14 := eq_true q14
                      have p16 : 0 ≤ (x5_1 : Int) := of_decide_eq_true (by first | (with_reducible assumption) | assumption)
                      have q16 : x5_1 < (t204.size : Int) := of_decide_eq_true (by first | (with_reducible assumption) | assumption)
                      have hx16 := bt_at t204 x5_1
                      replace p16 := eq_true p16
                      replace q16 := eq_true q16
                      have p17 : 0 ≤ (x5_1 : Int) := of_decide_eq_true (by first | (with_reducible assumption) | assumption)
                      have q17 : x5_1 < (t205.size : Int) := of_decide_eq_true (by first | (with_reducible assumption) | assumption)
                      have hx17 := bt_at t205 x5_1
                      replace p17 := eq_true p17
                      replace q17 := eq_true q17
                      go_wp2
                      repeat (go_quiet (fail); try go_wp2)
                      go_roundg kj6
                      case measure => have := HK1.out; have := HJ6.out; omega
                      case rel => exact ⟨(wrap64 (x5_1 + 1)), (by first | rfl | (simp; done) | (simp [*]; done)), H', ⟨by have := HK1.out; have := HJ6.out; omega⟩, ⟨by repeat (first | (with_reducible first | exact HB.out | apply below_alloc | apply pw_below_drewN | apply below_drew1) | exact HB.out)⟩⟩
                · rw [if_neg c13] at H
                  exact absurd H (by simp)
              · rw [if_neg c11] at H
                exact absurd H (by simp)
            · rw [if_neg c10] at H
              exact absurd H (by simp)
          · replace c9 := Bool.eq_false_iff.mpr c9
            subst c9
            have H1 : (if (t204.size : Int) < (t205.size : Int) then (some (-1)) else (if (t204.size : Int) > (t205.size : Int) then (some 1) else (some 0))) = some r := by rw [if_neg (show ¬ (false = true) by decide)] at H; exact H
            clear H
            have H := H1
            clear H1
            by_cases c19 : (t204.size : Int) < (t205.size : Int)
            · rw [if_pos c19] at H
              have c19b0 : decide ((t204.size : Int) < (t205.size : Int)) = true := decide_eq_true c19
              have c19b1 : decide (t204.size < t205.size) = true := decide_eq_true (Int.ofNat_lt.mp c19)
              clear c19
              obtain rfl := Option.some.inj H
              go_wp2
              repeat (go_quiet (fail); try go_wp2)
              go_ret
              exact ⟨by first | rfl | (simp [errW_none, errW_some] <;> rfl) | (simp [*, errW_none, errW_some] <;> rfl), by repeat (first | (with_reducible first | exact HB.out | apply below_alloc | apply pw_below_drewN | apply below_drew1) | exact HB.out)⟩
            · rw [if_neg c19] at H
              have c19b0 : decide ((t204.size : Int) < (t205.size : Int)) = false := decide_eq_false c19
              have c19b1 : decide (t204.size < t205.size) = false := decide_eq_false (fun h => c19 (Int.ofNat_lt.mpr h))
              clear c19
              by_cases c20 : (t204.size : Int) > (t205.size : Int)
              · rw [if_pos c20] at H
                have c20b0 : decide ((t205.size : Int) < (t204.size : Int)) = true := decide_eq_true c20
                have c20b1 : decide (t205.size < t204.size) = true := decide_eq_true (Int.ofNat_lt.mp c20)
                clear c20
                obtain rfl := Option.some.inj H
                go_wp2
                repeat (go_quiet (fail); try go_wp2)
                go_ret
                exact ⟨by first | rfl | (simp [errW_none, errW_some] <;> rfl) | (simp [*, errW_none, errW_some] <;> rfl), by repeat (first | (with_reducible first | exact HB.out | apply below_alloc | apply pw_below_drewN | apply below_drew1) | exact HB.out)⟩
              · rw [if_neg c20] at H
                have c20b0 : decide ((t205.size : Int) < (t204.size : Int)) = false := decide_eq_false c20
                have c20b1 : decide (t205.size < t204.size) = false := decide_eq_false (fun h => c20 (Int.ofNat_lt.mpr h))
                clear c20
                obtain rfl := Option.some.inj H
                go_wp2
                repeat (go_quiet (fail); try go_wp2)
                go_ret
                exact ⟨by first | rfl | (simp [errW_none, errW_some] <;> rfl) | (simp [*, errW_none, errW_some] <;> rfl), by repeat (first | (with_reducible first | exact HB.out | apply below_alloc | apply pw_below_drewN | apply below_drew1) | exact HB.out)⟩

/-! ### nameplatelaw01_LabelCalls: function 7 -/
def nameplatelaw01_LabelCalls.j0 : Nat → ByteArray → ByteArray → Int → Bool → Option (Bool)
  | 0, _, _, _, _ => none
  | k + 1, x0, x1, x2, x26 => if x26 = true then (some true) else ((label_Text.f k x0).bind fun bt207 => ((nameplateref01_Text.f k x0).bind fun bt209 => ((label_Read.f k x1 x2).bind fun bt211 => ((nameplateref01_Read.f k x1 x2).bind fun bt214 => (if bt207.1.toList = bt209.1.toList then (if bt207.2 = bt209.2 then (if bt211.1.toList = bt214.1.toList then (if bt211.2.1 = bt214.2.1 then (if bt211.2.2 = bt214.2.2 then ((label_Check.f x0).bind fun t217 => ((nameplateref01_Check.f x0).bind fun t218 => (if t217 = t218 then ((label_Fold.f x0).bind fun t219 => ((nameplateref01_Fold.f x0).bind fun t220 => (if t219.toList = t220.toList then ((label_Same.f x0 x1).bind fun t221 => ((nameplateref01_Same.f x0 x1).bind fun t222 => (if (t221 == t222) = true then ((label_Compare.f x0 x1).bind fun t223 => ((nameplateref01_Compare.f k x0 x1).bind fun t224 => (some (t223 == t224)))) else (some false)))) else (some false)))) else (some false)))) else (some false)) else (some false)) else (some false)) else (some false)) else (some false))))))
def nameplatelaw01_LabelCalls.f (k : Nat) (a0 : ByteArray) (a1 : ByteArray) (a2 : Int) : Option (Bool) := (nameplatelaw01_lives.f k).bind fun t206 => (if t206 = true then (if (a0.size : Int) > 300 then (nameplatelaw01_LabelCalls.j0 k a0 a1 a2 true) else (nameplatelaw01_LabelCalls.j0 k a0 a1 a2 (decide ((a1.size : Int) > 300)))) else (some false))
theorem nameplatelaw01_LabelCalls.mono_l : ∀ k, (∀ y0 y1 y2 y3, LeO (nameplatelaw01_LabelCalls.j0 k y0 y1 y2 y3) (nameplatelaw01_LabelCalls.j0 (k + 1) y0 y1 y2 y3))
  | 0 => fun _ _ _ _ r h => by simp [nameplatelaw01_LabelCalls.j0] at h
  | k + 1 => by
    have ih0 := nameplatelaw01_LabelCalls.mono_l k
    · intro y0 y1 y2 y3
      unfold nameplatelaw01_LabelCalls.j0
      repeat' first
      | (with_reducible exact ih0 _ _ _ _)
      | (with_reducible exact label_Read.mono _ _ _)
      | (with_reducible exact label_Text.mono _ _)
      | (with_reducible exact nameplatelaw01_lives.mono _)
      | (with_reducible exact nameplateref01_Compare.mono _ _ _)
      | (with_reducible exact nameplateref01_Read.mono _ _ _)
      | (with_reducible exact nameplateref01_Text.mono _ _)
      | (with_reducible exact LeO.refl _)
      | (with_reducible exact LeO.none _)
      | (with_reducible refine LeO.ite ?_ ?_)
      | (with_reducible refine LeO.bind ?_ (fun _ => ?_))
      | exact ih0 _ _ _ _
      | exact label_Read.mono _ _ _
      | exact label_Text.mono _ _
      | exact nameplatelaw01_lives.mono _
      | exact nameplateref01_Compare.mono _ _ _
      | exact nameplateref01_Read.mono _ _ _
      | exact nameplateref01_Text.mono _ _
      | exact LeO.none _
      | refine LeO.ite ?_ ?_
      | refine LeO.bind ?_ (fun _ => ?_)
theorem nameplatelaw01_LabelCalls.mono : ∀ a0 a1 a2 k, LeO (nameplatelaw01_LabelCalls.f k a0 a1 a2) (nameplatelaw01_LabelCalls.f (k + 1) a0 a1 a2) := by
  intro a0 a1 a2 k
  have ih0 := nameplatelaw01_LabelCalls.mono_l k
  unfold nameplatelaw01_LabelCalls.f
  repeat' first
      | (with_reducible exact ih0 _ _ _ _)
      | (with_reducible exact label_Read.mono _ _ _)
      | (with_reducible exact label_Text.mono _ _)
      | (with_reducible exact nameplatelaw01_lives.mono _)
      | (with_reducible exact nameplateref01_Compare.mono _ _ _)
      | (with_reducible exact nameplateref01_Read.mono _ _ _)
      | (with_reducible exact nameplateref01_Text.mono _ _)
      | (with_reducible exact LeO.refl _)
      | (with_reducible exact LeO.none _)
      | (with_reducible refine LeO.ite ?_ ?_)
      | (with_reducible refine LeO.bind ?_ (fun _ => ?_))
      | exact ih0 _ _ _ _
      | exact label_Read.mono _ _ _
      | exact label_Text.mono _ _
      | exact nameplatelaw01_lives.mono _
      | exact nameplateref01_Compare.mono _ _ _
      | exact nameplateref01_Read.mono _ _ _
      | exact nameplateref01_Text.mono _ _
      | exact LeO.none _
      | refine LeO.ite ?_ ?_
      | refine LeO.bind ?_ (fun _ => ?_)
set_option maxHeartbeats 8000000 in
set_option maxRecDepth 100000 in
theorem nameplatelaw01_LabelCalls.calls (k : Nat) (a0 : ByteArray) (a1 : ByteArray) (a2 : Int) (r : Bool) (w : World) (hr_ : Aside0 (r = true)) (h : nameplatelaw01_LabelCalls.f k a0 a1 a2 = some r) :
    Calls Try.prog 7 #[.string a0, .string a1, .int .i64 a2] w fun e w' => e = .returned (.bool r) ∧ Below w.heap.size w w' := by
  have HB := Aside0.mk (Below.refl w.heap.size w)
  have H : ((nameplatelaw01_lives.f k).bind fun t206 => (if t206 = true then (if (a0.size : Int) > 300 then (nameplatelaw01_LabelCalls.j0 k a0 a1 a2 true) else (nameplatelaw01_LabelCalls.j0 k a0 a1 a2 (decide ((a1.size : Int) > 300)))) else (some false))) = some r := h
  clear h
  replace H := Option.bind_eq_some_iff.mp H
  obtain ⟨t206, A40, H⟩ := H
  replace H : (if t206 = true then (if (a0.size : Int) > 300 then (nameplatelaw01_LabelCalls.j0 k a0 a1 a2 true) else (nameplatelaw01_LabelCalls.j0 k a0 a1 a2 (decide ((a1.size : Int) > 300)))) else (some false)) = some r := H
  have A4 := Aside0.mk A40
  clear A40
  by_cases c5 : t206 = true
  · subst c5
    have H1 : (if (a0.size : Int) > 300 then (nameplatelaw01_LabelCalls.j0 k a0 a1 a2 true) else (nameplatelaw01_LabelCalls.j0 k a0 a1 a2 (decide ((a1.size : Int) > 300)))) = some r := by rw [if_pos rfl] at H; exact H
    clear H
    have H := H1
    clear H1
    have HC6 := Aside0.mk H
    clear H
    go_enter Try.func7, Try.ntmps7
    go_upto_region 3 with (first | ((with_reducible refine gate_callee (f := 9) rfl ?_); refine goesL_ (some 17) rfl rfl Try.func9 (by kernel_rfl) rfl #[] rfl (by (try simp only [List.map_toArray, List.map_cons, List.map_nil]); first | done | rfl | (simp only [List.length_drop, List.length_take]; rfl)) ?_; (with_reducible refine (nameplatelaw01_lives.calls k  true _ A4.out).mono ?_); rintro e w7 ⟨rfl, hb⟩; refine ⟨_, rfl, ?_⟩; have n0_ := Aside0.mk (below_step (by repeat (first | (with_reducible first | exact HB.out | apply below_alloc | apply pw_below_drewN | apply below_drew1) | exact HB.out)) hb); clear HB; have HB := n0_; clear n0_; (try clear hb); (try clear hb2); (try clear hk); (try clear hi)))
    (try simp only [Act.put, List.setIfInBounds_toArray, List.set_cons_zero, List.set_cons_succ])
    go_cut [26] (fun v26 wc => ∃ (kq : Nat) (x26_5 : Bool), v26 = .bool x26_5 ∧ Aside0 (nameplatelaw01_LabelCalls.j0 kq a0 a1 a2 x26_5 = some r) ∧ Aside0 (kq ≤ k) ∧ Aside0 (Below w.heap.size w wc))
    case first =>
      have H := HC6.out
      clear HC6
      by_cases c8 : (a0.size : Int) > 300
      · rw [if_pos c8] at H
        have c8b0 : decide (300 < (a0.size : Int)) = true := decide_eq_true c8
        have c8b1 : decide (300 < a0.size) = true := decide_eq_true (by omega)
        clear c8
        (first | rw [c8b0] | (simp only [i64_w, i32_w]; rw [c8b0]) | skip)
        have H' := Aside0.mk H
        clear H
        go_wp2
        go_meet
        case rel => exact ⟨_, (true), (by first | rfl | (simp; done) | (simp [*]; done)), H', ⟨by first | omega | exact Nat.le_refl _⟩, ⟨by repeat (first | (with_reducible first | exact HB.out | apply below_alloc | apply pw_below_drewN | apply below_drew1) | exact HB.out)⟩⟩
      · rw [if_neg c8] at H
        have c8b0 : decide (300 < (a0.size : Int)) = false := decide_eq_false c8
        have c8b1 : decide (300 < a0.size) = false := decide_eq_false (by omega)
        clear c8
        (first | rw [c8b0] | (simp only [i64_w, i32_w]; rw [c8b0]) | skip)
        have H' := Aside0.mk H
        clear H
        go_wp2
        go_meet
        case rel => exact ⟨_, (decide ((a1.size : Int) > 300)), (by first | rfl | (simp; done) | (simp [*]; done)), H', ⟨by first | omega | exact Nat.le_refl _⟩, ⟨by repeat (first | (with_reducible first | exact HB.out | apply below_alloc | apply pw_below_drewN | apply below_drew1) | exact HB.out)⟩⟩
    case rest =>
      clear HC6
      try clear p2
      try clear c5
      try clear c7
      try clear c8
      try clear c8b0
      try clear c8b1
      obtain ⟨kq, x26_5, rfl, HA, HJ5, HB⟩ := hcut
      cases kq with
      | zero => exact absurd HA.out (by simp [nameplatelaw01_LabelCalls.j0])
      | succ kj5 =>
        have H := HA.out
        clear HA
        simp only [nameplatelaw01_LabelCalls.j0] at H
        by_cases c9 : x26_5 = true
        · subst c9
          have H1 : (some true) = some r := by rw [if_pos rfl] at H; exact H
          clear H
          have H := H1
          clear H1
          obtain rfl := Option.some.inj H
          go_wp2
          go_ret
          exact ⟨by first | rfl | (simp [errW_none, errW_some] <;> rfl) | (simp [*, errW_none, errW_some] <;> rfl), by repeat (first | (with_reducible first | exact HB.out | apply below_alloc | apply pw_below_drewN | apply below_drew1) | exact HB.out)⟩
        · replace c9 := Bool.eq_false_iff.mpr c9
          subst c9
          have H1 : ((label_Text.f kj5 a0).bind fun bt207 => ((nameplateref01_Text.f kj5 a0).bind fun bt209 => ((label_Read.f kj5 a1 a2).bind fun bt211 => ((nameplateref01_Read.f kj5 a1 a2).bind fun bt214 => (if bt207.1.toList = bt209.1.toList then (if bt207.2 = bt209.2 then (if bt211.1.toList = bt214.1.toList then (if bt211.2.1 = bt214.2.1 then (if bt211.2.2 = bt214.2.2 then ((label_Check.f a0).bind fun t217 => ((nameplateref01_Check.f a0).bind fun t218 => (if t217 = t218 then ((label_Fold.f a0).bind fun t219 => ((nameplateref01_Fold.f a0).bind fun t220 => (if t219.toList = t220.toList then ((label_Same.f a0 a1).bind fun t221 => ((nameplateref01_Same.f a0 a1).bind fun t222 => (if (t221 == t222) = true then ((label_Compare.f a0 a1).bind fun t223 => ((nameplateref01_Compare.f kj5 a0 a1).bind fun t224 => (some (t223 == t224)))) else (some false)))) else (some false)))) else (some false)))) else (some false)) else (some false)) else (some false)) else (some false)) else (some false)))))) = some r := by rw [if_neg (show ¬ (false = true) by decide)] at H; exact H
          clear H
          have H := H1
          clear H1
          replace H := Option.bind_eq_some_iff.mp H
          obtain ⟨⟨t207, t208⟩, A100, H⟩ := H
          replace H : ((nameplateref01_Text.f kj5 a0).bind fun bt209 => ((label_Read.f kj5 a1 a2).bind fun bt211 => ((nameplateref01_Read.f kj5 a1 a2).bind fun bt214 => (if t207.toList = bt209.1.toList then (if t208 = bt209.2 then (if bt211.1.toList = bt214.1.toList then (if bt211.2.1 = bt214.2.1 then (if bt211.2.2 = bt214.2.2 then ((label_Check.f a0).bind fun t217 => ((nameplateref01_Check.f a0).bind fun t218 => (if t217 = t218 then ((label_Fold.f a0).bind fun t219 => ((nameplateref01_Fold.f a0).bind fun t220 => (if t219.toList = t220.toList then ((label_Same.f a0 a1).bind fun t221 => ((nameplateref01_Same.f a0 a1).bind fun t222 => (if (t221 == t222) = true then ((label_Compare.f a0 a1).bind fun t223 => ((nameplateref01_Compare.f kj5 a0 a1).bind fun t224 => (some (t223 == t224)))) else (some false)))) else (some false)))) else (some false)))) else (some false)) else (some false)) else (some false)) else (some false)) else (some false))))) = some r := H
          have A10 := Aside0.mk A100
          clear A100
          replace H := Option.bind_eq_some_iff.mp H
          obtain ⟨⟨t209, t210⟩, A110, H⟩ := H
          replace H : ((label_Read.f kj5 a1 a2).bind fun bt211 => ((nameplateref01_Read.f kj5 a1 a2).bind fun bt214 => (if t207.toList = t209.toList then (if t208 = t210 then (if bt211.1.toList = bt214.1.toList then (if bt211.2.1 = bt214.2.1 then (if bt211.2.2 = bt214.2.2 then ((label_Check.f a0).bind fun t217 => ((nameplateref01_Check.f a0).bind fun t218 => (if t217 = t218 then ((label_Fold.f a0).bind fun t219 => ((nameplateref01_Fold.f a0).bind fun t220 => (if t219.toList = t220.toList then ((label_Same.f a0 a1).bind fun t221 => ((nameplateref01_Same.f a0 a1).bind fun t222 => (if (t221 == t222) = true then ((label_Compare.f a0 a1).bind fun t223 => ((nameplateref01_Compare.f kj5 a0 a1).bind fun t224 => (some (t223 == t224)))) else (some false)))) else (some false)))) else (some false)))) else (some false)) else (some false)) else (some false)) else (some false)) else (some false)))) = some r := H
          have A11 := Aside0.mk A110
          clear A110
          replace H := Option.bind_eq_some_iff.mp H
          obtain ⟨⟨t211, t212, t213⟩, A120, H⟩ := H
          replace H : ((nameplateref01_Read.f kj5 a1 a2).bind fun bt214 => (if t207.toList = t209.toList then (if t208 = t210 then (if t211.toList = bt214.1.toList then (if t212 = bt214.2.1 then (if t213 = bt214.2.2 then ((label_Check.f a0).bind fun t217 => ((nameplateref01_Check.f a0).bind fun t218 => (if t217 = t218 then ((label_Fold.f a0).bind fun t219 => ((nameplateref01_Fold.f a0).bind fun t220 => (if t219.toList = t220.toList then ((label_Same.f a0 a1).bind fun t221 => ((nameplateref01_Same.f a0 a1).bind fun t222 => (if (t221 == t222) = true then ((label_Compare.f a0 a1).bind fun t223 => ((nameplateref01_Compare.f kj5 a0 a1).bind fun t224 => (some (t223 == t224)))) else (some false)))) else (some false)))) else (some false)))) else (some false)) else (some false)) else (some false)) else (some false)) else (some false))) = some r := H
          have A12 := Aside0.mk A120
          clear A120
          replace H := Option.bind_eq_some_iff.mp H
          obtain ⟨⟨t214, t215, t216⟩, A130, H⟩ := H
          replace H : (if t207.toList = t209.toList then (if t208 = t210 then (if t211.toList = t214.toList then (if t212 = t215 then (if t213 = t216 then ((label_Check.f a0).bind fun t217 => ((nameplateref01_Check.f a0).bind fun t218 => (if t217 = t218 then ((label_Fold.f a0).bind fun t219 => ((nameplateref01_Fold.f a0).bind fun t220 => (if t219.toList = t220.toList then ((label_Same.f a0 a1).bind fun t221 => ((nameplateref01_Same.f a0 a1).bind fun t222 => (if (t221 == t222) = true then ((label_Compare.f a0 a1).bind fun t223 => ((nameplateref01_Compare.f kj5 a0 a1).bind fun t224 => (some (t223 == t224)))) else (some false)))) else (some false)))) else (some false)))) else (some false)) else (some false)) else (some false)) else (some false)) else (some false)) = some r := H
          have A13 := Aside0.mk A130
          clear A130
          by_cases c14 : t207.toList = t209.toList
          · rw [if_pos c14] at H
            have c14b0 : (t207.toList == t209.toList) = true := beq_iff_eq.mpr c14
            have c14b1 : (t207.toList != t209.toList) = false := bne_eq_false_iff_eq.mpr c14
            clear c14
            by_cases c15 : t208 = t210
            · rw [if_pos c15] at H
              have c15b0 : (t208 == t210) = true := beq_iff_eq.mpr c15
              have c15b1 : (t208 != t210) = false := bne_eq_false_iff_eq.mpr c15
              clear c15
              by_cases c16 : t211.toList = t214.toList
              · rw [if_pos c16] at H
                have c16b0 : (t211.toList == t214.toList) = true := beq_iff_eq.mpr c16
                have c16b1 : (t211.toList != t214.toList) = false := bne_eq_false_iff_eq.mpr c16
                clear c16
                by_cases c17 : t212 = t215
                · rw [if_pos c17] at H
                  have c17b0 : (t212 == t215) = true := beq_iff_eq.mpr c17
                  have c17b1 : (t212 != t215) = false := bne_eq_false_iff_eq.mpr c17
                  clear c17
                  by_cases c18 : t213 = t216
                  · rw [if_pos c18] at H
                    have c18b0 : (t213 == t216) = true := beq_iff_eq.mpr c18
                    have c18b1 : (t213 != t216) = false := bne_eq_false_iff_eq.mpr c18
                    clear c18
                    replace H := Option.bind_eq_some_iff.mp H
                    obtain ⟨t217, A190, H⟩ := H
                    replace H : ((nameplateref01_Check.f a0).bind fun t218 => (if t217 = t218 then ((label_Fold.f a0).bind fun t219 => ((nameplateref01_Fold.f a0).bind fun t220 => (if t219.toList = t220.toList then ((label_Same.f a0 a1).bind fun t221 => ((nameplateref01_Same.f a0 a1).bind fun t222 => (if (t221 == t222) = true then ((label_Compare.f a0 a1).bind fun t223 => ((nameplateref01_Compare.f kj5 a0 a1).bind fun t224 => (some (t223 == t224)))) else (some false)))) else (some false)))) else (some false))) = some r := H
                    have A19 := Aside0.mk A190
                    clear A190
                    replace H := Option.bind_eq_some_iff.mp H
                    obtain ⟨t218, A200, H⟩ := H
                    replace H : (if t217 = t218 then ((label_Fold.f a0).bind fun t219 => ((nameplateref01_Fold.f a0).bind fun t220 => (if t219.toList = t220.toList then ((label_Same.f a0 a1).bind fun t221 => ((nameplateref01_Same.f a0 a1).bind fun t222 => (if (t221 == t222) = true then ((label_Compare.f a0 a1).bind fun t223 => ((nameplateref01_Compare.f kj5 a0 a1).bind fun t224 => (some (t223 == t224)))) else (some false)))) else (some false)))) else (some false)) = some r := H
                    have A20 := Aside0.mk A200
                    clear A200
                    by_cases c21 : t217 = t218
                    · rw [if_pos c21] at H
                      have c21b0 : (t217 == t218) = true := beq_iff_eq.mpr c21
                      have c21b1 : (t217 != t218) = false := bne_eq_false_iff_eq.mpr c21
                      clear c21
                      replace H := Option.bind_eq_some_iff.mp H
                      obtain ⟨t219, A220, H⟩ := H
                      replace H : ((nameplateref01_Fold.f a0).bind fun t220 => (if t219.toList = t220.toList then ((label_Same.f a0 a1).bind fun t221 => ((nameplateref01_Same.f a0 a1).bind fun t222 => (if (t221 == t222) = true then ((label_Compare.f a0 a1).bind fun t223 => ((nameplateref01_Compare.f kj5 a0 a1).bind fun t224 => (some (t223 == t224)))) else (some false)))) else (some false))) = some r := H
                      have A22 := Aside0.mk A220
                      clear A220
                      replace H := Option.bind_eq_some_iff.mp H
                      obtain ⟨t220, A230, H⟩ := H
                      replace H : (if t219.toList = t220.toList then ((label_Same.f a0 a1).bind fun t221 => ((nameplateref01_Same.f a0 a1).bind fun t222 => (if (t221 == t222) = true then ((label_Compare.f a0 a1).bind fun t223 => ((nameplateref01_Compare.f kj5 a0 a1).bind fun t224 => (some (t223 == t224)))) else (some false)))) else (some false)) = some r := H
                      have A23 := Aside0.mk A230
                      clear A230
                      by_cases c24 : t219.toList = t220.toList
                      · rw [if_pos c24] at H
                        have c24b0 : (t219.toList == t220.toList) = true := beq_iff_eq.mpr c24
                        have c24b1 : (t219.toList != t220.toList) = false := bne_eq_false_iff_eq.mpr c24
                        clear c24
                        replace H := Option.bind_eq_some_iff.mp H
                        obtain ⟨t221, A250, H⟩ := H
                        replace H : ((nameplateref01_Same.f a0 a1).bind fun t222 => (if (t221 == t222) = true then ((label_Compare.f a0 a1).bind fun t223 => ((nameplateref01_Compare.f kj5 a0 a1).bind fun t224 => (some (t223 == t224)))) else (some false))) = some r := H
                        have A25 := Aside0.mk A250
                        clear A250
                        replace H := Option.bind_eq_some_iff.mp H
                        obtain ⟨t222, A260, H⟩ := H
                        replace H : (if (t221 == t222) = true then ((label_Compare.f a0 a1).bind fun t223 => ((nameplateref01_Compare.f kj5 a0 a1).bind fun t224 => (some (t223 == t224)))) else (some false)) = some r := H
                        have A26 := Aside0.mk A260
                        clear A260
                        by_cases c27 : (t221 == t222) = true
                        · rw [if_pos c27] at H
                          have c27b0 : (t221 == t222) = true := c27
                          (try (have c27b1 : decide (t221 = t222) = true := by simpa using c27))
                          (try (have c27b2 : (t221 == t222) = true := by simpa using c27))
                          clear c27
                          replace H := Option.bind_eq_some_iff.mp H
                          obtain ⟨t223, A280, H⟩ := H
                          replace H : ((nameplateref01_Compare.f kj5 a0 a1).bind fun t224 => (some (t223 == t224))) = some r := H
                          have A28 := Aside0.mk A280
                          clear A280
                          replace H := Option.bind_eq_some_iff.mp H
                          obtain ⟨t224, A290, H⟩ := H
                          replace H : (some (t223 == t224)) = some r := H
                          have A29 := Aside0.mk A290
                          clear A290
                          obtain rfl := Option.some.inj H
                          go_wp2_with (first | ((with_reducible refine gate_callee (f := 10) rfl ?_); refine goesL_ (some 29) rfl rfl Try.func10 (by kernel_rfl) rfl #[.string a0] rfl (by (try simp only [List.map_toArray, List.map_cons, List.map_nil]); first | done | rfl | (simp only [List.length_drop, List.length_take]; rfl)) ?_; (with_reducible refine (label_Text.calls kj5 a0 t207 t208 _ A10.out).mono ?_); rintro e w30 ⟨rfl, hb⟩; refine ⟨_, rfl, ?_⟩; have n0_ := Aside0.mk (below_step (by repeat (first | (with_reducible first | exact HB.out | apply below_alloc | apply pw_below_drewN | apply below_drew1) | exact HB.out)) hb); clear HB; have HB := n0_; clear n0_; (try clear hb); (try clear hb2); (try clear hk); (try clear hi)) | ((with_reducible refine gate_callee (f := 17) rfl ?_); refine goesL_ (some 34) rfl rfl Try.func17 (by kernel_rfl) rfl #[.string a0] rfl (by (try simp only [List.map_toArray, List.map_cons, List.map_nil]); first | done | rfl | (simp only [List.length_drop, List.length_take]; rfl)) ?_; (with_reducible refine (nameplateref01_Text.calls kj5 a0 t209 t210 _ A11.out).mono ?_); rintro e w31 ⟨rfl, hb⟩; refine ⟨_, rfl, ?_⟩; have n0_ := Aside0.mk (below_step (by repeat (first | (with_reducible first | exact HB.out | apply below_alloc | apply pw_below_drewN | apply below_drew1) | exact HB.out)) hb); clear HB; have HB := n0_; clear n0_; (try clear hb); (try clear hb2); (try clear hk); (try clear hi)) | ((with_reducible refine gate_callee (f := 12) rfl ?_); refine goesL_ (some 40) rfl rfl Try.func12 (by kernel_rfl) rfl #[.string a1, .int .i64 a2] rfl (by (try simp only [List.map_toArray, List.map_cons, List.map_nil]); first | done | rfl | (simp only [List.length_drop, List.length_take]; rfl)) ?_; (with_reducible refine (label_Read.calls kj5 a1 a2 t211 t212 t213 _ A12.out).mono ?_); rintro e w32 ⟨rfl, hb⟩; refine ⟨_, rfl, ?_⟩; have n0_ := Aside0.mk (below_step (by repeat (first | (with_reducible first | exact HB.out | apply below_alloc | apply pw_below_drewN | apply below_drew1) | exact HB.out)) hb); clear HB; have HB := n0_; clear n0_; (try clear hb); (try clear hb2); (try clear hk); (try clear hi)) | ((with_reducible refine gate_callee (f := 18) rfl ?_); refine goesL_ (some 47) rfl rfl Try.func18 (by kernel_rfl) rfl #[.string a1, .int .i64 a2] rfl (by (try simp only [List.map_toArray, List.map_cons, List.map_nil]); first | done | rfl | (simp only [List.length_drop, List.length_take]; rfl)) ?_; (with_reducible refine (nameplateref01_Read.calls kj5 a1 a2 t214 t215 t216 _ A13.out).mono ?_); rintro e w33 ⟨rfl, hb⟩; refine ⟨_, rfl, ?_⟩; have n0_ := Aside0.mk (below_step (by repeat (first | (with_reducible first | exact HB.out | apply below_alloc | apply pw_below_drewN | apply below_drew1) | exact HB.out)) hb); clear HB; have HB := n0_; clear n0_; (try clear hb); (try clear hb2); (try clear hk); (try clear hi)) | (go_at_call 11; (with_reducible refine (label_Check.calls a0 t217 _ A19.out).mono ?_); rintro e w' ⟨rfl, ⟨nd, rfl⟩⟩) | (go_at_call 19; (with_reducible refine (nameplateref01_Check.calls a0 t218 _ A20.out).mono ?_); rintro e w' ⟨rfl, ⟨nd, rfl⟩⟩) | (go_at_call 14; (with_reducible refine (label_Fold.calls a0 t219 _ A22.out).mono ?_); rintro e w34 ⟨rfl, hb⟩; have n0_ := Aside0.mk (below_step (by repeat (first | (with_reducible first | exact HB.out | apply below_alloc | apply pw_below_drewN | apply below_drew1) | exact HB.out)) hb); clear HB; have HB := n0_; clear n0_; (try clear hb); (try clear hb2); (try clear hk); (try clear hi)) | (go_at_call 20; (with_reducible refine (nameplateref01_Fold.calls a0 t220 _ A23.out).mono ?_); rintro e w35 ⟨rfl, hb⟩; have n0_ := Aside0.mk (below_step (by repeat (first | (with_reducible first | exact HB.out | apply below_alloc | apply pw_below_drewN | apply below_drew1) | exact HB.out)) hb); clear HB; have HB := n0_; clear n0_; (try clear hb); (try clear hb2); (try clear hk); (try clear hi)) | (go_at_call 15; (with_reducible refine (label_Same.calls a0 a1 t221 _ A25.out).mono ?_); rintro e w36 ⟨rfl, hb⟩; have n0_ := Aside0.mk (below_step (by repeat (first | (with_reducible first | exact HB.out | apply below_alloc | apply pw_below_drewN | apply below_drew1) | exact HB.out)) hb); clear HB; have HB := n0_; clear n0_; (try clear hb); (try clear hb2); (try clear hk); (try clear hi)) | (go_at_call 21; (with_reducible refine (nameplateref01_Same.calls a0 a1 t222 _ A26.out).mono ?_); rintro e w37 ⟨rfl, hb⟩; have n0_ := Aside0.mk (below_step (by repeat (first | (with_reducible first | exact HB.out | apply below_alloc | apply pw_below_drewN | apply below_drew1) | exact HB.out)) hb); clear HB; have HB := n0_; clear n0_; (try clear hb); (try clear hb2); (try clear hk); (try clear hi)) | (go_at_call 16; (with_reducible refine (label_Compare.calls a0 a1 t223 _ A28.out).mono ?_); rintro e w38 ⟨rfl, hb⟩; have n0_ := Aside0.mk (below_step (by repeat (first | (with_reducible first | exact HB.out | apply below_alloc | apply pw_below_drewN | apply below_drew1) | exact HB.out)) hb); clear HB; have HB := n0_; clear n0_; (try clear hb); (try clear hb2); (try clear hk); (try clear hi)) | (go_at_call 22; (with_reducible refine (nameplateref01_Compare.calls kj5 a0 a1 t224 _ A29.out).mono ?_); rintro e w39 ⟨rfl, hb⟩; have n0_ := Aside0.mk (below_step (by repeat (first | (with_reducible first | exact HB.out | apply below_alloc | apply pw_below_drewN | apply below_drew1) | exact HB.out)) hb); clear HB; have HB := n0_; clear n0_; (try clear hb); (try clear hb2); (try clear hk); (try clear hi)))
                          go_ret
                          exact ⟨by first | rfl | (simp [errW_none, errW_some] <;> rfl) | (simp [*, errW_none, errW_some] <;> rfl), by repeat (first | (with_reducible first | exact HB.out | apply below_alloc | apply pw_below_drewN | apply below_drew1) | exact HB.out)⟩
                        · rw [if_neg c27] at H
                          have c27b0 : (t221 == t222) = false := by simpa using c27
                          (try (have c27b1 : decide (t221 = t222) = false := by simpa using c27))
                          (try (have c27b2 : (t221 == t222) = false := by simpa using c27))
                          (try (have c27b3 : ¬ (t221 = t222) := by simpa using c27))
                          clear c27
                          exact absurd ((Option.some.inj H).trans hr_.out) (by decide)
                      · rw [if_neg c24] at H
                        have c24b0 : (t219.toList == t220.toList) = false := beq_eq_false_iff_ne.mpr c24
                        have c24b1 : (t219.toList != t220.toList) = true := bne_iff_ne.mpr c24
                        exact absurd ((Option.some.inj H).trans hr_.out) (by decide)
                    · rw [if_neg c21] at H
                      have c21b0 : (t217 == t218) = false := beq_eq_false_iff_ne.mpr c21
                      have c21b1 : (t217 != t218) = true := bne_iff_ne.mpr c21
                      exact absurd ((Option.some.inj H).trans hr_.out) (by decide)
                  · rw [if_neg c18] at H
                    have c18b0 : (t213 == t216) = false := beq_eq_false_iff_ne.mpr c18
                    have c18b1 : (t213 != t216) = true := bne_iff_ne.mpr c18
                    exact absurd ((Option.some.inj H).trans hr_.out) (by decide)
                · rw [if_neg c17] at H
                  have c17b0 : (t212 == t215) = false := beq_eq_false_iff_ne.mpr c17
                  have c17b1 : (t212 != t215) = true := bne_iff_ne.mpr c17
                  exact absurd ((Option.some.inj H).trans hr_.out) (by decide)
              · rw [if_neg c16] at H
                have c16b0 : (t211.toList == t214.toList) = false := beq_eq_false_iff_ne.mpr c16
                have c16b1 : (t211.toList != t214.toList) = true := bne_iff_ne.mpr c16
                exact absurd ((Option.some.inj H).trans hr_.out) (by decide)
            · rw [if_neg c15] at H
              have c15b0 : (t208 == t210) = false := beq_eq_false_iff_ne.mpr c15
              have c15b1 : (t208 != t210) = true := bne_iff_ne.mpr c15
              exact absurd ((Option.some.inj H).trans hr_.out) (by decide)
          · rw [if_neg c14] at H
            have c14b0 : (t207.toList == t209.toList) = false := beq_eq_false_iff_ne.mpr c14
            have c14b1 : (t207.toList != t209.toList) = true := bne_iff_ne.mpr c14
            exact absurd ((Option.some.inj H).trans hr_.out) (by decide)
  · replace c5 := Bool.eq_false_iff.mpr c5
    subst c5
    have H1 : (some false) = some r := by rw [if_neg (show ¬ (false = true) by decide)] at H; exact H
    clear H
    have H := H1
    clear H1
    exact absurd ((Option.some.inj H).trans hr_.out) (by decide)

/-- THE ONE PURE STATEMENT of nameplatelaw01_LabelCalls: yours. -/
def nameplatelaw01_LabelCalls.Pure : Prop := ∀ (a0 : ByteArray) (a1 : ByteArray) (a2 : Int), a0.size ≤ 140737488351232 → a1.size ≤ 140737488351232 → (Lit.int .i64 a2).wf = true → ∃ k, nameplatelaw01_LabelCalls.f k a0 a1 a2 = some true
theorem nameplatelaw01_LabelCalls.walk (P : nameplatelaw01_LabelCalls.Pure) (a0 : ByteArray) (a1 : ByteArray) (a2 : Int) (w : World) (w0 : a0.size ≤ 140737488351232) (w1 : a1.size ≤ 140737488351232) (w2 : (Lit.int .i64 a2).wf = true) :
    Calls Try.prog 7 #[.string a0, .string a1, .int .i64 a2] w fun e w' => e = .returned (.bool true) ∧ Below w.heap.size w w' := by
  obtain ⟨k, h⟩ := P a0 a1 a2 w0 w1 w2
  refine (nameplatelaw01_LabelCalls.calls k a0 a1 a2 true w ⟨rfl⟩ h).mono ?_
  rintro e w' ⟨rfl, hd⟩
  exact ⟨rfl, hd⟩

end Go.Proofs.Ytnbjogebdjjepac.OAll
