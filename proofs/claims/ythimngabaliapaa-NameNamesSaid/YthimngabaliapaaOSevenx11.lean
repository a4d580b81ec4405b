/- This text proves, for each Go function named below, which plain Lean function its call computes, in whatever memory; a program of this session has written it. -/
import Derived.Test.YthimngabaliapaaOSevenx0
import Derived.Test.YthimngabaliapaaOSevenx1
import Derived.Test.YthimngabaliapaaOSevenx2
import Derived.Test.YthimngabaliapaaOSevenx4
import Derived.Test.YthimngabaliapaaOSevenx6
import Derived.Test.YthimngabaliapaaOSevenx10
namespace Go.Proofs.Ythimngabaliapaa.OSeven
open Go.RowKit Go.Proofs.YthimngabaliapaaW.PrintWords Go.Proofs.YthimngabaliapaaW.PrintLast Go.Proofs.YthimngabaliapaaW.PrintMore
attribute [local go_sem] max2_int min2_int max_two min_two max_three min_three max_four min_four   -- for this text's walks alone
set_option linter.unusedVariables false
set_option linter.unusedSimpArgs false

/-! ### nameplatelaw02_NameOrder: function 8 -/
mutual
def nameplatelaw02_NameOrder.j0 : Nat → ByteArray → ByteArray → ByteArray → Bool → Option (Bool)
  | 0, _, _, _, _ => none
  | k + 1, x0, x1, x2, x40 => if x40 = true then (some true) else ((name_Compare.f k x0 x1).bind fun t308 => ((name_Compare.f k x1 x2).bind fun t309 => ((name_Compare.f k x0 x2).bind fun t310 => (if t308 < (-1) then (nameplatelaw02_NameOrder.j1 k x0 x1 x2 t308 true) else (if t308 > 1 then (nameplatelaw02_NameOrder.j1 k x0 x1 x2 t308 true) else ((name_Compare.f k x1 x0).bind fun t311 => (if t308 = (wrap64 (-t311)) then ((name_Same.f k x0 x1).bind fun t312 => (if ((t308 == 0) != t312) = true then (nameplatelaw02_NameOrder.j1 k x0 x1 x2 t308 true) else (if t308 ≤ 0 then (if t309 ≤ 0 then (if t310 > 0 then (nameplatelaw02_NameOrder.j1 k x0 x1 x2 t308 true) else ((name_Under.f k x0 x1).bind fun t313 => (if t313 = true then (nameplatelaw02_NameOrder.j1 k x0 x1 x2 t308 (decide (t308 < 0))) else (nameplatelaw02_NameOrder.j1 k x0 x1 x2 t308 false)))) else ((name_Under.f k x0 x1).bind fun t314 => (if t314 = true then (nameplatelaw02_NameOrder.j1 k x0 x1 x2 t308 (decide (t308 < 0))) else (nameplatelaw02_NameOrder.j1 k x0 x1 x2 t308 false)))) else ((name_Under.f k x0 x1).bind fun t315 => (if t315 = true then (nameplatelaw02_NameOrder.j1 k x0 x1 x2 t308 (decide (t308 < 0))) else (nameplatelaw02_NameOrder.j1 k x0 x1 x2 t308 false)))))) else (nameplatelaw02_NameOrder.j1 k x0 x1 x2 t308 true))))))))
def nameplatelaw02_NameOrder.j1 : Nat → ByteArray → ByteArray → ByteArray → Int → Bool → Option (Bool)
  | 0, _, _, _, _, _ => none
  | k + 1, x0, x1, x2, x7, x92 => if x92 = true then (some false) else ((name_Fold.f k x0).bind fun t316 => ((name_Compare.f k t316 x1).bind fun t317 => (if t317 = x7 then ((name_Same.f k t316 x0).bind fun t318 => (if t318 = true then ((name_Fold.f k t316).bind fun t319 => (if t319.toList = t316.toList then ((name_Under.f k t316 x1).bind fun t320 => ((name_Under.f k x0 x1).bind fun t321 => (if (t320 == t321) = true then ((name_Under.f k x0 x1).bind fun t322 => (if t322 = true then ((name_Under.f k x1 x2).bind fun t323 => (if t323 = true then ((name_Under.f k x0 x2).bind fun t324 => (some t324)) else (some true))) else (some true))) else (some false)))) else (some false))) else (some false))) else (some false))))
end
def nameplatelaw02_NameOrder.f (k : Nat) (a0 : ByteArray) (a1 : ByteArray) (a2 : ByteArray) : Option (Bool) := (nameplatelaw02_lives.f k).bind fun t304 => (if t304 = true then (if (a0.size : Int) > 400 then (nameplatelaw02_NameOrder.j0 k a0 a1 a2 true) else (if (a1.size : Int) > 400 then (nameplatelaw02_NameOrder.j0 k a0 a1 a2 true) else (if (a2.size : Int) > 400 then (nameplatelaw02_NameOrder.j0 k a0 a1 a2 true) else ((name_Check.f k a0).bind fun t305 => (if t305 = 0 then ((name_Check.f k a1).bind fun t306 => (if t306 = 0 then ((name_Check.f k a2).bind fun t307 => (nameplatelaw02_NameOrder.j0 k a0 a1 a2 (t307 != 0))) else (nameplatelaw02_NameOrder.j0 k a0 a1 a2 true))) else (nameplatelaw02_NameOrder.j0 k a0 a1 a2 true)))))) else (some false))
theorem nameplatelaw02_NameOrder.mono_l : ∀ k, (∀ y0 y1 y2 y3, LeO (nameplatelaw02_NameOrder.j0 k y0 y1 y2 y3) (nameplatelaw02_NameOrder.j0 (k + 1) y0 y1 y2 y3)) ∧ (∀ y0 y1 y2 y3 y4, LeO (nameplatelaw02_NameOrder.j1 k y0 y1 y2 y3 y4) (nameplatelaw02_NameOrder.j1 (k + 1) y0 y1 y2 y3 y4))
  | 0 => ⟨fun _ _ _ _ r h => by simp [nameplatelaw02_NameOrder.j0] at h, fun _ _ _ _ _ r h => by simp [nameplatelaw02_NameOrder.j1] at h⟩
  | k + 1 => by
    obtain ⟨ih0, ih1⟩ := nameplatelaw02_NameOrder.mono_l k
    refine ⟨?_, ?_⟩
    · intro y0 y1 y2 y3
      unfold nameplatelaw02_NameOrder.j0
      repeat' first
      | (with_reducible exact ih0 _ _ _ _)
      | (with_reducible exact ih1 _ _ _ _ _)
      | (with_reducible exact name_Check.mono _ _)
      | (with_reducible exact name_Compare.mono _ _ _)
      | (with_reducible exact name_Fold.mono _ _)
      | (with_reducible exact name_Same.mono _ _ _)
      | (with_reducible exact name_Under.mono _ _ _)
      | (with_reducible exact nameplatelaw02_lives.mono _)
      | (with_reducible exact LeO.refl _)
      | (with_reducible exact LeO.none _)
      | (with_reducible refine LeO.ite ?_ ?_)
      | (with_reducible refine LeO.bind ?_ (fun _ => ?_))
      | exact ih0 _ _ _ _
      | exact ih1 _ _ _ _ _
      | exact name_Check.mono _ _
      | exact name_Compare.mono _ _ _
      | exact name_Fold.mono _ _
      | exact name_Same.mono _ _ _
      | exact name_Under.mono _ _ _
      | exact nameplatelaw02_lives.mono _
      | exact LeO.none _
      | refine LeO.ite ?_ ?_
      | refine LeO.bind ?_ (fun _ => ?_)
    · intro y0 y1 y2 y3 y4
      unfold nameplatelaw02_NameOrder.j1
      repeat' first
      | (with_reducible exact ih0 _ _ _ _)
      | (with_reducible exact ih1 _ _ _ _ _)
      | (with_reducible exact name_Check.mono _ _)
      | (with_reducible exact name_Compare.mono _ _ _)
      | (with_reducible exact name_Fold.mono _ _)
      | (with_reducible exact name_Same.mono _ _ _)
      | (with_reducible exact name_Under.mono _ _ _)
      | (with_reducible exact nameplatelaw02_lives.mono _)
      | (with_reducible exact LeO.refl _)
      | (with_reducible exact LeO.none _)
      | (with_reducible refine LeO.ite ?_ ?_)
      | (with_reducible refine LeO.bind ?_ (fun _ => ?_))
      | exact ih0 _ _ _ _
      | exact ih1 _ _ _ _ _
      | exact name_Check.mono _ _
      | exact name_Compare.mono _ _ _
      | exact name_Fold.mono _ _
      | exact name_Same.mono _ _ _
      | exact name_Under.mono _ _ _
      | exact nameplatelaw02_lives.mono _
      | exact LeO.none _
      | refine LeO.ite ?_ ?_
      | refine LeO.bind ?_ (fun _ => ?_)
theorem nameplatelaw02_NameOrder.mono : ∀ a0 a1 a2 k, LeO (nameplatelaw02_NameOrder.f k a0 a1 a2) (nameplatelaw02_NameOrder.f (k + 1) a0 a1 a2) := by
  intro a0 a1 a2 k
  obtain ⟨ih0, ih1⟩ := nameplatelaw02_NameOrder.mono_l k
  unfold nameplatelaw02_NameOrder.f
  repeat' first
      | (with_reducible exact ih0 _ _ _ _)
      | (with_reducible exact ih1 _ _ _ _ _)
      | (with_reducible exact name_Check.mono _ _)
      | (with_reducible exact name_Compare.mono _ _ _)
      | (with_reducible exact name_Fold.mono _ _)
      | (with_reducible exact name_Same.mono _ _ _)
      | (with_reducible exact name_Under.mono _ _ _)
      | (with_reducible exact nameplatelaw02_lives.mono _)
      | (with_reducible exact LeO.refl _)
      | (with_reducible exact LeO.none _)
      | (with_reducible refine LeO.ite ?_ ?_)
      | (with_reducible refine LeO.bind ?_ (fun _ => ?_))
      | exact ih0 _ _ _ _
      | exact ih1 _ _ _ _ _
      | exact name_Check.mono _ _
      | exact name_Compare.mono _ _ _
      | exact name_Fold.mono _ _
      | exact name_Same.mono _ _ _
      | exact name_Under.mono _ _ _
      | exact nameplatelaw02_lives.mono _
      | exact LeO.none _
      | refine LeO.ite ?_ ?_
      | refine LeO.bind ?_ (fun _ => ?_)
set_option maxHeartbeats 8000000 in
set_option maxRecDepth 100000 in
theorem nameplatelaw02_NameOrder.calls (k : Nat) (a0 : ByteArray) (a1 : ByteArray) (a2 : ByteArray) (r : Bool) (w : World) (hr_ : Aside0 (r = true)) (h : nameplatelaw02_NameOrder.f k a0 a1 a2 = some r) :
    Calls Try.prog 8 #[.string a0, .string a1, .string a2] w fun e w' => e = .returned (.bool r) ∧ Below w.heap.size w w' := by
  have HB := Aside0.mk (Below.refl w.heap.size w)
  have H : ((nameplatelaw02_lives.f k).bind fun t304 => (if t304 = true then (if (a0.size : Int) > 400 then (nameplatelaw02_NameOrder.j0 k a0 a1 a2 true) else (if (a1.size : Int) > 400 then (nameplatelaw02_NameOrder.j0 k a0 a1 a2 true) else (if (a2.size : Int) > 400 then (nameplatelaw02_NameOrder.j0 k a0 a1 a2 true) else ((name_Check.f k a0).bind fun t305 => (if t305 = 0 then ((name_Check.f k a1).bind fun t306 => (if t306 = 0 then ((name_Check.f k a2).bind fun t307 => (nameplatelaw02_NameOrder.j0 k a0 a1 a2 (t307 != 0))) else (nameplatelaw02_NameOrder.j0 k a0 a1 a2 true))) else (nameplatelaw02_NameOrder.j0 k a0 a1 a2 true)))))) else (some false))) = some r := h
  clear h
  replace H := Option.bind_eq_some_iff.mp H
  obtain ⟨t304, A40, H⟩ := H
  replace H : (if t304 = true then (if (a0.size : Int) > 400 then (nameplatelaw02_NameOrder.j0 k a0 a1 a2 true) else (if (a1.size : Int) > 400 then (nameplatelaw02_NameOrder.j0 k a0 a1 a2 true) else (if (a2.size : Int) > 400 then (nameplatelaw02_NameOrder.j0 k a0 a1 a2 true) else ((name_Check.f k a0).bind fun t305 => (if t305 = 0 then ((name_Check.f k a1).bind fun t306 => (if t306 = 0 then ((name_Check.f k a2).bind fun t307 => (nameplatelaw02_NameOrder.j0 k a0 a1 a2 (t307 != 0))) else (nameplatelaw02_NameOrder.j0 k a0 a1 a2 true))) else (nameplatelaw02_NameOrder.j0 k a0 a1 a2 true)))))) else (some false)) = some r := H
  have A4 := Aside0.mk A40
  clear A40
  by_cases c5 : t304 = true
  · subst c5
    have H1 : (if (a0.size : Int) > 400 then (nameplatelaw02_NameOrder.j0 k a0 a1 a2 true) else (if (a1.size : Int) > 400 then (nameplatelaw02_NameOrder.j0 k a0 a1 a2 true) else (if (a2.size : Int) > 400 then (nameplatelaw02_NameOrder.j0 k a0 a1 a2 true) else ((name_Check.f k a0).bind fun t305 => (if t305 = 0 then ((name_Check.f k a1).bind fun t306 => (if t306 = 0 then ((name_Check.f k a2).bind fun t307 => (nameplatelaw02_NameOrder.j0 k a0 a1 a2 (t307 != 0))) else (nameplatelaw02_NameOrder.j0 k a0 a1 a2 true))) else (nameplatelaw02_NameOrder.j0 k a0 a1 a2 true)))))) = some r := by rw [if_pos rfl] at H; exact H
    clear H
    have H := H1
    clear H1
    have HC6 := Aside0.mk H
    clear H
    go_enter Try.func8, Try.ntmps8
    go_upto_region 3 with (first | ((with_reducible refine gate_callee (f := 11) rfl ?_); refine goesL_ (some 11) rfl rfl Try.func11 (by kernel_rfl) rfl #[] rfl (by (try simp only [List.map_toArray, List.map_cons, List.map_nil]); first | done | rfl | (simp only [List.length_drop, List.length_take]; rfl)) ?_; (with_reducible refine (nameplatelaw02_lives.calls k  true _ A4.out).mono ?_); rintro e w7 ⟨rfl, hb⟩; refine ⟨_, rfl, ?_⟩; have n0_ := Aside0.mk (below_step (by repeat (first | (with_reducible first | exact HB.out | apply below_alloc | apply pw_below_drewN | apply below_drew1) | exact HB.out)) hb); clear HB; have HB := n0_; clear n0_; (try clear hb); (try clear hb2); (try clear hk); (try clear hi)))
    (try simp only [Act.put, List.setIfInBounds_toArray, List.set_cons_zero, List.set_cons_succ])
    go_cut [40] (fun v40 wc => ∃ (kq : Nat) (x40_5 : Bool), v40 = .bool x40_5 ∧ Aside0 (nameplatelaw02_NameOrder.j0 kq a0 a1 a2 x40_5 = some r) ∧ Aside0 (kq ≤ k) ∧ Aside0 (Below w.heap.size w wc))
    case first =>
      have H := HC6.out
      clear HC6
      by_cases c8 : (a0.size : Int) > 400
      · rw [if_pos c8] at H
        have c8b0 : decide (400 < (a0.size : Int)) = true := decide_eq_true c8
        have c8b1 : decide (400 < a0.size) = true := decide_eq_true (by omega)
        clear c8
        (first | rw [c8b0] | (simp only [i64_w, i32_w]; rw [c8b0]) | skip)
        have H' := Aside0.mk H
        clear H
        go_wp2
        go_meet
        case rel => exact ⟨_, (true), (by first | rfl | (simp; done) | (simp [*]; done)), H', ⟨by first | omega | exact Nat.le_refl _⟩, ⟨by repeat (first | (with_reducible first | exact HB.out | apply below_alloc | apply pw_below_drewN | apply below_drew1) | exact HB.out)⟩⟩
      · rw [if_neg c8] at H
        have c8b0 : decide (400 < (a0.size : Int)) = false := decide_eq_false c8
        have c8b1 : decide (400 < a0.size) = false := decide_eq_false (by omega)
        clear c8
        (first | rw [c8b0] | (simp only [i64_w, i32_w]; rw [c8b0]) | skip)
        by_cases c9 : (a1.size : Int) > 400
        · rw [if_pos c9] at H
          have c9b0 : decide (400 < (a1.size : Int)) = true := decide_eq_true c9
          have c9b1 : decide (400 < a1.size) = true := decide_eq_true (by omega)
          clear c9
          have H' := Aside0.mk H
          clear H
          go_wp2
          go_meet
          case rel => exact ⟨_, (true), (by first | rfl | (simp; done) | (simp [*]; done)), H', ⟨by first | omega | exact Nat.le_refl _⟩, ⟨by repeat (first | (with_reducible first | exact HB.out | apply below_alloc | apply pw_below_drewN | apply below_drew1) | exact HB.out)⟩⟩
        · rw [if_neg c9] at H
          have c9b0 : decide (400 < (a1.size : Int)) = false := decide_eq_false c9
          have c9b1 : decide (400 < a1.size) = false := decide_eq_false (by omega)
          clear c9
          by_cases c10 : (a2.size : Int) > 400
          · rw [if_pos c10] at H
            have c10b0 : decide (400 < (a2.size : Int)) = true := decide_eq_true c10
            have c10b1 : decide (400 < a2.size) = true := decide_eq_true (by omega)
            clear c10
            have H' := Aside0.mk H
            clear H
            go_wp2
            go_meet
            case rel => exact ⟨_, (true), (by first | rfl | (simp; done) | (simp [*]; done)), H', ⟨by first | omega | exact Nat.le_refl _⟩, ⟨by repeat (first | (with_reducible first | exact HB.out | apply below_alloc | apply pw_below_drewN | apply below_drew1) | exact HB.out)⟩⟩
          · rw [if_neg c10] at H
            have c10b0 : decide (400 < (a2.size : Int)) = false := decide_eq_false c10
            have c10b1 : decide (400 < a2.size) = false := decide_eq_false (by omega)
            clear c10
            replace H := Option.bind_eq_some_iff.mp H
            obtain ⟨t305, A110, H⟩ := H
            replace H : (if t305 = 0 then ((name_Check.f k a1).bind fun t306 => (if t306 = 0 then ((name_Check.f k a2).bind fun t307 => (nameplatelaw02_NameOrder.j0 k a0 a1 a2 (t307 != 0))) else (nameplatelaw02_NameOrder.j0 k a0 a1 a2 true))) else (nameplatelaw02_NameOrder.j0 k a0 a1 a2 true)) = some r := H
            have A11 := Aside0.mk A110
            clear A110
            by_cases c12 : t305 = 0
            · rw [if_pos c12] at H
              have c12b0 : (t305 == 0) = true := beq_iff_eq.mpr c12
              have c12b1 : (t305 != 0) = false := bne_eq_false_iff_eq.mpr c12
              clear c12
              replace H := Option.bind_eq_some_iff.mp H
              obtain ⟨t306, A130, H⟩ := H
              replace H : (if t306 = 0 then ((name_Check.f k a2).bind fun t307 => (nameplatelaw02_NameOrder.j0 k a0 a1 a2 (t307 != 0))) else (nameplatelaw02_NameOrder.j0 k a0 a1 a2 true)) = some r := H
              have A13 := Aside0.mk A130
              clear A130
              by_cases c14 : t306 = 0
              · rw [if_pos c14] at H
                have c14b0 : (t306 == 0) = true := beq_iff_eq.mpr c14
                have c14b1 : (t306 != 0) = false := bne_eq_false_iff_eq.mpr c14
                clear c14
                replace H := Option.bind_eq_some_iff.mp H
                obtain ⟨t307, A150, H⟩ := H
                replace H : (nameplatelaw02_NameOrder.j0 k a0 a1 a2 (t307 != 0)) = some r := H
                have A15 := Aside0.mk A150
                clear A150
                have H' := Aside0.mk H
                clear H
                go_wp2_with (first | (go_at_call 12; (with_reducible refine (name_Check.calls k a0 t305 _ A11.out).mono ?_); rintro e w' ⟨rfl, ⟨nd, rfl⟩⟩) | (go_at_call 12; (with_reducible refine (name_Check.calls k a1 t306 _ A13.out).mono ?_); rintro e w' ⟨rfl, ⟨nd, rfl⟩⟩) | (go_at_call 12; (with_reducible refine (name_Check.calls k a2 t307 _ A15.out).mono ?_); rintro e w' ⟨rfl, ⟨nd, rfl⟩⟩))
                go_meet
                case rel => exact ⟨_, ((t307 != 0)), (by first | rfl | (simp; done) | (simp [*]; done)), H', ⟨by first | omega | exact Nat.le_refl _⟩, ⟨by repeat (first | (with_reducible first | exact HB.out | apply below_alloc | apply pw_below_drewN | apply below_drew1) | exact HB.out)⟩⟩
              · rw [if_neg c14] at H
                have c14b0 : (t306 == 0) = false := beq_eq_false_iff_ne.mpr c14
                have c14b1 : (t306 != 0) = true := bne_iff_ne.mpr c14
                have H' := Aside0.mk H
                clear H
                go_wp2_with (first | (go_at_call 12; (with_reducible refine (name_Check.calls k a0 t305 _ A11.out).mono ?_); rintro e w' ⟨rfl, ⟨nd, rfl⟩⟩) | (go_at_call 12; (with_reducible refine (name_Check.calls k a1 t306 _ A13.out).mono ?_); rintro e w' ⟨rfl, ⟨nd, rfl⟩⟩))
                go_meet
                case rel => exact ⟨_, (true), (by first | rfl | (simp; done) | (simp [*]; done)), H', ⟨by first | omega | exact Nat.le_refl _⟩, ⟨by repeat (first | (with_reducible first | exact HB.out | apply below_alloc | apply pw_below_drewN | apply below_drew1) | exact HB.out)⟩⟩
            · rw [if_neg c12] at H
              have c12b0 : (t305 == 0) = false := beq_eq_false_iff_ne.mpr c12
              have c12b1 : (t305 != 0) = true := bne_iff_ne.mpr c12
              have H' := Aside0.mk H
              clear H
              go_wp2_with (first | (go_at_call 12; (with_reducible refine (name_Check.calls k a0 t305 _ A11.out).mono ?_); rintro e w' ⟨rfl, ⟨nd, rfl⟩⟩))
              go_meet
              case rel => exact ⟨_, (true), (by first | rfl | (simp; done) | (simp [*]; done)), H', ⟨by first | omega | exact Nat.le_refl _⟩, ⟨by repeat (first | (with_reducible first | exact HB.out | apply below_alloc | apply pw_below_drewN | apply below_drew1) | exact HB.out)⟩⟩
    case rest =>
      clear HC6
      try clear c1
      try clear p2
      try clear c5
      try clear c8
      try clear c8b0
      try clear c8b1
      try clear c9
      try clear c9b0
      try clear c9b1
      try clear c10
      try clear c10b0
      try clear c10b1
      try clear c11
      try clear c12
      try clear c12b0
      try clear c12b1
      try clear c14
      try clear c14b0
      try clear c14b1
      obtain ⟨kq, x40_5, rfl, HA, HJ5, HB⟩ := hcut
      cases kq with
      | zero => exact absurd HA.out (by simp [nameplatelaw02_NameOrder.j0])
      | succ kj5 =>
        have H := HA.out
        clear HA
        simp only [nameplatelaw02_NameOrder.j0] at H
        by_cases c16 : x40_5 = true
        · subst c16
          have H1 : (some true) = some r := by rw [if_pos rfl] at H; exact H
          clear H
          have H := H1
          clear H1
          obtain rfl := Option.some.inj H
          go_wp2
          go_ret
          exact ⟨by first | rfl | (simp [errW_none, errW_some] <;> rfl) | (simp [*, errW_none, errW_some] <;> rfl), by repeat (first | (with_reducible first | exact HB.out | apply below_alloc | apply pw_below_drewN | apply below_drew1) | exact HB.out)⟩
        · replace c16 := Bool.eq_false_iff.mpr c16
          subst c16
          have H1 : ((name_Compare.f kj5 a0 a1).bind fun t308 => ((name_Compare.f kj5 a1 a2).bind fun t309 => ((name_Compare.f kj5 a0 a2).bind fun t310 => (if t308 < (-1) then (nameplatelaw02_NameOrder.j1 kj5 a0 a1 a2 t308 true) else (if t308 > 1 then (nameplatelaw02_NameOrder.j1 kj5 a0 a1 a2 t308 true) else ((name_Compare.f kj5 a1 a0).bind fun t311 => (if t308 = (wrap64 (-t311)) then ((name_Same.f kj5 a0 a1).bind fun t312 => (if ((t308 == 0) != t312) = true then (nameplatelaw02_NameOrder.j1 kj5 a0 a1 a2 t308 true) else (if t308 ≤ 0 then (if t309 ≤ 0 then (if t310 > 0 then (nameplatelaw02_NameOrder.j1 kj5 a0 a1 a2 t308 true) else ((name_Under.f kj5 a0 a1).bind fun t313 => (if t313 = true then (nameplatelaw02_NameOrder.j1 kj5 a0 a1 a2 t308 (decide (t308 < 0))) else (nameplatelaw02_NameOrder.j1 kj5 a0 a1 a2 t308 false)))) else ((name_Under.f kj5 a0 a1).bind fun t314 => (if t314 = true then (nameplatelaw02_NameOrder.j1 kj5 a0 a1 a2 t308 (decide (t308 < 0))) else (nameplatelaw02_NameOrder.j1 kj5 a0 a1 a2 t308 false)))) else ((name_Under.f kj5 a0 a1).bind fun t315 => (if t315 = true then (nameplatelaw02_NameOrder.j1 kj5 a0 a1 a2 t308 (decide (t308 < 0))) else (nameplatelaw02_NameOrder.j1 kj5 a0 a1 a2 t308 false)))))) else (nameplatelaw02_NameOrder.j1 kj5 a0 a1 a2 t308 true)))))))) = some r := by rw [if_neg (show ¬ (false = true) by decide)] at H; exact H
          clear H
          have H := H1
          clear H1
          replace H := Option.bind_eq_some_iff.mp H
          obtain ⟨t308, A170, H⟩ := H
          replace H : ((name_Compare.f kj5 a1 a2).bind fun t309 => ((name_Compare.f kj5 a0 a2).bind fun t310 => (if t308 < (-1) then (nameplatelaw02_NameOrder.j1 kj5 a0 a1 a2 t308 true) else (if t308 > 1 then (nameplatelaw02_NameOrder.j1 kj5 a0 a1 a2 t308 true) else ((name_Compare.f kj5 a1 a0).bind fun t311 => (if t308 = (wrap64 (-t311)) then ((name_Same.f kj5 a0 a1).bind fun t312 => (if ((t308 == 0) != t312) = true then (nameplatelaw02_NameOrder.j1 kj5 a0 a1 a2 t308 true) else (if t308 ≤ 0 then (if t309 ≤ 0 then (if t310 > 0 then (nameplatelaw02_NameOrder.j1 kj5 a0 a1 a2 t308 true) else ((name_Under.f kj5 a0 a1).bind fun t313 => (if t313 = true then (nameplatelaw02_NameOrder.j1 kj5 a0 a1 a2 t308 (decide (t308 < 0))) else (nameplatelaw02_NameOrder.j1 kj5 a0 a1 a2 t308 false)))) else ((name_Under.f kj5 a0 a1).bind fun t314 => (if t314 = true then (nameplatelaw02_NameOrder.j1 kj5 a0 a1 a2 t308 (decide (t308 < 0))) else (nameplatelaw02_NameOrder.j1 kj5 a0 a1 a2 t308 false)))) else ((name_Under.f kj5 a0 a1).bind fun t315 => (if t315 = true then (nameplatelaw02_NameOrder.j1 kj5 a0 a1 a2 t308 (decide (t308 < 0))) else (nameplatelaw02_NameOrder.j1 kj5 a0 a1 a2 t308 false)))))) else (nameplatelaw02_NameOrder.j1 kj5 a0 a1 a2 t308 true))))))) = some r := H
          have A17 := Aside0.mk A170
          clear A170
          replace H := Option.bind_eq_some_iff.mp H
          obtain ⟨t309, A180, H⟩ := H
          replace H : ((name_Compare.f kj5 a0 a2).bind fun t310 => (if t308 < (-1) then (nameplatelaw02_NameOrder.j1 kj5 a0 a1 a2 t308 true) else (if t308 > 1 then (nameplatelaw02_NameOrder.j1 kj5 a0 a1 a2 t308 true) else ((name_Compare.f kj5 a1 a0).bind fun t311 => (if t308 = (wrap64 (-t311)) then ((name_Same.f kj5 a0 a1).bind fun t312 => (if ((t308 == 0) != t312) = true then (nameplatelaw02_NameOrder.j1 kj5 a0 a1 a2 t308 true) else (if t308 ≤ 0 then (if t309 ≤ 0 then (if t310 > 0 then (nameplatelaw02_NameOrder.j1 kj5 a0 a1 a2 t308 true) else ((name_Under.f kj5 a0 a1).bind fun t313 => (if t313 = true then (nameplatelaw02_NameOrder.j1 kj5 a0 a1 a2 t308 (decide (t308 < 0))) else (nameplatelaw02_NameOrder.j1 kj5 a0 a1 a2 t308 false)))) else ((name_Under.f kj5 a0 a1).bind fun t314 => (if t314 = true then (nameplatelaw02_NameOrder.j1 kj5 a0 a1 a2 t308 (decide (t308 < 0))) else (nameplatelaw02_NameOrder.j1 kj5 a0 a1 a2 t308 false)))) else ((name_Under.f kj5 a0 a1).bind fun t315 => (if t315 = true then (nameplatelaw02_NameOrder.j1 kj5 a0 a1 a2 t308 (decide (t308 < 0))) else (nameplatelaw02_NameOrder.j1 kj5 a0 a1 a2 t308 false)))))) else (nameplatelaw02_NameOrder.j1 kj5 a0 a1 a2 t308 true)))))) = some r := H
          have A18 := Aside0.mk A180
          clear A180
          replace H := Option.bind_eq_some_iff.mp H
          obtain ⟨t310, A190, H⟩ := H
          replace H : (if t308 < (-1) then (nameplatelaw02_NameOrder.j1 kj5 a0 a1 a2 t308 true) else (if t308 > 1 then (nameplatelaw02_NameOrder.j1 kj5 a0 a1 a2 t308 true) else ((name_Compare.f kj5 a1 a0).bind fun t311 => (if t308 = (wrap64 (-t311)) then ((name_Same.f kj5 a0 a1).bind fun t312 => (if ((t308 == 0) != t312) = true then (nameplatelaw02_NameOrder.j1 kj5 a0 a1 a2 t308 true) else (if t308 ≤ 0 then (if t309 ≤ 0 then (if t310 > 0 then (nameplatelaw02_NameOrder.j1 kj5 a0 a1 a2 t308 true) else ((name_Under.f kj5 a0 a1).bind fun t313 => (if t313 = true then (nameplatelaw02_NameOrder.j1 kj5 a0 a1 a2 t308 (decide (t308 < 0))) else (nameplatelaw02_NameOrder.j1 kj5 a0 a1 a2 t308 false)))) else ((name_Under.f kj5 a0 a1).bind fun t314 => (if t314 = true then (nameplatelaw02_NameOrder.j1 kj5 a0 a1 a2 t308 (decide (t308 < 0))) else (nameplatelaw02_NameOrder.j1 kj5 a0 a1 a2 t308 false)))) else ((name_Under.f kj5 a0 a1).bind fun t315 => (if t315 = true then (nameplatelaw02_NameOrder.j1 kj5 a0 a1 a2 t308 (decide (t308 < 0))) else (nameplatelaw02_NameOrder.j1 kj5 a0 a1 a2 t308 false)))))) else (nameplatelaw02_NameOrder.j1 kj5 a0 a1 a2 t308 true))))) = some r := H
          have A19 := Aside0.mk A190
          clear A190
          have HC20 := Aside0.mk H
          clear H
          go_upto_region 6 with (first | ((with_reducible refine gate_callee (f := 23) rfl ?_); refine goesL_ (some 43) rfl rfl Try.func23 (by kernel_rfl) rfl #[.string a0, .string a1] rfl (by (try simp only [List.map_toArray, List.map_cons, List.map_nil]); first | done | rfl | (simp only [List.length_drop, List.length_take]; rfl)) ?_; (with_reducible refine (name_Compare.calls kj5 a0 a1 t308 _ A17.out).mono ?_); rintro e w21 ⟨rfl, hb⟩; refine ⟨_, rfl, ?_⟩; have n0_ := Aside0.mk (below_step (by repeat (first | (with_reducible first | exact HB.out | apply below_alloc | apply pw_below_drewN | apply below_drew1) | exact HB.out)) hb); clear HB; have HB := n0_; clear n0_; (try clear hb); (try clear hb2); (try clear hk); (try clear hi)) | ((with_reducible refine gate_callee (f := 23) rfl ?_); refine goesL_ (some 46) rfl rfl Try.func23 (by kernel_rfl) rfl #[.string a1, .string a2] rfl (by (try simp only [List.map_toArray, List.map_cons, List.map_nil]); first | done | rfl | (simp only [List.length_drop, List.length_take]; rfl)) ?_; (with_reducible refine (name_Compare.calls kj5 a1 a2 t309 _ A18.out).mono ?_); rintro e w22 ⟨rfl, hb⟩; refine ⟨_, rfl, ?_⟩; have n0_ := Aside0.mk (below_step (by repeat (first | (with_reducible first | exact HB.out | apply below_alloc | apply pw_below_drewN | apply below_drew1) | exact HB.out)) hb); clear HB; have HB := n0_; clear n0_; (try clear hb); (try clear hb2); (try clear hk); (try clear hi)) | ((with_reducible refine gate_callee (f := 23) rfl ?_); refine goesL_ (some 49) rfl rfl Try.func23 (by kernel_rfl) rfl #[.string a0, .string a2] rfl (by (try simp only [List.map_toArray, List.map_cons, List.map_nil]); first | done | rfl | (simp only [List.length_drop, List.length_take]; rfl)) ?_; (with_reducible refine (name_Compare.calls kj5 a0 a2 t310 _ A19.out).mono ?_); rintro e w23 ⟨rfl, hb⟩; refine ⟨_, rfl, ?_⟩; have n0_ := Aside0.mk (below_step (by repeat (first | (with_reducible first | exact HB.out | apply below_alloc | apply pw_below_drewN | apply below_drew1) | exact HB.out)) hb); clear HB; have HB := n0_; clear n0_; (try clear hb); (try clear hb2); (try clear hk); (try clear hi)))
          (try simp only [Act.put, List.setIfInBounds_toArray, List.set_cons_zero, List.set_cons_succ])
          go_cut [92] (fun v92 wc => ∃ (kq : Nat) (x92_19 : Bool), v92 = .bool x92_19 ∧ Aside0 (nameplatelaw02_NameOrder.j1 kq a0 a1 a2 t308 x92_19 = some r) ∧ Aside0 (kq ≤ kj5) ∧ Aside0 (Below w.heap.size w wc))
          case first =>
            have H := HC20.out
            clear HC20
            by_cases c24 : t308 < (-1)
            · rw [if_pos c24] at H
              have c24b0 : decide (t308 < (-1)) = true := decide_eq_true c24
              clear c24
              (first | rw [c24b0] | (simp only [i64_w, i32_w]; rw [c24b0]) | skip)
              have H' := Aside0.mk H
              clear H
              go_wp2
              go_meet
              case rel => exact ⟨_, (true), (by first | rfl | (simp; done) | (simp [*]; done)), H', ⟨by have := HJ5.out; first | omega | exact Nat.le_refl _⟩, ⟨by repeat (first | (with_reducible first | exact HB.out | apply below_alloc | apply pw_below_drewN | apply below_drew1) | exact HB.out)⟩⟩
            · rw [if_neg c24] at H
              have c24b0 : decide (t308 < (-1)) = false := decide_eq_false c24
              clear c24
              (first | rw [c24b0] | (simp only [i64_w, i32_w]; rw [c24b0]) | skip)
              by_cases c25 : t308 > 1
              · rw [if_pos c25] at H
                have c25b0 : decide (1 < t308) = true := decide_eq_true c25
                clear c25
                have H' := Aside0.mk H
                clear H
                go_wp2
                go_meet
                case rel => exact ⟨_, (true), (by first | rfl | (simp; done) | (simp [*]; done)), H', ⟨by have := HJ5.out; first | omega | exact Nat.le_refl _⟩, ⟨by repeat (first | (with_reducible first | exact HB.out | apply below_alloc | apply pw_below_drewN | apply below_drew1) | exact HB.out)⟩⟩
              · rw [if_neg c25] at H
                have c25b0 : decide (1 < t308) = false := decide_eq_false c25
                clear c25
                replace H := Option.bind_eq_some_iff.mp H
                obtain ⟨t311, A260, H⟩ := H
                replace H : (if t308 = (wrap64 (-t311)) then ((name_Same.f kj5 a0 a1).bind fun t312 => (if ((t308 == 0) != t312) = true then (nameplatelaw02_NameOrder.j1 kj5 a0 a1 a2 t308 true) else (if t308 ≤ 0 then (if t309 ≤ 0 then (if t310 > 0 then (nameplatelaw02_NameOrder.j1 kj5 a0 a1 a2 t308 true) else ((name_Under.f kj5 a0 a1).bind fun t313 => (if t313 = true then (nameplatelaw02_NameOrder.j1 kj5 a0 a1 a2 t308 (decide (t308 < 0))) else (nameplatelaw02_NameOrder.j1 kj5 a0 a1 a2 t308 false)))) else ((name_Under.f kj5 a0 a1).bind fun t314 => (if t314 = true then (nameplatelaw02_NameOrder.j1 kj5 a0 a1 a2 t308 (decide (t308 < 0))) else (nameplatelaw02_NameOrder.j1 kj5 a0 a1 a2 t308 false)))) else ((name_Under.f kj5 a0 a1).bind fun t315 => (if t315 = true then (nameplatelaw02_NameOrder.j1 kj5 a0 a1 a2 t308 (decide (t308 < 0))) else (nameplatelaw02_NameOrder.j1 kj5 a0 a1 a2 t308 false)))))) else (nameplatelaw02_NameOrder.j1 kj5 a0 a1 a2 t308 true)) = some r := H
                have A26 := Aside0.mk A260
                clear A260
                by_cases c27 : t308 = (wrap64 (-t311))
                · rw [if_pos c27] at H
                  have c27b0 : (t308 == (wrap64 (-t311))) = true := beq_iff_eq.mpr c27
                  have c27b1 : (t308 != (wrap64 (-t311))) = false := bne_eq_false_iff_eq.mpr c27
                  clear c27
                  replace H := Option.bind_eq_some_iff.mp H
                  obtain ⟨t312, A280, H⟩ := H
                  replace H : (if ((t308 == 0) != t312) = true then (nameplatelaw02_NameOrder.j1 kj5 a0 a1 a2 t308 true) else (if t308 ≤ 0 then (if t309 ≤ 0 then (if t310 > 0 then (nameplatelaw02_NameOrder.j1 kj5 a0 a1 a2 t308 true) else ((name_Under.f kj5 a0 a1).bind fun t313 => (if t313 = true then (nameplatelaw02_NameOrder.j1 kj5 a0 a1 a2 t308 (decide (t308 < 0))) else (nameplatelaw02_NameOrder.j1 kj5 a0 a1 a2 t308 false)))) else ((name_Under.f kj5 a0 a1).bind fun t314 => (if t314 = true then (nameplatelaw02_NameOrder.j1 kj5 a0 a1 a2 t308 (decide (t308 < 0))) else (nameplatelaw02_NameOrder.j1 kj5 a0 a1 a2 t308 false)))) else ((name_Under.f kj5 a0 a1).bind fun t315 => (if t315 = true then (nameplatelaw02_NameOrder.j1 kj5 a0 a1 a2 t308 (decide (t308 < 0))) else (nameplatelaw02_NameOrder.j1 kj5 a0 a1 a2 t308 false))))) = some r := H
                  have A28 := Aside0.mk A280
                  clear A280
                  by_cases c29 : ((t308 == 0) != t312) = true
                  · rw [if_pos c29] at H
                    have c29b0 : ((t308 == 0) != t312) = true := c29
                    (try (have c29b1 : decide ((t308 == 0) = t312) = false := by simpa using c29))
                    (try (have c29b2 : ((t308 == 0) == t312) = false := by simpa using c29))
                    (try (have c29b3 : ¬ ((t308 == 0) = t312) := by simpa using c29))
                    clear c29
                    have H' := Aside0.mk H
                    clear H
                    go_wp2_with (first | (go_at_call 23; (with_reducible refine (name_Compare.calls kj5 a1 a0 t311 _ A26.out).mono ?_); rintro e w30 ⟨rfl, hb⟩; have n0_ := Aside0.mk (below_step (by repeat (first | (with_reducible first | exact HB.out | apply below_alloc | apply pw_below_drewN | apply below_drew1) | exact HB.out)) hb); clear HB; have HB := n0_; clear n0_; (try clear hb); (try clear hb2); (try clear hk); (try clear hi)) | (go_at_call 19; (with_reducible refine (name_Same.calls kj5 a0 a1 t312 _ A28.out).mono ?_); rintro e w31 ⟨rfl, hb⟩; have n0_ := Aside0.mk (below_step (by repeat (first | (with_reducible first | exact HB.out | apply below_alloc | apply pw_below_drewN | apply below_drew1) | exact HB.out)) hb); clear HB; have HB := n0_; clear n0_; (try clear hb); (try clear hb2); (try clear hk); (try clear hi)))
                    go_meet
                    case rel => exact ⟨_, (true), (by first | rfl | (simp; done) | (simp [*]; done)), H', ⟨by have := HJ5.out; first | omega | exact Nat.le_refl _⟩, ⟨by repeat (first | (with_reducible first | exact HB.out | apply below_alloc | apply pw_below_drewN | apply below_drew1) | exact HB.out)⟩⟩
                  · rw [if_neg c29] at H
                    have c29b0 : ((t308 == 0) != t312) = false := by simpa using c29
                    (try (have c29b1 : decide ((t308 == 0) = t312) = true := by simpa using c29))
                    (try (have c29b2 : ((t308 == 0) == t312) = true := by simpa using c29))
                    clear c29
                    by_cases c32 : t308 ≤ 0
                    · rw [if_pos c32] at H
                      have c32b0 : decide (t308 ≤ 0) = true := decide_eq_true c32
                      clear c32
                      by_cases c33 : t309 ≤ 0
                      · rw [if_pos c33] at H
                        have c33b0 : decide (t309 ≤ 0) = true := decide_eq_true c33
                        clear c33
                        by_cases c34 : t310 > 0
                        · rw [if_pos c34] at H
                          have c34b0 : decide (0 < t310) = true := decide_eq_true c34
                          clear c34
                          have H' := Aside0.mk H
                          clear H
                          go_wp2_with (first | (go_at_call 23; (with_reducible refine (name_Compare.calls kj5 a1 a0 t311 _ A26.out).mono ?_); rintro e w35 ⟨rfl, hb⟩; have n0_ := Aside0.mk (below_step (by repeat (first | (with_reducible first | exact HB.out | apply below_alloc | apply pw_below_drewN | apply below_drew1) | exact HB.out)) hb); clear HB; have HB := n0_; clear n0_; (try clear hb); (try clear hb2); (try clear hk); (try clear hi)) | (go_at_call 19; (with_reducible refine (name_Same.calls kj5 a0 a1 t312 _ A28.out).mono ?_); rintro e w36 ⟨rfl, hb⟩; have n0_ := Aside0.mk (below_step (by repeat (first | (with_reducible first | exact HB.out | apply below_alloc | apply pw_below_drewN | apply below_drew1) | exact HB.out)) hb); clear HB; have HB := n0_; clear n0_; (try clear hb); (try clear hb2); (try clear hk); (try clear hi)))
                          go_meet
                          case rel => exact ⟨_, (true), (by first | rfl | (simp; done) | (simp [*]; done)), H', ⟨by have := HJ5.out; first | omega | exact Nat.le_refl _⟩, ⟨by repeat (first | (with_reducible first | exact HB.out | apply below_alloc | apply pw_below_drewN | apply below_drew1) | exact HB.out)⟩⟩
                        · rw [if_neg c34] at H
                          have c34b0 : decide (0 < t310) = false := decide_eq_false c34
                          clear c34
                          replace H := Option.bind_eq_some_iff.mp H
                          obtain ⟨t313, A370, H⟩ := H
                          replace H : (if t313 = true then (nameplatelaw02_NameOrder.j1 kj5 a0 a1 a2 t308 (decide (t308 < 0))) else (nameplatelaw02_NameOrder.j1 kj5 a0 a1 a2 t308 false)) = some r := H
                          have A37 := Aside0.mk A370
                          clear A370
                          by_cases c38 : t313 = true
                          · subst c38
                            have H1 : (nameplatelaw02_NameOrder.j1 kj5 a0 a1 a2 t308 (decide (t308 < 0))) = some r := by rw [if_pos rfl] at H; exact H
                            clear H
                            have H := H1
                            clear H1
                            have H' := Aside0.mk H
                            clear H
                            go_wp2_with (first | (go_at_call 23; (with_reducible refine (name_Compare.calls kj5 a1 a0 t311 _ A26.out).mono ?_); rintro e w39 ⟨rfl, hb⟩; have n0_ := Aside0.mk (below_step (by repeat (first | (with_reducible first | exact HB.out | apply below_alloc | apply pw_below_drewN | apply below_drew1) | exact HB.out)) hb); clear HB; have HB := n0_; clear n0_; (try clear hb); (try clear hb2); (try clear hk); (try clear hi)) | (go_at_call 19; (with_reducible refine (name_Same.calls kj5 a0 a1 t312 _ A28.out).mono ?_); rintro e w40 ⟨rfl, hb⟩; have n0_ := Aside0.mk (below_step (by repeat (first | (with_reducible first | exact HB.out | apply below_alloc | apply pw_below_drewN | apply below_drew1) | exact HB.out)) hb); clear HB; have HB := n0_; clear n0_; (try clear hb); (try clear hb2); (try clear hk); (try clear hi)) | (go_at_call 16; (with_reducible refine (name_Under.calls kj5 a0 a1 true _ A37.out).mono ?_); rintro e w41 ⟨rfl, hb⟩; have n0_ := Aside0.mk (below_step (by repeat (first | (with_reducible first | exact HB.out | apply below_alloc | apply pw_below_drewN | apply below_drew1) | exact HB.out)) hb); clear HB; have HB := n0_; clear n0_; (try clear hb); (try clear hb2); (try clear hk); (try clear hi)))
                            go_meet
                            case rel => exact ⟨_, (decide (t308 < 0)), (by first | rfl | (simp; done) | (simp [*]; done)), H', ⟨by have := HJ5.out; first | omega | exact Nat.le_refl _⟩, ⟨by repeat (first | (with_reducible first | exact HB.out | apply below_alloc | apply pw_below_drewN | apply below_drew1) | exact HB.out)⟩⟩
                          · replace c38 := Bool.eq_false_iff.mpr c38
                            subst c38
                            have H1 : (nameplatelaw02_NameOrder.j1 kj5 a0 a1 a2 t308 false) = some r := by rw [if_neg (show ¬ (false = true) by decide)] at H; exact H
                            clear H
                            have H := H1
                            clear H1
                            have H' := Aside0.mk H
                            clear H
                            go_wp2_with (first | (go_at_call 23; (with_reducible refine (name_Compare.calls kj5 a1 a0 t311 _ A26.out).mono ?_); rintro e w42 ⟨rfl, hb⟩; have n0_ := Aside0.mk (below_step (by repeat (first | (with_reducible first | exact HB.out | apply below_alloc | apply pw_below_drewN | apply below_drew1) | exact HB.out)) hb); clear HB; have HB := n0_; clear n0_; (try clear hb); (try clear hb2); (try clear hk); (try clear hi)) | (go_at_call 19; (with_reducible refine (name_Same.calls kj5 a0 a1 t312 _ A28.out).mono ?_); rintro e w43 ⟨rfl, hb⟩; have n0_ := Aside0.mk (below_step (by repeat (first | (with_reducible first | exact HB.out | apply below_alloc | apply pw_below_drewN | apply below_drew1) | exact HB.out)) hb); clear HB; have HB := n0_; clear n0_; (try clear hb); (try clear hb2); (try clear hk); (try clear hi)) | (go_at_call 16; (with_reducible refine (name_Under.calls kj5 a0 a1 false _ A37.out).mono ?_); rintro e w44 ⟨rfl, hb⟩; have n0_ := Aside0.mk (below_step (by repeat (first | (with_reducible first | exact HB.out | apply below_alloc | apply pw_below_drewN | apply below_drew1) | exact HB.out)) hb); clear HB; have HB := n0_; clear n0_; (try clear hb); (try clear hb2); (try clear hk); (try clear hi)))
                            go_meet
                            case rel => exact ⟨_, (false), (by first | rfl | (simp; done) | (simp [*]; done)), H', ⟨by have := HJ5.out; first | omega | exact Nat.le_refl _⟩, ⟨by repeat (first | (with_reducible first | exact HB.out | apply below_alloc | apply pw_below_drewN | apply below_drew1) | exact HB.out)⟩⟩
                      · rw [if_neg c33] at H
                        have c33b0 : decide (t309 ≤ 0) = false := decide_eq_false c33
                        clear c33
                        replace H := Option.bind_eq_some_iff.mp H
                        obtain ⟨t314, A450, H⟩ := H
                        replace H : (if t314 = true then (nameplatelaw02_NameOrder.j1 kj5 a0 a1 a2 t308 (decide (t308 < 0))) else (nameplatelaw02_NameOrder.j1 kj5 a0 a1 a2 t308 false)) = some r := H
                        have A45 := Aside0.mk A450
                        clear A450
                        by_cases c46 : t314 = true
                        · subst c46
                          have H1 : (nameplatelaw02_NameOrder.j1 kj5 a0 a1 a2 t308 (decide (t308 < 0))) = some r := by rw [if_pos rfl] at H; exact H
                          clear H
                          have H := H1
                          clear H1
                          have H' := Aside0.mk H
                          clear H
                          go_wp2_with (first | (go_at_call 23; (with_reducible refine (name_Compare.calls kj5 a1 a0 t311 _ A26.out).mono ?_); rintro e w47 ⟨rfl, hb⟩; have n0_ := Aside0.mk (below_step (by repeat (first | (with_reducible first | exact HB.out | apply below_alloc | apply pw_below_drewN | apply below_drew1) | exact HB.out)) hb); clear HB; have HB := n0_; clear n0_; (try clear hb); (try clear hb2); (try clear hk); (try clear hi)) | (go_at_call 19; (with_reducible refine (name_Same.calls kj5 a0 a1 t312 _ A28.out).mono ?_); rintro e w48 ⟨rfl, hb⟩; have n0_ := Aside0.mk (below_step (by repeat (first | (with_reducible first | exact HB.out | apply below_alloc | apply pw_below_drewN | apply below_drew1) | exact HB.out)) hb); clear HB; have HB := n0_; clear n0_; (try clear hb); (try clear hb2); (try clear hk); (try clear hi)) | (go_at_call 16; (with_reducible refine (name_Under.calls kj5 a0 a1 true _ A45.out).mono ?_); rintro e w49 ⟨rfl, hb⟩; have n0_ := Aside0.mk (below_step (by repeat (first | (with_reducible first | exact HB.out | apply below_alloc | apply pw_below_drewN | apply below_drew1) | exact HB.out)) hb); clear HB; have HB := n0_; clear n0_; (try clear hb); (try clear hb2); (try clear hk); (try clear hi)))
                          go_meet
                          case rel => exact ⟨_, (decide (t308 < 0)), (by first | rfl | (simp; done) | (simp [*]; done)), H', ⟨by have := HJ5.out; first | omega | exact Nat.le_refl _⟩, ⟨by repeat (first | (with_reducible first | exact HB.out | apply below_alloc | apply pw_below_drewN | apply below_drew1) | exact HB.out)⟩⟩
                        · replace c46 := Bool.eq_false_iff.mpr c46
                          subst c46
                          have H1 : (nameplatelaw02_NameOrder.j1 kj5 a0 a1 a2 t308 false) = some r := by rw [if_neg (show ¬ (false = true) by decide)] at H; exact H
                          clear H
                          have H := H1
                          clear H1
                          have H' := Aside0.mk H
                          clear H
                          go_wp2_with (first | (go_at_call 23; (with_reducible refine (name_Compare.calls kj5 a1 a0 t311 _ A26.out).mono ?_); rintro e w50 ⟨rfl, hb⟩; have n0_ := Aside0.mk (below_step (by repeat (first | (with_reducible first | exact HB.out | apply below_alloc | apply pw_below_drewN | apply below_drew1) | exact HB.out)) hb); clear HB; have HB := n0_; clear n0_; (try clear hb); (try clear hb2); (try clear hk); (try clear hi)) | (go_at_call 19; (with_reducible refine (name_Same.calls kj5 a0 a1 t312 _ A28.out).mono ?_); rintro e w51 ⟨rfl, hb⟩; have n0_ := Aside0.mk (below_step (by repeat (first | (with_reducible first | exact HB.out | apply below_alloc | apply pw_below_drewN | apply below_drew1) | exact HB.out)) hb); clear HB; have HB := n0_; clear n0_; (try clear hb); (try clear hb2); (try clear hk); (try clear hi)) | (go_at_call 16; (with_reducible refine (name_Under.calls kj5 a0 a1 false _ A45.out).mono ?_); rintro e w52 ⟨rfl, hb⟩; have n0_ := Aside0.mk (below_step (by repeat (first | (with_reducible first | exact HB.out | apply below_alloc | apply pw_below_drewN | apply below_drew1) | exact HB.out)) hb); clear HB; have HB := n0_; clear n0_; (try clear hb); (try clear hb2); (try clear hk); (try clear hi)))
                          go_meet
                          case rel => exact ⟨_, (false), (by first | rfl | (simp; done) | (simp [*]; done)), H', ⟨by have := HJ5.out; first | omega | exact Nat.le_refl _⟩, ⟨by repeat (first | (with_reducible first | exact HB.out | apply below_alloc | apply pw_below_drewN | apply below_drew1) | exact HB.out)⟩⟩
                    · rw [if_neg c32] at H
                      have c32b0 : decide (t308 ≤ 0) = false := decide_eq_false c32
                      clear c32
                      replace H := Option.bind_eq_some_iff.mp H
                      obtain ⟨t315, A530, H⟩ := H
                      replace H : (if t315 = true then (nameplatelaw02_NameOrder.j1 kj5 a0 a1 a2 t308 (decide (t308 < 0))) else (nameplatelaw02_NameOrder.j1 kj5 a0 a1 a2 t308 false)) = some r := H
                      have A53 := Aside0.mk A530
                      clear A530
                      by_cases c54 : t315 = true
                      · subst c54
                        have H1 : (nameplatelaw02_NameOrder.j1 kj5 a0 a1 a2 t308 (decide (t308 < 0))) = some r := by rw [if_pos rfl] at H; exact H
                        clear H
                        have H := H1
                        clear H1
                        have H' := Aside0.mk H
                        clear H
                        go_wp2_with (first | (go_at_call 23; (with_reducible refine (name_Compare.calls kj5 a1 a0 t311 _ A26.out).mono ?_); rintro e w55 ⟨rfl, hb⟩; have n0_ := Aside0.mk (below_step (by repeat (first | (with_reducible first | exact HB.out | apply below_alloc | apply pw_below_drewN | apply below_drew1) | exact HB.out)) hb); clear HB; have HB := n0_; clear n0_; (try clear hb); (try clear hb2); (try clear hk); (try clear hi)) | (go_at_call 19; (with_reducible refine (name_Same.calls kj5 a0 a1 t312 _ A28.out).mono ?_); rintro e w56 ⟨rfl, hb⟩; have n0_ := Aside0.mk (below_step (by repeat (first | (with_reducible first | exact HB.out | apply below_alloc | apply pw_below_drewN | apply below_drew1) | exact HB.out)) hb); clear HB; have HB := n0_; clear n0_; (try clear hb); (try clear hb2); (try clear hk); (try clear hi)) | (go_at_call 16; (with_reducible refine (name_Under.calls kj5 a0 a1 true _ A53.out).mono ?_); rintro e w57 ⟨rfl, hb⟩; have n0_ := Aside0.mk (below_step (by repeat (first | (with_reducible first | exact HB.out | apply below_alloc | apply pw_below_drewN | apply below_drew1) | exact HB.out)) hb); clear HB; have HB := n0_; clear n0_; (try clear hb); (try clear hb2); (try clear hk); (try clear hi)))
                        go_meet
                        case rel => exact ⟨_, (decide (t308 < 0)), (by first | rfl | (simp; done) | (simp [*]; done)), H', ⟨by have := HJ5.out; first | omega | exact Nat.le_refl _⟩, ⟨by repeat (first | (with_reducible first | exact HB.out | apply below_alloc | apply pw_below_drewN | apply below_drew1) | exact HB.out)⟩⟩
                      · replace c54 := Bool.eq_false_iff.mpr c54
                        subst c54
                        have H1 : (nameplatelaw02_NameOrder.j1 kj5 a0 a1 a2 t308 false) = some r := by rw [if_neg (show ¬ (false = true) by decide)] at H; exact H
                        clear H
                        have H := H1
                        clear H1
                        have H' := Aside0.mk H
                        clear H
                        go_wp2_with (first | (go_at_call 23; (with_reducible refine (name_Compare.calls kj5 a1 a0 t311 _ A26.out).mono ?_); rintro e w58 ⟨rfl, hb⟩; have n0_ := Aside0.mk (below_step (by repeat (first | (with_reducible first | exact HB.out | apply below_alloc | apply pw_below_drewN | apply below_drew1) | exact HB.out)) hb); clear HB; have HB := n0_; clear n0_; (try clear hb); (try clear hb2); (try clear hk); (try clear hi)) | (go_at_call 19; (with_reducible refine (name_Same.calls kj5 a0 a1 t312 _ A28.out).mono ?_); rintro e w59 ⟨rfl, hb⟩; have n0_ := Aside0.mk (below_step (by repeat (first | (with_reducible first | exact HB.out | apply below_alloc | apply pw_below_drewN | apply below_drew1) | exact HB.out)) hb); clear HB; have HB := n0_; clear n0_; (try clear hb); (try clear hb2); (try clear hk); (try clear hi)) | (go_at_call 16; (with_reducible refine (name_Under.calls kj5 a0 a1 false _ A53.out).mono ?_); rintro e w60 ⟨rfl, hb⟩; have n0_ := Aside0.mk (below_step (by repeat (first | (with_reducible first | exact HB.out | apply below_alloc | apply pw_below_drewN | apply below_drew1) | exact HB.out)) hb); clear HB; have HB := n0_; clear n0_; (try clear hb); (try clear hb2); (try clear hk); (try clear hi)))
                        go_meet
                        case rel => exact ⟨_, (false), (by first | rfl | (simp; done) | (simp [*]; done)), H', ⟨by have := HJ5.out; first | omega | exact Nat.le_refl _⟩, ⟨by repeat (first | (with_reducible first | exact HB.out | apply below_alloc | apply pw_below_drewN | apply below_drew1) | exact HB.out)⟩⟩
                · rw [if_neg c27] at H
                  have c27b0 : (t308 == (wrap64 (-t311))) = false := beq_eq_false_iff_ne.mpr c27
                  have c27b1 : (t308 != (wrap64 (-t311))) = true := bne_iff_ne.mpr c27
                  have H' := Aside0.mk H
                  clear H
                  go_wp2_with (first | (go_at_call 23; (with_reducible refine (name_Compare.calls kj5 a1 a0 t311 _ A26.out).mono ?_); rintro e w61 ⟨rfl, hb⟩; have n0_ := Aside0.mk (below_step (by repeat (first | (with_reducible first | exact HB.out | apply below_alloc | apply pw_below_drewN | apply below_drew1) | exact HB.out)) hb); clear HB; have HB := n0_; clear n0_; (try clear hb); (try clear hb2); (try clear hk); (try clear hi)))
                  go_meet
                  case rel => exact ⟨_, (true), (by first | rfl | (simp; done) | (simp [*]; done)), H', ⟨by have := HJ5.out; first | omega | exact Nat.le_refl _⟩, ⟨by repeat (first | (with_reducible first | exact HB.out | apply below_alloc | apply pw_below_drewN | apply below_drew1) | exact HB.out)⟩⟩
          case rest =>
            clear HC20
            try clear c1
            try clear c2
            try clear p2
            try clear c3
            try clear c4
            try clear c5
            try clear p6
            try clear c8
            try clear c8b0
            try clear c8b1
            try clear c9
            try clear c9b0
            try clear c9b1
            try clear c10
            try clear c10b0
            try clear c10b1
            try clear c11
            try clear c12
            try clear c12b0
            try clear c12b1
            try clear c14
            try clear c14b0
            try clear c14b1
            try clear c16
            try clear c23
            try clear c24
            try clear c24b0
            try clear c25
            try clear c25b0
            try clear c27
            try clear c27b0
            try clear c27b1
            try clear c29
            try clear c29b0
            try clear c29b1
            try clear c29b2
            try clear c32
            try clear c32b0
            try clear c33
            try clear c33b0
            try clear c34
            try clear c34b0
            try clear c38
            try clear c46
            try clear c54
            try clear p2
            obtain ⟨kq, x92_19, rfl, HA, HJ19, HB⟩ := hcut
            cases kq with
            | zero => exact absurd HA.out (by simp [nameplatelaw02_NameOrder.j1])
            | succ kj19 =>
              have H := HA.out
              clear HA
              simp only [nameplatelaw02_NameOrder.j1] at H
              by_cases c62 : x92_19 = true
              · subst c62
                have H1 : (some false) = some r := by rw [if_pos rfl] at H; exact H
                clear H
                have H := H1
                clear H1
                exact absurd ((Option.some.inj H).trans hr_.out) (by decide)
              · replace c62 := Bool.eq_false_iff.mpr c62
                subst c62
                have H1 : ((name_Fold.f kj19 a0).bind fun t316 => ((name_Compare.f kj19 t316 a1).bind fun t317 => (if t317 = t308 then ((name_Same.f kj19 t316 a0).bind fun t318 => (if t318 = true then ((name_Fold.f kj19 t316).bind fun t319 => (if t319.toList = t316.toList then ((name_Under.f kj19 t316 a1).bind fun t320 => ((name_Under.f kj19 a0 a1).bind fun t321 => (if (t320 == t321) = true then ((name_Under.f kj19 a0 a1).bind fun t322 => (if t322 = true then ((name_Under.f kj19 a1 a2).bind fun t323 => (if t323 = true then ((name_Under.f kj19 a0 a2).bind fun t324 => (some t324)) else (some true))) else (some true))) else (some false)))) else (some false))) else (some false))) else (some false)))) = some r := by rw [if_neg (show ¬ (false = true) by decide)] at H; exact H
                clear H
                have H := H1
                clear H1
                replace H := Option.bind_eq_some_iff.mp H
                obtain ⟨t316, A630, H⟩ := H
                replace H : ((name_Compare.f kj19 t316 a1).bind fun t317 => (if t317 = t308 then ((name_Same.f kj19 t316 a0).bind fun t318 => (if t318 = true then ((name_Fold.f kj19 t316).bind fun t319 => (if t319.toList = t316.toList then ((name_Under.f kj19 t316 a1).bind fun t320 => ((name_Under.f kj19 a0 a1).bind fun t321 => (if (t320 == t321) = true then ((name_Under.f kj19 a0 a1).bind fun t322 => (if t322 = true then ((name_Under.f kj19 a1 a2).bind fun t323 => (if t323 = true then ((name_Under.f kj19 a0 a2).bind fun t324 => (some t324)) else (some true))) else (some true))) else (some false)))) else (some false))) else (some false))) else (some false))) = some r := H
                have A63 := Aside0.mk A630
                clear A630
                replace H := Option.bind_eq_some_iff.mp H
                obtain ⟨t317, A640, H⟩ := H
                replace H : (if t317 = t308 then ((name_Same.f kj19 t316 a0).bind fun t318 => (if t318 = true then ((name_Fold.f kj19 t316).bind fun t319 => (if t319.toList = t316.toList then ((name_Under.f kj19 t316 a1).bind fun t320 => ((name_Under.f kj19 a0 a1).bind fun t321 => (if (t320 == t321) = true then ((name_Under.f kj19 a0 a1).bind fun t322 => (if t322 = true then ((name_Under.f kj19 a1 a2).bind fun t323 => (if t323 = true then ((name_Under.f kj19 a0 a2).bind fun t324 => (some t324)) else (some true))) else (some true))) else (some false)))) else (some false))) else (some false))) else (some false)) = some r := H
                have A64 := Aside0.mk A640
                clear A640
                by_cases c65 : t317 = t308
                · rw [if_pos c65] at H
                  have c65b0 : (t317 == t308) = true := beq_iff_eq.mpr c65
                  have c65b1 : (t317 != t308) = false := bne_eq_false_iff_eq.mpr c65
                  clear c65
                  replace H := Option.bind_eq_some_iff.mp H
                  obtain ⟨t318, A660, H⟩ := H
                  replace H : (if t318 = true then ((name_Fold.f kj19 t316).bind fun t319 => (if t319.toList = t316.toList then ((name_Under.f kj19 t316 a1).bind fun t320 => ((name_Under.f kj19 a0 a1).bind fun t321 => (if (t320 == t321) = true then ((name_Under.f kj19 a0 a1).bind fun t322 => (if t322 = true then ((name_Under.f kj19 a1 a2).bind fun t323 => (if t323 = true then ((name_Under.f kj19 a0 a2).bind fun t324 => (some t324)) else (some true))) else (some true))) else (some false)))) else (some false))) else (some false)) = some r := H
                  have A66 := Aside0.mk A660
                  clear A660
                  by_cases c67 : t318 = true
                  · subst c67
                    have H1 : ((name_Fold.f kj19 t316).bind fun t319 => (if t319.toList = t316.toList then ((name_Under.f kj19 t316 a1).bind fun t320 => ((name_Under.f kj19 a0 a1).bind fun t321 => (if (t320 == t321) = true then ((name_Under.f kj19 a0 a1).bind fun t322 => (if t322 = true then ((name_Under.f kj19 a1 a2).bind fun t323 => (if t323 = true then ((name_Under.f kj19 a0 a2).bind fun t324 => (some t324)) else (some true))) else (some true))) else (some false)))) else (some false))) = some r := by rw [if_pos rfl] at H; exact H
                    clear H
                    have H := H1
                    clear H1
                    replace H := Option.bind_eq_some_iff.mp H
                    obtain ⟨t319, A680, H⟩ := H
                    replace H : (if t319.toList = t316.toList then ((name_Under.f kj19 t316 a1).bind fun t320 => ((name_Under.f kj19 a0 a1).bind fun t321 => (if (t320 == t321) = true then ((name_Under.f kj19 a0 a1).bind fun t322 => (if t322 = true then ((name_Under.f kj19 a1 a2).bind fun t323 => (if t323 = true then ((name_Under.f kj19 a0 a2).bind fun t324 => (some t324)) else (some true))) else (some true))) else (some false)))) else (some false)) = some r := H
                    have A68 := Aside0.mk A680
                    clear A680
                    by_cases c69 : t319.toList = t316.toList
                    · rw [if_pos c69] at H
                      have c69b0 : (t319.toList == t316.toList) = true := beq_iff_eq.mpr c69
                      have c69b1 : (t319.toList != t316.toList) = false := bne_eq_false_iff_eq.mpr c69
                      clear c69
                      replace H := Option.bind_eq_some_iff.mp H
                      obtain ⟨t320, A700, H⟩ := H
                      replace H : ((name_Under.f kj19 a0 a1).bind fun t321 => (if (t320 == t321) = true then ((name_Under.f kj19 a0 a1).bind fun t322 => (if t322 = true then ((name_Under.f kj19 a1 a2).bind fun t323 => (if t323 = true then ((name_Under.f kj19 a0 a2).bind fun t324 => (some t324)) else (some true))) else (some true))) else (some false))) = some r := H
                      have A70 := Aside0.mk A700
                      clear A700
                      replace H := Option.bind_eq_some_iff.mp H
                      obtain ⟨t321, A710, H⟩ := H
                      replace H : (if (t320 == t321) = true then ((name_Under.f kj19 a0 a1).bind fun t322 => (if t322 = true then ((name_Under.f kj19 a1 a2).bind fun t323 => (if t323 = true then ((name_Under.f kj19 a0 a2).bind fun t324 => (some t324)) else (some true))) else (some true))) else (some false)) = some r := H
                      have A71 := Aside0.mk A710
                      clear A710
                      by_cases c72 : (t320 == t321) = true
                      · rw [if_pos c72] at H
                        have c72b0 : (t320 == t321) = true := c72
                        (try (have c72b1 : decide (t320 = t321) = true := by simpa using c72))
                        (try (have c72b2 : (t320 == t321) = true := by simpa using c72))
                        clear c72
                        replace H := Option.bind_eq_some_iff.mp H
                        obtain ⟨t322, A730, H⟩ := H
                        replace H : (if t322 = true then ((name_Under.f kj19 a1 a2).bind fun t323 => (if t323 = true then ((name_Under.f kj19 a0 a2).bind fun t324 => (some t324)) else (some true))) else (some true)) = some r := H
                        have A73 := Aside0.mk A730
                        clear A730
                        by_cases c74 : t322 = true
                        · subst c74
                          have H1 : ((name_Under.f kj19 a1 a2).bind fun t323 => (if t323 = true then ((name_Under.f kj19 a0 a2).bind fun t324 => (some t324)) else (some true))) = some r := by rw [if_pos rfl] at H; exact H
                          clear H
                          have H := H1
                          clear H1
                          replace H := Option.bind_eq_some_iff.mp H
                          obtain ⟨t323, A750, H⟩ := H
                          replace H : (if t323 = true then ((name_Under.f kj19 a0 a2).bind fun t324 => (some t324)) else (some true)) = some r := H
                          have A75 := Aside0.mk A750
                          clear A750
                          by_cases c76 : t323 = true
                          · subst c76
                            have H1 : ((name_Under.f kj19 a0 a2).bind fun t324 => (some t324)) = some r := by rw [if_pos rfl] at H; exact H
                            clear H
                            have H := H1
                            clear H1
                            replace H := Option.bind_eq_some_iff.mp H
                            obtain ⟨t324, A770, H⟩ := H
                            replace H : (some t324) = some r := H
                            have A77 := Aside0.mk A770
                            clear A770
                            obtain rfl := Option.some.inj H
                            (try (have e_ : t321 = true := Option.some.inj (A71.out.symm.trans A73.out); subst e_))
                            go_wp2_with (first | ((with_reducible refine gate_callee (f := 13) rfl ?_); refine goesL_ (some 94) rfl rfl Try.func13 (by kernel_rfl) rfl #[.string a0] rfl (by (try simp only [List.map_toArray, List.map_cons, List.map_nil]); first | done | rfl | (simp only [List.length_drop, List.length_take]; rfl)) ?_; (with_reducible refine (name_Fold.calls kj19 a0 t316 _ A63.out).mono ?_); rintro e w78 ⟨rfl, hb⟩; refine ⟨_, rfl, ?_⟩; have n0_ := Aside0.mk (below_step (by repeat (first | (with_reducible first | exact HB.out | apply below_alloc | apply pw_below_drewN | apply below_drew1) | exact HB.out)) hb); clear HB; have HB := n0_; clear n0_; (try clear hb); (try clear hb2); (try clear hk); (try clear hi)) | ((with_reducible refine gate_callee (f := 23) rfl ?_); refine goesL_ (some 97) rfl rfl Try.func23 (by kernel_rfl) rfl #[.string t316, .string a1] rfl (by (try simp only [List.map_toArray, List.map_cons, List.map_nil]); first | done | rfl | (simp only [List.length_drop, List.length_take]; rfl)) ?_; (with_reducible refine (name_Compare.calls kj19 t316 a1 t317 _ A64.out).mono ?_); rintro e w79 ⟨rfl, hb⟩; refine ⟨_, rfl, ?_⟩; have n0_ := Aside0.mk (below_step (by repeat (first | (with_reducible first | exact HB.out | apply below_alloc | apply pw_below_drewN | apply below_drew1) | exact HB.out)) hb); clear HB; have HB := n0_; clear n0_; (try clear hb); (try clear hb2); (try clear hk); (try clear hi)) | (go_at_call 19; (with_reducible refine (name_Same.calls kj19 t316 a0 true _ A66.out).mono ?_); rintro e w80 ⟨rfl, hb⟩; have n0_ := Aside0.mk (below_step (by repeat (first | (with_reducible first | exact HB.out | apply below_alloc | apply pw_below_drewN | apply below_drew1) | exact HB.out)) hb); clear HB; have HB := n0_; clear n0_; (try clear hb); (try clear hb2); (try clear hk); (try clear hi)) | (go_at_call 13; (with_reducible refine (name_Fold.calls kj19 t316 t319 _ A68.out).mono ?_); rintro e w81 ⟨rfl, hb⟩; have n0_ := Aside0.mk (below_step (by repeat (first | (with_reducible first | exact HB.out | apply below_alloc | apply pw_below_drewN | apply below_drew1) | exact HB.out)) hb); clear HB; have HB := n0_; clear n0_; (try clear hb); (try clear hb2); (try clear hk); (try clear hi)) | (go_at_call 16; (with_reducible refine (name_Under.calls kj19 t316 a1 t320 _ A70.out).mono ?_); rintro e w82 ⟨rfl, hb⟩; have n0_ := Aside0.mk (below_step (by repeat (first | (with_reducible first | exact HB.out | apply below_alloc | apply pw_below_drewN | apply below_drew1) | exact HB.out)) hb); clear HB; have HB := n0_; clear n0_; (try clear hb); (try clear hb2); (try clear hk); (try clear hi)) | (go_at_call 16; (with_reducible refine (name_Under.calls kj19 a0 a1 t321 _ A71.out).mono ?_); rintro e w83 ⟨rfl, hb⟩; have n0_ := Aside0.mk (below_step (by repeat (first | (with_reducible first | exact HB.out | apply below_alloc | apply pw_below_drewN | apply below_drew1) | exact HB.out)) hb); clear HB; have HB := n0_; clear n0_; (try clear hb); (try clear hb2); (try clear hk); (try clear hi)) | (go_at_call 16; (with_reducible refine (name_Under.calls kj19 a0 a1 true _ A73.out).mono ?_); rintro e w84 ⟨rfl, hb⟩; have n0_ := Aside0.mk (below_step (by repeat (first | (with_reducible first | exact HB.out | apply below_alloc | apply pw_below_drewN | apply below_drew1) | exact HB.out)) hb); clear HB; have HB := n0_; clear n0_; (try clear hb); (try clear hb2); (try clear hk); (try clear hi)) | (go_at_call 16; (with_reducible refine (name_Under.calls kj19 a1 a2 true _ A75.out).mono ?_); rintro e w85 ⟨rfl, hb⟩; have n0_ := Aside0.mk (below_step (by repeat (first | (with_reducible first | exact HB.out | apply below_alloc | apply pw_below_drewN | apply below_drew1) | exact HB.out)) hb); clear HB; have HB := n0_; clear n0_; (try clear hb); (try clear hb2); (try clear hk); (try clear hi)) | (go_at_call 16; (with_reducible refine (name_Under.calls kj19 a0 a2 t324 _ A77.out).mono ?_); rintro e w86 ⟨rfl, hb⟩; have n0_ := Aside0.mk (below_step (by repeat (first | (with_reducible first | exact HB.out | apply below_alloc | apply pw_below_drewN | apply below_drew1) | exact HB.out)) hb); clear HB; have HB := n0_; clear n0_; (try clear hb); (try clear hb2); (try clear hk); (try clear hi)))
                            go_ret
                            exact ⟨by first | rfl | (simp [errW_none, errW_some] <;> rfl) | (simp [*, errW_none, errW_some] <;> rfl), by repeat (first | (with_reducible first | exact HB.out | apply below_alloc | apply pw_below_drewN | apply below_drew1) | exact HB.out)⟩
                          · replace c76 := Bool.eq_false_iff.mpr c76
                            subst c76
                            have H1 : (some true) = some r := by rw [if_neg (show ¬ (false = true) by decide)] at H; exact H
                            clear H
                            have H := H1
                            clear H1
                            obtain rfl := Option.some.inj H
                            (try (have e_ : t321 = true := Option.some.inj (A71.out.symm.trans A73.out); subst e_))
                            go_wp2_with (first | ((with_reducible refine gate_callee (f := 13) rfl ?_); refine goesL_ (some 94) rfl rfl Try.func13 (by kernel_rfl) rfl #[.string a0] rfl (by (try simp only [List.map_toArray, List.map_cons, List.map_nil]); first | done | rfl | (simp only [List.length_drop, List.length_take]; rfl)) ?_; (with_reducible refine (name_Fold.calls kj19 a0 t316 _ A63.out).mono ?_); rintro e w87 ⟨rfl, hb⟩; refine ⟨_, rfl, ?_⟩; have n0_ := Aside0.mk (below_step (by repeat (first | (with_reducible first | exact HB.out | apply below_alloc | apply pw_below_drewN | apply below_drew1) | exact HB.out)) hb); clear HB; have HB := n0_; clear n0_; (try clear hb); (try clear hb2); (try clear hk); (try clear hi)) | ((with_reducible refine gate_callee (f := 23) rfl ?_); refine goesL_ (some 97) rfl rfl Try.func23 (by kernel_rfl) rfl #[.string t316, .string a1] rfl (by (try simp only [List.map_toArray, List.map_cons, List.map_nil]); first | done | rfl | (simp only [List.length_drop, List.length_take]; rfl)) ?_; (with_reducible refine (name_Compare.calls kj19 t316 a1 t317 _ A64.out).mono ?_); rintro e w88 ⟨rfl, hb⟩; refine ⟨_, rfl, ?_⟩; have n0_ := Aside0.mk (below_step (by repeat (first | (with_reducible first | exact HB.out | apply below_alloc | apply pw_below_drewN | apply below_drew1) | exact HB.out)) hb); clear HB; have HB := n0_; clear n0_; (try clear hb); (try clear hb2); (try clear hk); (try clear hi)) | (go_at_call 19; (with_reducible refine (name_Same.calls kj19 t316 a0 true _ A66.out).mono ?_); rintro e w89 ⟨rfl, hb⟩; have n0_ := Aside0.mk (below_step (by repeat (first | (with_reducible first | exact HB.out | apply below_alloc | apply pw_below_drewN | apply below_drew1) | exact HB.out)) hb); clear HB; have HB := n0_; clear n0_; (try clear hb); (try clear hb2); (try clear hk); (try clear hi)) | (go_at_call 13; (with_reducible refine (name_Fold.calls kj19 t316 t319 _ A68.out).mono ?_); rintro e w90 ⟨rfl, hb⟩; have n0_ := Aside0.mk (below_step (by repeat (first | (with_reducible first | exact HB.out | apply below_alloc | apply pw_below_drewN | apply below_drew1) | exact HB.out)) hb); clear HB; have HB := n0_; clear n0_; (try clear hb); (try clear hb2); (try clear hk); (try clear hi)) | (go_at_call 16; (with_reducible refine (name_Under.calls kj19 t316 a1 t320 _ A70.out).mono ?_); rintro e w91 ⟨rfl, hb⟩; have n0_ := Aside0.mk (below_step (by repeat (first | (with_reducible first | exact HB.out | apply below_alloc | apply pw_below_drewN | apply below_drew1) | exact HB.out)) hb); clear HB; have HB := n0_; clear n0_; (try clear hb); (try clear hb2); (try clear hk); (try clear hi)) | (go_at_call 16; (with_reducible refine (name_Under.calls kj19 a0 a1 t321 _ A71.out).mono ?_); rintro e w92 ⟨rfl, hb⟩; have n0_ := Aside0.mk (below_step (by repeat (first | (with_reducible first | exact HB.out | apply below_alloc | apply pw_below_drewN | apply below_drew1) | exact HB.out)) hb); clear HB; have HB := n0_; clear n0_; (try clear hb); (try clear hb2); (try clear hk); (try clear hi)) | (go_at_call 16; (with_reducible refine (name_Under.calls kj19 a0 a1 true _ A73.out).mono ?_); rintro e w93 ⟨rfl, hb⟩; have n0_ := Aside0.mk (below_step (by repeat (first | (with_reducible first | exact HB.out | apply below_alloc | apply pw_below_drewN | apply below_drew1) | exact HB.out)) hb); clear HB; have HB := n0_; clear n0_; (try clear hb); (try clear hb2); (try clear hk); (try clear hi)) | (go_at_call 16; (with_reducible refine (name_Under.calls kj19 a1 a2 false _ A75.out).mono ?_); rintro e w94 ⟨rfl, hb⟩; have n0_ := Aside0.mk (below_step (by repeat (first | (with_reducible first | exact HB.out | apply below_alloc | apply pw_below_drewN | apply below_drew1) | exact HB.out)) hb); clear HB; have HB := n0_; clear n0_; (try clear hb); (try clear hb2); (try clear hk); (try clear hi)))
                            go_ret
                            exact ⟨by first | rfl | (simp [errW_none, errW_some] <;> rfl) | (simp [*, errW_none, errW_some] <;> rfl), by repeat (first | (with_reducible first | exact HB.out | apply below_alloc | apply pw_below_drewN | apply below_drew1) | exact HB.out)⟩
                        · replace c74 := Bool.eq_false_iff.mpr c74
                          subst c74
                          have H1 : (some true) = some r := by rw [if_neg (show ¬ (false = true) by decide)] at H; exact H
                          clear H
                          have H := H1
                          clear H1
                          obtain rfl := Option.some.inj H
                          (try (have e_ : t321 = false := Option.some.inj (A71.out.symm.trans A73.out); subst e_))
                          go_wp2_with (first | ((with_reducible refine gate_callee (f := 13) rfl ?_); refine goesL_ (some 94) rfl rfl Try.func13 (by kernel_rfl) rfl #[.string a0] rfl (by (try simp only [List.map_toArray, List.map_cons, List.map_nil]); first | done | rfl | (simp only [List.length_drop, List.length_take]; rfl)) ?_; (with_reducible refine (name_Fold.calls kj19 a0 t316 _ A63.out).mono ?_); rintro e w95 ⟨rfl, hb⟩; refine ⟨_, rfl, ?_⟩; have n0_ := Aside0.mk (below_step (by repeat (first | (with_reducible first | exact HB.out | apply below_alloc | apply pw_below_drewN | apply below_drew1) | exact HB.out)) hb); clear HB; have HB := n0_; clear n0_; (try clear hb); (try clear hb2); (try clear hk); (try clear hi)) | ((with_reducible refine gate_callee (f := 23) rfl ?_); refine goesL_ (some 97) rfl rfl Try.func23 (by kernel_rfl) rfl #[.string t316, .string a1] rfl (by (try simp only [List.map_toArray, List.map_cons, List.map_nil]); first | done | rfl | (simp only [List.length_drop, List.length_take]; rfl)) ?_; (with_reducible refine (name_Compare.calls kj19 t316 a1 t317 _ A64.out).mono ?_); rintro e w96 ⟨rfl, hb⟩; refine ⟨_, rfl, ?_⟩; have n0_ := Aside0.mk (below_step (by repeat (first | (with_reducible first | exact HB.out | apply below_alloc | apply pw_below_drewN | apply below_drew1) | exact HB.out)) hb); clear HB; have HB := n0_; clear n0_; (try clear hb); (try clear hb2); (try clear hk); (try clear hi)) | (go_at_call 19; (with_reducible refine (name_Same.calls kj19 t316 a0 true _ A66.out).mono ?_); rintro e w97 ⟨rfl, hb⟩; have n0_ := Aside0.mk (below_step (by repeat (first | (with_reducible first | exact HB.out | apply below_alloc | apply pw_below_drewN | apply below_drew1) | exact HB.out)) hb); clear HB; have HB := n0_; clear n0_; (try clear hb); (try clear hb2); (try clear hk); (try clear hi)) | (go_at_call 13; (with_reducible refine (name_Fold.calls kj19 t316 t319 _ A68.out).mono ?_); rintro e w98 ⟨rfl, hb⟩; have n0_ := Aside0.mk (below_step (by repeat (first | (with_reducible first | exact HB.out | apply below_alloc | apply pw_below_drewN | apply below_drew1) | exact HB.out)) hb); clear HB; have HB := n0_; clear n0_; (try clear hb); (try clear hb2); (try clear hk); (try clear hi)) | (go_at_call 16; (with_reducible refine (name_Under.calls kj19 t316 a1 t320 _ A70.out).mono ?_); rintro e w99 ⟨rfl, hb⟩; have n0_ := Aside0.mk (below_step (by repeat (first | (with_reducible first | exact HB.out | apply below_alloc | apply pw_below_drewN | apply below_drew1) | exact HB.out)) hb); clear HB; have HB := n0_; clear n0_; (try clear hb); (try clear hb2); (try clear hk); (try clear hi)) | (go_at_call 16; (with_reducible refine (name_Under.calls kj19 a0 a1 t321 _ A71.out).mono ?_); rintro e w100 ⟨rfl, hb⟩; have n0_ := Aside0.mk (below_step (by repeat (first | (with_reducible first | exact HB.out | apply below_alloc | apply pw_below_drewN | apply below_drew1) | exact HB.out)) hb); clear HB; have HB := n0_; clear n0_; (try clear hb); (try clear hb2); (try clear hk); (try clear hi)) | (go_at_call 16; (with_reducible refine (name_Under.calls kj19 a0 a1 false _ A73.out).mono ?_); rintro e w101 ⟨rfl, hb⟩; have n0_ := Aside0.mk (below_step (by repeat (first | (with_reducible first | exact HB.out | apply below_alloc | apply pw_below_drewN | apply below_drew1) | exact HB.out)) hb); clear HB; have HB := n0_; clear n0_; (try clear hb); (try clear hb2); (try clear hk); (try clear hi)))
                          go_ret
                          exact ⟨by first | rfl | (simp [errW_none, errW_some] <;> rfl) | (simp [*, errW_none, errW_some] <;> rfl), by repeat (first | (with_reducible first | exact HB.out | apply below_alloc | apply pw_below_drewN | apply below_drew1) | exact HB.out)⟩
                      · rw [if_neg c72] at H
                        have c72b0 : (t320 == t321) = false := by simpa using c72
                        (try (have c72b1 : decide (t320 = t321) = false := by simpa using c72))
                        (try (have c72b2 : (t320 == t321) = false := by simpa using c72))
                        (try (have c72b3 : ¬ (t320 = t321) := by simpa using c72))
                        clear c72
                        exact absurd ((Option.some.inj H).trans hr_.out) (by decide)
                    · rw [if_neg c69] at H
                      have c69b0 : (t319.toList == t316.toList) = false := beq_eq_false_iff_ne.mpr c69
                      have c69b1 : (t319.toList != t316.toList) = true := bne_iff_ne.mpr c69
                      exact absurd ((Option.some.inj H).trans hr_.out) (by decide)
                  · replace c67 := Bool.eq_false_iff.mpr c67
                    subst c67
                    have H1 : (some false) = some r := by rw [if_neg (show ¬ (false = true) by decide)] at H; exact H
                    clear H
                    have H := H1
                    clear H1
                    exact absurd ((Option.some.inj H).trans hr_.out) (by decide)
                · rw [if_neg c65] at H
                  have c65b0 : (t317 == t308) = false := beq_eq_false_iff_ne.mpr c65
                  have c65b1 : (t317 != t308) = true := bne_iff_ne.mpr c65
                  exact absurd ((Option.some.inj H).trans hr_.out) (by decide)
  · replace c5 := Bool.eq_false_iff.mpr c5
    subst c5
    have H1 : (some false) = some r := by rw [if_neg (show ¬ (false = true) by decide)] at H; exact H
    clear H
    have H := H1
    clear H1
    exact absurd ((Option.some.inj H).trans hr_.out) (by decide)

/-- THE ONE PURE STATEMENT of nameplatelaw02_NameOrder: yours. -/
def nameplatelaw02_NameOrder.Pure : Prop := ∀ (a0 : ByteArray) (a1 : ByteArray) (a2 : ByteArray), a0.size ≤ 140737488351232 → a1.size ≤ 140737488351232 → a2.size ≤ 140737488351232 → ∃ k, nameplatelaw02_NameOrder.f k a0 a1 a2 = some true
theorem nameplatelaw02_NameOrder.walk (P : nameplatelaw02_NameOrder.Pure) (a0 : ByteArray) (a1 : ByteArray) (a2 : ByteArray) (w : World) (w0 : a0.size ≤ 140737488351232) (w1 : a1.size ≤ 140737488351232) (w2 : a2.size ≤ 140737488351232) :
    Calls Try.prog 8 #[.string a0, .string a1, .string a2] w fun e w' => e = .returned (.bool true) ∧ Below w.heap.size w w' := by
  obtain ⟨k, h⟩ := P a0 a1 a2 w0 w1 w2
  refine (nameplatelaw02_NameOrder.calls k a0 a1 a2 true w ⟨rfl⟩ h).mono ?_
  rintro e w' ⟨rfl, hd⟩
  exact ⟨rfl, hd⟩

/-! ### nameplatekit_Times: function 25 -/
def nameplatekit_Times.l0 : Nat → ByteArray → Int → ByteArray → Int → Option (ByteArray)
  | 0, _, _, _, _ => none
  | k + 1, x0, x1, x5, x6 => if x6 < x1 then (if x5.size + x0.size ≤ 9223372036854775807 then (nameplatekit_Times.l0 k x0 x1 (x5 ++ x0) (wrap64 (x6 + 1))) else (none)) else (some x5)
def nameplatekit_Times.f (k : Nat) (a0 : ByteArray) (a1 : Int) : Option (ByteArray) := nameplatekit_Times.l0 k a0 a1 (⟨#[]⟩ : ByteArray) 0
theorem nameplatekit_Times.mono_l : ∀ k, (∀ y0 y1 y2 y3, LeO (nameplatekit_Times.l0 k y0 y1 y2 y3) (nameplatekit_Times.l0 (k + 1) y0 y1 y2 y3))
  | 0 => fun _ _ _ _ r h => by simp [nameplatekit_Times.l0] at h
  | k + 1 => by
    have ih0 := nameplatekit_Times.mono_l k
    · intro y0 y1 y2 y3
      unfold nameplatekit_Times.l0
      repeat' first
      | (with_reducible exact ih0 _ _ _ _)
      | (with_reducible exact LeO.refl _)
      | (with_reducible exact LeO.none _)
      | (with_reducible refine LeO.ite ?_ ?_)
      | (with_reducible refine LeO.bind ?_ (fun _ => ?_))
      | exact ih0 _ _ _ _
      | exact LeO.none _
      | refine LeO.ite ?_ ?_
      | refine LeO.bind ?_ (fun _ => ?_)
theorem nameplatekit_Times.mono : ∀ a0 a1 k, LeO (nameplatekit_Times.f k a0 a1) (nameplatekit_Times.f (k + 1) a0 a1) := by
  intro a0 a1 k
  have ih0 := nameplatekit_Times.mono_l k
  unfold nameplatekit_Times.f
  repeat' first
      | (with_reducible exact ih0 _ _ _ _)
      | (with_reducible exact LeO.refl _)
      | (with_reducible exact LeO.none _)
      | (with_reducible refine LeO.ite ?_ ?_)
      | (with_reducible refine LeO.bind ?_ (fun _ => ?_))
      | exact ih0 _ _ _ _
      | exact LeO.none _
      | refine LeO.ite ?_ ?_
      | refine LeO.bind ?_ (fun _ => ?_)
set_option maxHeartbeats 8000000 in
set_option maxRecDepth 100000 in
theorem nameplatekit_Times.calls (k : Nat) (a0 : ByteArray) (a1 : Int) (r : ByteArray) (w : World) (h : nameplatekit_Times.f k a0 a1 = some r) :
    Calls Try.prog 25 #[.string a0, .int .i64 a1] w fun e w' => e = .returned (.string r) ∧ Drawn0 w w' := by
  have H : (nameplatekit_Times.l0 k a0 a1 (⟨#[]⟩ : ByteArray) 0) = some r := h
  clear h
  have H' := Aside0.mk H
  clear H
  go_enter Try.func25, Try.ntmps25
  go_wp2
  go_loopg [5, 6] k (fun kq v5 v6 w' => ∃ (x5_1 : ByteArray) (x6_1 : Int), v5 = .string x5_1 ∧ v6 = .int .i64 x6_1 ∧ Aside0 (nameplatekit_Times.l0 kq a0 a1 x5_1 x6_1 = some r) ∧ Aside0 (kq ≤ k) ∧ Drawn0 w w')
  case atStart => exact ⟨((⟨#[]⟩ : ByteArray)), (0), (by first | rfl | (simp; done) | (simp [*]; done)), (by first | rfl | (simp; done) | (simp [*]; done)), H', ⟨Nat.le_refl _⟩, by repeat (first | exact Drawn0.refl _ | apply Drawn0.step)⟩
  case round =>
    clear H'
    try clear c2
    try clear p2
    obtain ⟨x5_1, x6_1, rfl, rfl, HA, HK1, ⟨m1, rfl⟩⟩ := hrel
    cases gk with
    | zero => exact absurd HA.out (by simp [nameplatekit_Times.l0])
    | succ k1 =>
      have H := HA.out
      clear HA
      simp only [nameplatekit_Times.l0] at H
      by_cases c3 : x6_1 < a1
      · rw [if_pos c3] at H
        have c3b0 : decide (x6_1 < a1) = true := decide_eq_true c3
        clear c3
        by_cases c4 : x5_1.size + a0.size ≤ 9223372036854775807
        · rw [if_pos c4] at H
          have c4b0 := eq_true c4
          have c4b1 : decide (x5_1.size + a0.size ≤ 9223372036854775807) = true := decide_eq_true c4
          try have c4b2 : (9223372036854775807 < x5_1.size + a0.size) = False := eq_false (Nat.not_lt.2 c4)
          have H' := Aside0.mk H
          clear H
          go_wp2
          go_roundg k1
          case measure => have := HK1.out; omega
          case rel => exact ⟨(x5_1 ++ a0), (wrap64 (x6_1 + 1)), (by first | rfl | (simp; done) | (simp [*]; done)), (by first | rfl | (simp; done) | (simp [*]; done)), H', ⟨by have := HK1.out; omega⟩, by repeat (first | exact Drawn0.refl _ | apply Drawn0.step)⟩
        · rw [if_neg c4] at H
          exact absurd H (by simp)
      · rw [if_neg c3] at H
        have c3b0 : decide (x6_1 < a1) = false := decide_eq_false c3
        clear c3
        obtain rfl := Option.some.inj H
        go_wp2
        go_ret
        exact ⟨by first | rfl | (simp; done) | (simp [*]; done), by repeat (first | exact Drawn0.refl _ | apply Drawn0.step)⟩

end Go.Proofs.Ythimngabaliapaa.OSeven
