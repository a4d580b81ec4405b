/- This text proves, for each Go function named below, which plain Lean function its call computes, in whatever memory; a program of this session has written it. -/
import Derived.Test.YtnbjogebdjjepacOAllx0
import Derived.Test.YtnbjogebdjjepacOAllx2
import Derived.Test.YtnbjogebdjjepacOAllx3
namespace Go.Proofs.Ytnbjogebdjjepac.OAll
open Go.RowKit Go.Proofs.YtnbjogebdjjepacW.PrintWords Go.Proofs.YtnbjogebdjjepacW.PrintLast Go.Proofs.YtnbjogebdjjepacW.PrintMore
attribute [local go_sem] max2_int min2_int max_two min_two max_three min_three max_four min_four   -- for this text's walks alone
set_option linter.unusedVariables false
set_option linter.unusedSimpArgs false

/-! ### nameplatelaw01_LabelOrder: function 8 -/
mutual
def nameplatelaw01_LabelOrder.j0 : Nat → ByteArray → ByteArray → ByteArray → Bool → Option (Bool)
  | 0, _, _, _, _ => none
  | k + 1, x0, x1, x2, x25 => if x25 = true then (some true) else ((label_Compare.f x0 x1).bind fun t226 => ((label_Compare.f x1 x2).bind fun t227 => ((label_Compare.f x0 x2).bind fun t228 => (if t226 < (-1) then (nameplatelaw01_LabelOrder.j1 k x0 x1 t226 true) else (if t226 > 1 then (nameplatelaw01_LabelOrder.j1 k x0 x1 t226 true) else ((label_Compare.f x1 x0).bind fun t229 => (if t226 = (wrap64 (-t229)) then ((label_Same.f x0 x1).bind fun t230 => (if ((t226 == 0) != t230) = true then (nameplatelaw01_LabelOrder.j1 k x0 x1 t226 true) else (if t226 ≤ 0 then (if t227 ≤ 0 then (if t228 > 0 then (nameplatelaw01_LabelOrder.j1 k x0 x1 t226 true) else (if t226 < 0 then (nameplatelaw01_LabelOrder.j1 k x0 x1 t226 (t228 == 0)) else (nameplatelaw01_LabelOrder.j1 k x0 x1 t226 false))) else (if t226 < 0 then (nameplatelaw01_LabelOrder.j1 k x0 x1 t226 false) else (nameplatelaw01_LabelOrder.j1 k x0 x1 t226 false))) else (if t226 < 0 then (if t227 ≤ 0 then (nameplatelaw01_LabelOrder.j1 k x0 x1 t226 (t228 == 0)) else (nameplatelaw01_LabelOrder.j1 k x0 x1 t226 false)) else (nameplatelaw01_LabelOrder.j1 k x0 x1 t226 false))))) else (nameplatelaw01_LabelOrder.j1 k x0 x1 t226 true))))))))
def nameplatelaw01_LabelOrder.j1 : Nat → ByteArray → ByteArray → Int → Bool → Option (Bool)
  | 0, _, _, _, _ => none
  | k + 1, x0, x1, x7, x80 => if x80 = true then (some false) else ((label_Fold.f x0).bind fun t231 => ((label_Compare.f t231 x1).bind fun t232 => (if t232 = x7 then ((label_Fold.f t231).bind fun t233 => (if t233.toList = t231.toList then (if (t231.size : Int) = (x0.size : Int) then ((label_Same.f t231 x0).bind fun t234 => (some t234)) else (some false)) else (some false))) else (some false))))
end
def nameplatelaw01_LabelOrder.f (k : Nat) (a0 : ByteArray) (a1 : ByteArray) (a2 : ByteArray) : Option (Bool) := (nameplatelaw01_lives.f k).bind fun t225 => (if t225 = true then (if (a0.size : Int) > 300 then (nameplatelaw01_LabelOrder.j0 k a0 a1 a2 true) else (if (a1.size : Int) > 300 then (nameplatelaw01_LabelOrder.j0 k a0 a1 a2 true) else (nameplatelaw01_LabelOrder.j0 k a0 a1 a2 (decide ((a2.size : Int) > 300))))) else (some false))
theorem nameplatelaw01_LabelOrder.mono_l : ∀ k, (∀ y0 y1 y2 y3, LeO (nameplatelaw01_LabelOrder.j0 k y0 y1 y2 y3) (nameplatelaw01_LabelOrder.j0 (k + 1) y0 y1 y2 y3)) ∧ (∀ y0 y1 y2 y3, LeO (nameplatelaw01_LabelOrder.j1 k y0 y1 y2 y3) (nameplatelaw01_LabelOrder.j1 (k + 1) y0 y1 y2 y3))
  | 0 => ⟨fun _ _ _ _ r h => by simp [nameplatelaw01_LabelOrder.j0] at h, fun _ _ _ _ r h => by simp [nameplatelaw01_LabelOrder.j1] at h⟩
  | k + 1 => by
    obtain ⟨ih0, ih1⟩ := nameplatelaw01_LabelOrder.mono_l k
    refine ⟨?_, ?_⟩
    · intro y0 y1 y2 y3
      unfold nameplatelaw01_LabelOrder.j0
      repeat' first
      | (with_reducible exact ih0 _ _ _ _)
      | (with_reducible exact ih1 _ _ _ _)
      | (with_reducible exact nameplatelaw01_lives.mono _)
      | (with_reducible exact LeO.refl _)
      | (with_reducible exact LeO.none _)
      | (with_reducible refine LeO.ite ?_ ?_)
      | (with_reducible refine LeO.bind ?_ (fun _ => ?_))
      | exact ih0 _ _ _ _
      | exact ih1 _ _ _ _
      | exact nameplatelaw01_lives.mono _
      | exact LeO.none _
      | refine LeO.ite ?_ ?_
      | refine LeO.bind ?_ (fun _ => ?_)
    · intro y0 y1 y2 y3
      unfold nameplatelaw01_LabelOrder.j1
      repeat' first
      | (with_reducible exact ih0 _ _ _ _)
      | (with_reducible exact ih1 _ _ _ _)
      | (with_reducible exact nameplatelaw01_lives.mono _)
      | (with_reducible exact LeO.refl _)
      | (with_reducible exact LeO.none _)
      | (with_reducible refine LeO.ite ?_ ?_)
      | (with_reducible refine LeO.bind ?_ (fun _ => ?_))
      | exact ih0 _ _ _ _
      | exact ih1 _ _ _ _
      | exact nameplatelaw01_lives.mono _
      | exact LeO.none _
      | refine LeO.ite ?_ ?_
      | refine LeO.bind ?_ (fun _ => ?_)
theorem nameplatelaw01_LabelOrder.mono : ∀ a0 a1 a2 k, LeO (nameplatelaw01_LabelOrder.f k a0 a1 a2) (nameplatelaw01_LabelOrder.f (k + 1) a0 a1 a2) := by
  intro a0 a1 a2 k
  obtain ⟨ih0, ih1⟩ := nameplatelaw01_LabelOrder.mono_l k
  unfold nameplatelaw01_LabelOrder.f
  repeat' first
      | (with_reducible exact ih0 _ _ _ _)
      | (with_reducible exact ih1 _ _ _ _)
      | (with_reducible exact nameplatelaw01_lives.mono _)
      | (with_reducible exact LeO.refl _)
      | (with_reducible exact LeO.none _)
      | (with_reducible refine LeO.ite ?_ ?_)
      | (with_reducible refine LeO.bind ?_ (fun _ => ?_))
      | exact ih0 _ _ _ _
      | exact ih1 _ _ _ _
      | exact nameplatelaw01_lives.mono _
      | exact LeO.none _
      | refine LeO.ite ?_ ?_
      | refine LeO.bind ?_ (fun _ => ?_)
set_option maxHeartbeats 8000000 in
set_option maxRecDepth 100000 in
theorem nameplatelaw01_LabelOrder.calls (k : Nat) (a0 : ByteArray) (a1 : ByteArray) (a2 : ByteArray) (r : Bool) (w : World) (hr_ : Aside0 (r = true)) (h : nameplatelaw01_LabelOrder.f k a0 a1 a2 = some r) :
    Calls Try.prog 8 #[.string a0, .string a1, .string a2] w fun e w' => e = .returned (.bool r) ∧ Below w.heap.size w w' := by
  have HB := Aside0.mk (Below.refl w.heap.size w)
  have H : ((nameplatelaw01_lives.f k).bind fun t225 => (if t225 = true then (if (a0.size : Int) > 300 then (nameplatelaw01_LabelOrder.j0 k a0 a1 a2 true) else (if (a1.size : Int) > 300 then (nameplatelaw01_LabelOrder.j0 k a0 a1 a2 true) else (nameplatelaw01_LabelOrder.j0 k a0 a1 a2 (decide ((a2.size : Int) > 300))))) else (some false))) = some r := h
  clear h
  replace H := Option.bind_eq_some_iff.mp H
  obtain ⟨t225, A40, H⟩ := H
  replace H : (if t225 = true then (if (a0.size : Int) > 300 then (nameplatelaw01_LabelOrder.j0 k a0 a1 a2 true) else (if (a1.size : Int) > 300 then (nameplatelaw01_LabelOrder.j0 k a0 a1 a2 true) else (nameplatelaw01_LabelOrder.j0 k a0 a1 a2 (decide ((a2.size : Int) > 300))))) else (some false)) = some r := H
  have A4 := Aside0.mk A40
  clear A40
  by_cases c5 : t225 = true
  · subst c5
    have H1 : (if (a0.size : Int) > 300 then (nameplatelaw01_LabelOrder.j0 k a0 a1 a2 true) else (if (a1.size : Int) > 300 then (nameplatelaw01_LabelOrder.j0 k a0 a1 a2 true) else (nameplatelaw01_LabelOrder.j0 k a0 a1 a2 (decide ((a2.size : Int) > 300))))) = some r := by rw [if_pos rfl] at H; exact H
    clear H
    have H := H1
    clear H1
    have HC6 := Aside0.mk H
    clear H
    go_enter Try.func8, Try.ntmps8
    go_upto_region 3 with (first | ((with_reducible refine gate_callee (f := 9) rfl ?_); refine goesL_ (some 11) rfl rfl Try.func9 (by kernel_rfl) rfl #[] rfl (by (try simp only [List.map_toArray, List.map_cons, List.map_nil]); first | done | rfl | (simp only [List.length_drop, List.length_take]; rfl)) ?_; (with_reducible refine (nameplatelaw01_lives.calls k  true _ A4.out).mono ?_); rintro e w7 ⟨rfl, hb⟩; refine ⟨_, rfl, ?_⟩; have n0_ := Aside0.mk (below_step (by repeat (first | (with_reducible first | exact HB.out | apply below_alloc | apply pw_below_drewN | apply below_drew1) | exact HB.out)) hb); clear HB; have HB := n0_; clear n0_; (try clear hb); (try clear hb2); (try clear hk); (try clear hi)))
    (try simp only [Act.put, List.setIfInBounds_toArray, List.set_cons_zero, List.set_cons_succ])
    go_cut [25] (fun v25 wc => ∃ (kq : Nat) (x25_5 : Bool), v25 = .bool x25_5 ∧ Aside0 (nameplatelaw01_LabelOrder.j0 kq a0 a1 a2 x25_5 = some r) ∧ Aside0 (kq ≤ k) ∧ Aside0 (Below w.heap.size w wc))
    case first =>
      have H := HC6.out
      clear HC6
      by_cases c8 : (a0.size : Int) > 300
      · rw [if_pos c8] at H
        have c8b0 : decide (300 < (a0.size : Int)) = true := decide_eq_true c8
        have c8b1 : decide (300 < a0.size) = true := decide_eq_true (by omega)
        clear c8
        (first | rw [c8b0] | (simp only [i64_w, i32_w]; rw [c8b0]) | skip)
        have H' := Aside0.mk H
        clear H
        go_wp2
        go_meet
        case rel => exact ⟨_, (true), (by first | rfl | (simp; done) | (simp [*]; done)), H', ⟨by first | omega | exact Nat.le_refl _⟩, ⟨by repeat (first | (with_reducible first | exact HB.out | apply below_alloc | apply pw_below_drewN | apply below_drew1) | exact HB.out)⟩⟩
      · rw [if_neg c8] at H
        have c8b0 : decide (300 < (a0.size : Int)) = false := decide_eq_false c8
        have c8b1 : decide (300 < a0.size) = false := decide_eq_false (by omega)
        clear c8
        (first | rw [c8b0] | (simp only [i64_w, i32_w]; rw [c8b0]) | skip)
        by_cases c9 : (a1.size : Int) > 300
        · rw [if_pos c9] at H
          have c9b0 : decide (300 < (a1.size : Int)) = true := decide_eq_true c9
          have c9b1 : decide (300 < a1.size) = true := decide_eq_true (by omega)
          clear c9
          have H' := Aside0.mk H
          clear H
          go_wp2
          go_meet
          case rel => exact ⟨_, (true), (by first | rfl | (simp; done) | (simp [*]; done)), H', ⟨by first | omega | exact Nat.le_refl _⟩, ⟨by repeat (first | (with_reducible first | exact HB.out | apply below_alloc | apply pw_below_drewN | apply below_drew1) | exact HB.out)⟩⟩
        · rw [if_neg c9] at H
          have c9b0 : decide (300 < (a1.size : Int)) = false := decide_eq_false c9
          have c9b1 : decide (300 < a1.size) = false := decide_eq_false (by omega)
          clear c9
          have H' := Aside0.mk H
          clear H
          go_wp2
          go_meet
          case rel => exact ⟨_, (decide ((a2.size : Int) > 300)), (by first | rfl | (simp; done) | (simp [*]; done)), H', ⟨by first | omega | exact Nat.le_refl _⟩, ⟨by repeat (first | (with_reducible first | exact HB.out | apply below_alloc | apply pw_below_drewN | apply below_drew1) | exact HB.out)⟩⟩
    case rest =>
      clear HC6
      try clear p2
      try clear c5
      try clear c8
      try clear c8b0
      try clear c8b1
      try clear c9
      try clear c9b0
      try clear c9b1
      obtain ⟨kq, x25_5, rfl, HA, HJ5, HB⟩ := hcut
      cases kq with
      | zero => exact absurd HA.out (by simp [nameplatelaw01_LabelOrder.j0])
      | succ kj5 =>
        have H := HA.out
        clear HA
        simp only [nameplatelaw01_LabelOrder.j0] at H
        by_cases c10 : x25_5 = true
        · subst c10
          have H1 : (some true) = some r := by rw [if_pos rfl] at H; exact H
          clear H
          have H := H1
          clear H1
          obtain rfl := Option.some.inj H
          go_wp2
          go_ret
          exact ⟨by first | rfl | (simp [errW_none, errW_some] <;> rfl) | (simp [*, errW_none, errW_some] <;> rfl), by repeat (first | (with_reducible first | exact HB.out | apply below_alloc | apply pw_below_drewN | apply below_drew1) | exact HB.out)⟩
        · replace c10 := Bool.eq_false_iff.mpr c10
          subst c10
          have H1 : ((label_Compare.f a0 a1).bind fun t226 => ((label_Compare.f a1 a2).bind fun t227 => ((label_Compare.f a0 a2).bind fun t228 => (if t226 < (-1) then (nameplatelaw01_LabelOrder.j1 kj5 a0 a1 t226 true) else (if t226 > 1 then (nameplatelaw01_LabelOrder.j1 kj5 a0 a1 t226 true) else ((label_Compare.f a1 a0).bind fun t229 => (if t226 = (wrap64 (-t229)) then ((label_Same.f a0 a1).bind fun t230 => (if ((t226 == 0) != t230) = true then (nameplatelaw01_LabelOrder.j1 kj5 a0 a1 t226 true) else (if t226 ≤ 0 then (if t227 ≤ 0 then (if t228 > 0 then (nameplatelaw01_LabelOrder.j1 kj5 a0 a1 t226 true) else (if t226 < 0 then (nameplatelaw01_LabelOrder.j1 kj5 a0 a1 t226 (t228 == 0)) else (nameplatelaw01_LabelOrder.j1 kj5 a0 a1 t226 false))) else (if t226 < 0 then (nameplatelaw01_LabelOrder.j1 kj5 a0 a1 t226 false) else (nameplatelaw01_LabelOrder.j1 kj5 a0 a1 t226 false))) else (if t226 < 0 then (if t227 ≤ 0 then (nameplatelaw01_LabelOrder.j1 kj5 a0 a1 t226 (t228 == 0)) else (nameplatelaw01_LabelOrder.j1 kj5 a0 a1 t226 false)) else (nameplatelaw01_LabelOrder.j1 kj5 a0 a1 t226 false))))) else (nameplatelaw01_LabelOrder.j1 kj5 a0 a1 t226 true)))))))) = some r := by rw [if_neg (show ¬ (false = true) by decide)] at H; exact H
          clear H
          have H := H1
          clear H1
          replace H := Option.bind_eq_some_iff.mp H
          obtain ⟨t226, A110, H⟩ := H
          replace H : ((label_Compare.f a1 a2).bind fun t227 => ((label_Compare.f a0 a2).bind fun t228 => (if t226 < (-1) then (nameplatelaw01_LabelOrder.j1 kj5 a0 a1 t226 true) else (if t226 > 1 then (nameplatelaw01_LabelOrder.j1 kj5 a0 a1 t226 true) else ((label_Compare.f a1 a0).bind fun t229 => (if t226 = (wrap64 (-t229)) then ((label_Same.f a0 a1).bind fun t230 => (if ((t226 == 0) != t230) = true then (nameplatelaw01_LabelOrder.j1 kj5 a0 a1 t226 true) else (if t226 ≤ 0 then (if t227 ≤ 0 then (if t228 > 0 then (nameplatelaw01_LabelOrder.j1 kj5 a0 a1 t226 true) else (if t226 < 0 then (nameplatelaw01_LabelOrder.j1 kj5 a0 a1 t226 (t228 == 0)) else (nameplatelaw01_LabelOrder.j1 kj5 a0 a1 t226 false))) else (if t226 < 0 then (nameplatelaw01_LabelOrder.j1 kj5 a0 a1 t226 false) else (nameplatelaw01_LabelOrder.j1 kj5 a0 a1 t226 false))) else (if t226 < 0 then (if t227 ≤ 0 then (nameplatelaw01_LabelOrder.j1 kj5 a0 a1 t226 (t228 == 0)) else (nameplatelaw01_LabelOrder.j1 kj5 a0 a1 t226 false)) else (nameplatelaw01_LabelOrder.j1 kj5 a0 a1 t226 false))))) else (nameplatelaw01_LabelOrder.j1 kj5 a0 a1 t226 true))))))) = some r := H
          have A11 := Aside0.mk A110
          clear A110
          replace H := Option.bind_eq_some_iff.mp H
          obtain ⟨t227, A120, H⟩ := H
          replace H : ((label_Compare.f a0 a2).bind fun t228 => (if t226 < (-1) then (nameplatelaw01_LabelOrder.j1 kj5 a0 a1 t226 true) else (if t226 > 1 then (nameplatelaw01_LabelOrder.j1 kj5 a0 a1 t226 true) else ((label_Compare.f a1 a0).bind fun t229 => (if t226 = (wrap64 (-t229)) then ((label_Same.f a0 a1).bind fun t230 => (if ((t226 == 0) != t230) = true then (nameplatelaw01_LabelOrder.j1 kj5 a0 a1 t226 true) else (if t226 ≤ 0 then (if t227 ≤ 0 then (if t228 > 0 then (nameplatelaw01_LabelOrder.j1 kj5 a0 a1 t226 true) else (if t226 < 0 then (nameplatelaw01_LabelOrder.j1 kj5 a0 a1 t226 (t228 == 0)) else (nameplatelaw01_LabelOrder.j1 kj5 a0 a1 t226 false))) else (if t226 < 0 then (nameplatelaw01_LabelOrder.j1 kj5 a0 a1 t226 false) else (nameplatelaw01_LabelOrder.j1 kj5 a0 a1 t226 false))) else (if t226 < 0 then (if t227 ≤ 0 then (nameplatelaw01_LabelOrder.j1 kj5 a0 a1 t226 (t228 == 0)) else (nameplatelaw01_LabelOrder.j1 kj5 a0 a1 t226 false)) else (nameplatelaw01_LabelOrder.j1 kj5 a0 a1 t226 false))))) else (nameplatelaw01_LabelOrder.j1 kj5 a0 a1 t226 true)))))) = some r := H
          have A12 := Aside0.mk A120
          clear A120
          replace H := Option.bind_eq_some_iff.mp H
          obtain ⟨t228, A130, H⟩ := H
          replace H : (if t226 < (-1) then (nameplatelaw01_LabelOrder.j1 kj5 a0 a1 t226 true) else (if t226 > 1 then (nameplatelaw01_LabelOrder.j1 kj5 a0 a1 t226 true) else ((label_Compare.f a1 a0).bind fun t229 => (if t226 = (wrap64 (-t229)) then ((label_Same.f a0 a1).bind fun t230 => (if ((t226 == 0) != t230) = true then (nameplatelaw01_LabelOrder.j1 kj5 a0 a1 t226 true) else (if t226 ≤ 0 then (if t227 ≤ 0 then (if t228 > 0 then (nameplatelaw01_LabelOrder.j1 kj5 a0 a1 t226 true) else (if t226 < 0 then (nameplatelaw01_LabelOrder.j1 kj5 a0 a1 t226 (t228 == 0)) else (nameplatelaw01_LabelOrder.j1 kj5 a0 a1 t226 false))) else (if t226 < 0 then (nameplatelaw01_LabelOrder.j1 kj5 a0 a1 t226 false) else (nameplatelaw01_LabelOrder.j1 kj5 a0 a1 t226 false))) else (if t226 < 0 then (if t227 ≤ 0 then (nameplatelaw01_LabelOrder.j1 kj5 a0 a1 t226 (t228 == 0)) else (nameplatelaw01_LabelOrder.j1 kj5 a0 a1 t226 false)) else (nameplatelaw01_LabelOrder.j1 kj5 a0 a1 t226 false))))) else (nameplatelaw01_LabelOrder.j1 kj5 a0 a1 t226 true))))) = some r := H
          have A13 := Aside0.mk A130
          clear A130
          have HC14 := Aside0.mk H
          clear H
          go_upto_region 6 with (first | ((with_reducible refine gate_callee (f := 16) rfl ?_); refine goesL_ (some 28) rfl rfl Try.func16 (by kernel_rfl) rfl #[.string a0, .string a1] rfl (by (try simp only [List.map_toArray, List.map_cons, List.map_nil]); first | done | rfl | (simp only [List.length_drop, List.length_take]; rfl)) ?_; (with_reducible refine (label_Compare.calls a0 a1 t226 _ A11.out).mono ?_); rintro e w15 ⟨rfl, hb⟩; refine ⟨_, rfl, ?_⟩; have n0_ := Aside0.mk (below_step (by repeat (first | (with_reducible first | exact HB.out | apply below_alloc | apply pw_below_drewN | apply below_drew1) | exact HB.out)) hb); clear HB; have HB := n0_; clear n0_; (try clear hb); (try clear hb2); (try clear hk); (try clear hi)) | ((with_reducible refine gate_callee (f := 16) rfl ?_); refine goesL_ (some 31) rfl rfl Try.func16 (by kernel_rfl) rfl #[.string a1, .string a2] rfl (by (try simp only [List.map_toArray, List.map_cons, List.map_nil]); first | done | rfl | (simp only [List.length_drop, List.length_take]; rfl)) ?_; (with_reducible refine (label_Compare.calls a1 a2 t227 _ A12.out).mono ?_); rintro e w16 ⟨rfl, hb⟩; refine ⟨_, rfl, ?_⟩; have n0_ := Aside0.mk (below_step (by repeat (first | (with_reducible first | exact HB.out | apply below_alloc | apply pw_below_drewN | apply below_drew1) | exact HB.out)) hb); clear HB; have HB := n0_; clear n0_; (try clear hb); (try clear hb2); (try clear hk); (try clear hi)) | ((with_reducible refine gate_callee (f := 16) rfl ?_); refine goesL_ (some 34) rfl rfl Try.func16 (by kernel_rfl) rfl #[.string a0, .string a2] rfl (by (try simp only [List.map_toArray, List.map_cons, List.map_nil]); first | done | rfl | (simp only [List.length_drop, List.length_take]; rfl)) ?_; (with_reducible refine (label_Compare.calls a0 a2 t228 _ A13.out).mono ?_); rintro e w17 ⟨rfl, hb⟩; refine ⟨_, rfl, ?_⟩; have n0_ := Aside0.mk (below_step (by repeat (first | (with_reducible first | exact HB.out | apply below_alloc | apply pw_below_drewN | apply below_drew1) | exact HB.out)) hb); clear HB; have HB := n0_; clear n0_; (try clear hb); (try clear hb2); (try clear hk); (try clear hi)))
          (try simp only [Act.put, List.setIfInBounds_toArray, List.set_cons_zero, List.set_cons_succ])
          go_cut [80] (fun v80 wc => ∃ (kq : Nat) (x80_13 : Bool), v80 = .bool x80_13 ∧ Aside0 (nameplatelaw01_LabelOrder.j1 kq a0 a1 t226 x80_13 = some r) ∧ Aside0 (kq ≤ kj5) ∧ Aside0 (Below w.heap.size w wc))
          case first =>
            have H := HC14.out
            clear HC14
            by_cases c18 : t226 < (-1)
            · rw [if_pos c18] at H
              have c18b0 : decide (t226 < (-1)) = true := decide_eq_true c18
              clear c18
              (first | rw [c18b0] | (simp only [i64_w, i32_w]; rw [c18b0]) | skip)
              have H' := Aside0.mk H
              clear H
              go_wp2
              go_meet
              case rel => exact ⟨_, (true), (by first | rfl | (simp; done) | (simp [*]; done)), H', ⟨by have := HJ5.out; first | omega | exact Nat.le_refl _⟩, ⟨by repeat (first | (with_reducible first | exact HB.out | apply below_alloc | apply pw_below_drewN | apply below_drew1) | exact HB.out)⟩⟩
            · rw [if_neg c18] at H
              have c18b0 : decide (t226 < (-1)) = false := decide_eq_false c18
              clear c18
              (first | rw [c18b0] | (simp only [i64_w, i32_w]; rw [c18b0]) | skip)
              by_cases c19 : t226 > 1
              · rw [if_pos c19] at H
                have c19b0 : decide (1 < t226) = true := decide_eq_true c19
                clear c19
                have H' := Aside0.mk H
                clear H
                go_wp2
                go_meet
                case rel => exact ⟨_, (true), (by first | rfl | (simp; done) | (simp [*]; done)), H', ⟨by have := HJ5.out; first | omega | exact Nat.le_refl _⟩, ⟨by repeat (first | (with_reducible first | exact HB.out | apply below_alloc | apply pw_below_drewN | apply below_drew1) | exact HB.out)⟩⟩
              · rw [if_neg c19] at H
                have c19b0 : decide (1 < t226) = false := decide_eq_false c19
                clear c19
                replace H := Option.bind_eq_some_iff.mp H
                obtain ⟨t229, A200, H⟩ := H
                replace H : (if t226 = (wrap64 (-t229)) then ((label_Same.f a0 a1).bind fun t230 => (if ((t226 == 0) != t230) = true then (nameplatelaw01_LabelOrder.j1 kj5 a0 a1 t226 true) else (if t226 ≤ 0 then (if t227 ≤ 0 then (if t228 > 0 then (nameplatelaw01_LabelOrder.j1 kj5 a0 a1 t226 true) else (if t226 < 0 then (nameplatelaw01_LabelOrder.j1 kj5 a0 a1 t226 (t228 == 0)) else (nameplatelaw01_LabelOrder.j1 kj5 a0 a1 t226 false))) else (if t226 < 0 then (nameplatelaw01_LabelOrder.j1 kj5 a0 a1 t226 false) else (nameplatelaw01_LabelOrder.j1 kj5 a0 a1 t226 false))) else (if t226 < 0 then (if t227 ≤ 0 then (nameplatelaw01_LabelOrder.j1 kj5 a0 a1 t226 (t228 == 0)) else (nameplatelaw01_LabelOrder.j1 kj5 a0 a1 t226 false)) else (nameplatelaw01_LabelOrder.j1 kj5 a0 a1 t226 false))))) else (nameplatelaw01_LabelOrder.j1 kj5 a0 a1 t226 true)) = some r := H
                have A20 := Aside0.mk A200
                clear A200
                by_cases c21 : t226 = (wrap64 (-t229))
                · rw [if_pos c21] at H
                  have c21b0 : (t226 == (wrap64 (-t229))) = true := beq_iff_eq.mpr c21
                  have c21b1 : (t226 != (wrap64 (-t229))) = false := bne_eq_false_iff_eq.mpr c21
                  clear c21
                  replace H := Option.bind_eq_some_iff.mp H
                  obtain ⟨t230, A220, H⟩ := H
                  replace H : (if ((t226 == 0) != t230) = true then (nameplatelaw01_LabelOrder.j1 kj5 a0 a1 t226 true) else (if t226 ≤ 0 then (if t227 ≤ 0 then (if t228 > 0 then (nameplatelaw01_LabelOrder.j1 kj5 a0 a1 t226 true) else (if t226 < 0 then (nameplatelaw01_LabelOrder.j1 kj5 a0 a1 t226 (t228 == 0)) else (nameplatelaw01_LabelOrder.j1 kj5 a0 a1 t226 false))) else (if t226 < 0 then (nameplatelaw01_LabelOrder.j1 kj5 a0 a1 t226 false) else (nameplatelaw01_LabelOrder.j1 kj5 a0 a1 t226 false))) else (if t226 < 0 then (if t227 ≤ 0 then (nameplatelaw01_LabelOrder.j1 kj5 a0 a1 t226 (t228 == 0)) else (nameplatelaw01_LabelOrder.j1 kj5 a0 a1 t226 false)) else (nameplatelaw01_LabelOrder.j1 kj5 a0 a1 t226 false)))) = some r := H
                  have A22 := Aside0.mk A220
                  clear A220
                  by_cases c23 : ((t226 == 0) != t230) = true
                  · rw [if_pos c23] at H
                    have c23b0 : ((t226 == 0) != t230) = true := c23
                    (try (have c23b1 : decide ((t226 == 0) = t230) = false := by simpa using c23))
                    (try (have c23b2 : ((t226 == 0) == t230) = false := by simpa using c23))
                    (try (have c23b3 : ¬ ((t226 == 0) = t230) := by simpa using c23))
                    clear c23
                    have H' := Aside0.mk H
                    clear H
                    go_wp2_with (first | (go_at_call 16; (with_reducible refine (label_Compare.calls a1 a0 t229 _ A20.out).mono ?_); rintro e w24 ⟨rfl, hb⟩; have n0_ := Aside0.mk (below_step (by repeat (first | (with_reducible first | exact HB.out | apply below_alloc | apply pw_below_drewN | apply below_drew1) | exact HB.out)) hb); clear HB; have HB := n0_; clear n0_; (try clear hb); (try clear hb2); (try clear hk); (try clear hi)) | (go_at_call 15; (with_reducible refine (label_Same.calls a0 a1 t230 _ A22.out).mono ?_); rintro e w25 ⟨rfl, hb⟩; have n0_ := Aside0.mk (below_step (by repeat (first | (with_reducible first | exact HB.out | apply below_alloc | apply pw_below_drewN | apply below_drew1) | exact HB.out)) hb); clear HB; have HB := n0_; clear n0_; (try clear hb); (try clear hb2); (try clear hk); (try clear hi)))
                    go_meet
                    case rel => exact ⟨_, (true), (by first | rfl | (simp; done) | (simp [*]; done)), H', ⟨by have := HJ5.out; first | omega | exact Nat.le_refl _⟩, ⟨by repeat (first | (with_reducible first | exact HB.out | apply below_alloc | apply pw_below_drewN | apply below_drew1) | exact HB.out)⟩⟩
                  · rw [if_neg c23] at H
                    have c23b0 : ((t226 == 0) != t230) = false := by simpa using c23
                    (try (have c23b1 : decide ((t226 == 0) = t230) = true := by simpa using c23))
                    (try (have c23b2 : ((t226 == 0) == t230) = true := by simpa using c23))
                    clear c23
                    by_cases c26 : t226 ≤ 0
                    · rw [if_pos c26] at H
                      have c26b0 : decide (t226 ≤ 0) = true := decide_eq_true c26
                      clear c26
                      by_cases c27 : t227 ≤ 0
                      · rw [if_pos c27] at H
                        have c27b0 : decide (t227 ≤ 0) = true := decide_eq_true c27
                        clear c27
                        by_cases c28 : t228 > 0
                        · rw [if_pos c28] at H
                          have c28b0 : decide (0 < t228) = true := decide_eq_true c28
                          clear c28
                          have H' := Aside0.mk H
                          clear H
                          go_wp2_with (first | (go_at_call 16; (with_reducible refine (label_Compare.calls a1 a0 t229 _ A20.out).mono ?_); rintro e w29 ⟨rfl, hb⟩; have n0_ := Aside0.mk (below_step (by repeat (first | (with_reducible first | exact HB.out | apply below_alloc | apply pw_below_drewN | apply below_drew1) | exact HB.out)) hb); clear HB; have HB := n0_; clear n0_; (try clear hb); (try clear hb2); (try clear hk); (try clear hi)) | (go_at_call 15; (with_reducible refine (label_Same.calls a0 a1 t230 _ A22.out).mono ?_); rintro e w30 ⟨rfl, hb⟩; have n0_ := Aside0.mk (below_step (by repeat (first | (with_reducible first | exact HB.out | apply below_alloc | apply pw_below_drewN | apply below_drew1) | exact HB.out)) hb); clear HB; have HB := n0_; clear n0_; (try clear hb); (try clear hb2); (try clear hk); (try clear hi)))
                          go_meet
                          case rel => exact ⟨_, (true), (by first | rfl | (simp; done) | (simp [*]; done)), H', ⟨by have := HJ5.out; first | omega | exact Nat.le_refl _⟩, ⟨by repeat (first | (with_reducible first | exact HB.out | apply below_alloc | apply pw_below_drewN | apply below_drew1) | exact HB.out)⟩⟩
                        · rw [if_neg c28] at H
                          have c28b0 : decide (0 < t228) = false := decide_eq_false c28
                          clear c28
                          by_cases c31 : t226 < 0
                          · rw [if_pos c31] at H
                            have c31b0 : decide (t226 < 0) = true := decide_eq_true c31
                            clear c31
                            have H' := Aside0.mk H
                            clear H
                            go_wp2_with (first | (go_at_call 16; (with_reducible refine (label_Compare.calls a1 a0 t229 _ A20.out).mono ?_); rintro e w32 ⟨rfl, hb⟩; have n0_ := Aside0.mk (below_step (by repeat (first | (with_reducible first | exact HB.out | apply below_alloc | apply pw_below_drewN | apply below_drew1) | exact HB.out)) hb); clear HB; have HB := n0_; clear n0_; (try clear hb); (try clear hb2); (try clear hk); (try clear hi)) | (go_at_call 15; (with_reducible refine (label_Same.calls a0 a1 t230 _ A22.out).mono ?_); rintro e w33 ⟨rfl, hb⟩; have n0_ := Aside0.mk (below_step (by repeat (first | (with_reducible first | exact HB.out | apply below_alloc | apply pw_below_drewN | apply below_drew1) | exact HB.out)) hb); clear HB; have HB := n0_; clear n0_; (try clear hb); (try clear hb2); (try clear hk); (try clear hi)))
                            go_meet
                            case rel => exact ⟨_, ((t228 == 0)), (by first | rfl | (simp; done) | (simp [*]; done)), H', ⟨by have := HJ5.out; first | omega | exact Nat.le_refl _⟩, ⟨by repeat (first | (with_reducible first | exact HB.out | apply below_alloc | apply pw_below_drewN | apply below_drew1) | exact HB.out)⟩⟩
                          · rw [if_neg c31] at H
                            have c31b0 : decide (t226 < 0) = false := decide_eq_false c31
                            clear c31
                            have H' := Aside0.mk H
                            clear H
                            go_wp2_with (first | (go_at_call 16; (with_reducible refine (label_Compare.calls a1 a0 t229 _ A20.out).mono ?_); rintro e w34 ⟨rfl, hb⟩; have n0_ := Aside0.mk (below_step (by repeat (first | (with_reducible first | exact HB.out | apply below_alloc | apply pw_below_drewN | apply below_drew1) | exact HB.out)) hb); clear HB; have HB := n0_; clear n0_; (try clear hb); (try clear hb2); (try clear hk); (try clear hi)) | (go_at_call 15; (with_reducible refine (label_Same.calls a0 a1 t230 _ A22.out).mono ?_); rintro e w35 ⟨rfl, hb⟩; have n0_ := Aside0.mk (below_step (by repeat (first | (with_reducible first | exact HB.out | apply below_alloc | apply pw_below_drewN | apply below_drew1) | exact HB.out)) hb); clear HB; have HB := n0_; clear n0_; (try clear hb); (try clear hb2); (try clear hk); (try clear hi)))
                            go_meet
                            case rel => exact ⟨_, (false), (by first | rfl | (simp; done) | (simp [*]; done)), H', ⟨by have := HJ5.out; first | omega | exact Nat.le_refl _⟩, ⟨by repeat (first | (with_reducible first | exact HB.out | apply below_alloc | apply pw_below_drewN | apply below_drew1) | exact HB.out)⟩⟩
                      · rw [if_neg c27] at H
                        have c27b0 : decide (t227 ≤ 0) = false := decide_eq_false c27
                        clear c27
                        by_cases c36 : t226 < 0
                        · rw [if_pos c36] at H
                          have c36b0 : decide (t226 < 0) = true := decide_eq_true c36
                          clear c36
                          have H' := Aside0.mk H
                          clear H
                          go_wp2_with (first | (go_at_call 16; (with_reducible refine (label_Compare.calls a1 a0 t229 _ A20.out).mono ?_); rintro e w37 ⟨rfl, hb⟩; have n0_ := Aside0.mk (below_step (by repeat (first | (with_reducible first | exact HB.out | apply below_alloc | apply pw_below_drewN | apply below_drew1) | exact HB.out)) hb); clear HB; have HB := n0_; clear n0_; (try clear hb); (try clear hb2); (try clear hk); (try clear hi)) | (go_at_call 15; (with_reducible refine (label_Same.calls a0 a1 t230 _ A22.out).mono ?_); rintro e w38 ⟨rfl, hb⟩; have n0_ := Aside0.mk (below_step (by repeat (first | (with_reducible first | exact HB.out | apply below_alloc | apply pw_below_drewN | apply below_drew1) | exact HB.out)) hb); clear HB; have HB := n0_; clear n0_; (try clear hb); (try clear hb2); (try clear hk); (try clear hi)))
                          go_meet
                          case rel => exact ⟨_, (false), (by first | rfl | (simp; done) | (simp [*]; done)), H', ⟨by have := HJ5.out; first | omega | exact Nat.le_refl _⟩, ⟨by repeat (first | (with_reducible first | exact HB.out | apply below_alloc | apply pw_below_drewN | apply below_drew1) | exact HB.out)⟩⟩
                        · rw [if_neg c36] at H
                          have c36b0 : decide (t226 < 0) = false := decide_eq_false c36
                          clear c36
                          have H' := Aside0.mk H
                          clear H
                          go_wp2_with (first | (go_at_call 16; (with_reducible refine (label_Compare.calls a1 a0 t229 _ A20.out).mono ?_); rintro e w39 ⟨rfl, hb⟩; have n0_ := Aside0.mk (below_step (by repeat (first | (with_reducible first | exact HB.out | apply below_alloc | apply pw_below_drewN | apply below_drew1) | exact HB.out)) hb); clear HB; have HB := n0_; clear n0_; (try clear hb); (try clear hb2); (try clear hk); (try clear hi)) | (go_at_call 15; (with_reducible refine (label_Same.calls a0 a1 t230 _ A22.out).mono ?_); rintro e w40 ⟨rfl, hb⟩; have n0_ := Aside0.mk (below_step (by repeat (first | (with_reducible first | exact HB.out | apply below_alloc | apply pw_below_drewN | apply below_drew1) | exact HB.out)) hb); clear HB; have HB := n0_; clear n0_; (try clear hb); (try clear hb2); (try clear hk); (try clear hi)))
                          go_meet
                          case rel => exact ⟨_, (false), (by first | rfl | (simp; done) | (simp [*]; done)), H', ⟨by have := HJ5.out; first | omega | exact Nat.le_refl _⟩, ⟨by repeat (first | (with_reducible first | exact HB.out | apply below_alloc | apply pw_below_drewN | apply below_drew1) | exact HB.out)⟩⟩
                    · rw [if_neg c26] at H
                      have c26b0 : decide (t226 ≤ 0) = false := decide_eq_false c26
                      clear c26
                      by_cases c41 : t226 < 0
                      · rw [if_pos c41] at H
                        have c41b0 : decide (t226 < 0) = true := decide_eq_true c41
                        clear c41
                        by_cases c42 : t227 ≤ 0
                        · rw [if_pos c42] at H
                          have c42b0 : decide (t227 ≤ 0) = true := decide_eq_true c42
                          clear c42
                          have H' := Aside0.mk H
                          clear H
                          go_wp2_with (first | (go_at_call 16; (with_reducible refine (label_Compare.calls a1 a0 t229 _ A20.out).mono ?_); rintro e w43 ⟨rfl, hb⟩; have n0_ := Aside0.mk (below_step (by repeat (first | (with_reducible first | exact HB.out | apply below_alloc | apply pw_below_drewN | apply below_drew1) | exact HB.out)) hb); clear HB; have HB := n0_; clear n0_; (try clear hb); (try clear hb2); (try clear hk); (try clear hi)) | (go_at_call 15; (with_reducible refine (label_Same.calls a0 a1 t230 _ A22.out).mono ?_); rintro e w44 ⟨rfl, hb⟩; have n0_ := Aside0.mk (below_step (by repeat (first | (with_reducible first | exact HB.out | apply below_alloc | apply pw_below_drewN | apply below_drew1) | exact HB.out)) hb); clear HB; have HB := n0_; clear n0_; (try clear hb); (try clear hb2); (try clear hk); (try clear hi)))
                          go_meet
                          case rel => exact ⟨_, ((t228 == 0)), (by first | rfl | (simp; done) | (simp [*]; done)), H', ⟨by have := HJ5.out; first | omega | exact Nat.le_refl _⟩, ⟨by repeat (first | (with_reducible first | exact HB.out | apply below_alloc | apply pw_below_drewN | apply below_drew1) | exact HB.out)⟩⟩
                        · rw [if_neg c42] at H
                          have c42b0 : decide (t227 ≤ 0) = false := decide_eq_false c42
                          clear c42
                          have H' := Aside0.mk H
                          clear H
                          go_wp2_with (first | (go_at_call 16; (with_reducible refine (label_Compare.calls a1 a0 t229 _ A20.out).mono ?_); rintro e w45 ⟨rfl, hb⟩; have n0_ := Aside0.mk (below_step (by repeat (first | (with_reducible first | exact HB.out | apply below_alloc | apply pw_below_drewN | apply below_drew1) | exact HB.out)) hb); clear HB; have HB := n0_; clear n0_; (try clear hb); (try clear hb2); (try clear hk); (try clear hi)) | (go_at_call 15; (with_reducible refine (label_Same.calls a0 a1 t230 _ A22.out).mono ?_); rintro e w46 ⟨rfl, hb⟩; have n0_ := Aside0.mk (below_step (by repeat (first | (with_reducible first | exact HB.out | apply below_alloc | apply pw_below_drewN | apply below_drew1) | exact HB.out)) hb); clear HB; have HB := n0_; clear n0_; (try clear hb); (try clear hb2); (try clear hk); (try clear hi)))
                          go_meet
                          case rel => exact ⟨_, (false), (by first | rfl | (simp; done) | (simp [*]; done)), H', ⟨by have := HJ5.out; first | omega | exact Nat.le_refl _⟩, ⟨by repeat (first | (with_reducible first | exact HB.out | apply below_alloc | apply pw_below_drewN | apply below_drew1) | exact HB.out)⟩⟩
                      · rw [if_neg c41] at H
                        have c41b0 : decide (t226 < 0) = false := decide_eq_false c41
                        clear c41
                        have H' := Aside0.mk H
                        clear H
                        go_wp2_with (first | (go_at_call 16; (with_reducible refine (label_Compare.calls a1 a0 t229 _ A20.out).mono ?_); rintro e w47 ⟨rfl, hb⟩; have n0_ := Aside0.mk (below_step (by repeat (first | (with_reducible first | exact HB.out | apply below_alloc | apply pw_below_drewN | apply below_drew1) | exact HB.out)) hb); clear HB; have HB := n0_; clear n0_; (try clear hb); (try clear hb2); (try clear hk); (try clear hi)) | (go_at_call 15; (with_reducible refine (label_Same.calls a0 a1 t230 _ A22.out).mono ?_); rintro e w48 ⟨rfl, hb⟩; have n0_ := Aside0.mk (below_step (by repeat (first | (with_reducible first | exact HB.out | apply below_alloc | apply pw_below_drewN | apply below_drew1) | exact HB.out)) hb); clear HB; have HB := n0_; clear n0_; (try clear hb); (try clear hb2); (try clear hk); (try clear hi)))
                        go_meet
                        case rel => exact ⟨_, (false), (by first | rfl | (simp; done) | (simp [*]; done)), H', ⟨by have := HJ5.out; first | omega | exact Nat.le_refl _⟩, ⟨by repeat (first | (with_reducible first | exact HB.out | apply below_alloc | apply pw_below_drewN | apply below_drew1) | exact HB.out)⟩⟩
                · rw [if_neg c21] at H
                  have c21b0 : (t226 == (wrap64 (-t229))) = false := beq_eq_false_iff_ne.mpr c21
                  have c21b1 : (t226 != (wrap64 (-t229))) = true := bne_iff_ne.mpr c21
                  have H' := Aside0.mk H
                  clear H
                  go_wp2_with (first | (go_at_call 16; (with_reducible refine (label_Compare.calls a1 a0 t229 _ A20.out).mono ?_); rintro e w49 ⟨rfl, hb⟩; have n0_ := Aside0.mk (below_step (by repeat (first | (with_reducible first | exact HB.out | apply below_alloc | apply pw_below_drewN | apply below_drew1) | exact HB.out)) hb); clear HB; have HB := n0_; clear n0_; (try clear hb); (try clear hb2); (try clear hk); (try clear hi)))
                  go_meet
                  case rel => exact ⟨_, (true), (by first | rfl | (simp; done) | (simp [*]; done)), H', ⟨by have := HJ5.out; first | omega | exact Nat.le_refl _⟩, ⟨by repeat (first | (with_reducible first | exact HB.out | apply below_alloc | apply pw_below_drewN | apply below_drew1) | exact HB.out)⟩⟩
          case rest =>
            clear HC14
            try clear c1
            try clear c2
            try clear p2
            try clear c3
            try clear c4
            try clear c5
            try clear p6
            try clear c8
            try clear c8b0
            try clear c8b1
            try clear c9
            try clear c9b0
            try clear c9b1
            try clear c10
            try clear c16
            try clear c18
            try clear c18b0
            try clear c19
            try clear c19b0
            try clear c21
            try clear c21b0
            try clear c21b1
            try clear c23
            try clear c23b0
            try clear c23b1
            try clear c23b2
            try clear c26
            try clear c26b0
            try clear c27
            try clear c27b0
            try clear c28
            try clear c28b0
            try clear c31
            try clear c31b0
            try clear c36
            try clear c36b0
            try clear c41
            try clear c41b0
            try clear c42
            try clear c42b0
            try clear p2
            obtain ⟨kq, x80_13, rfl, HA, HJ13, HB⟩ := hcut
            cases kq with
            | zero => exact absurd HA.out (by simp [nameplatelaw01_LabelOrder.j1])
            | succ kj13 =>
              have H := HA.out
              clear HA
              simp only [nameplatelaw01_LabelOrder.j1] at H
              by_cases c50 : x80_13 = true
              · subst c50
                have H1 : (some false) = some r := by rw [if_pos rfl] at H; exact H
                clear H
                have H := H1
                clear H1
                exact absurd ((Option.some.inj H).trans hr_.out) (by decide)
              · replace c50 := Bool.eq_false_iff.mpr c50
                subst c50
                have H1 : ((label_Fold.f a0).bind fun t231 => ((label_Compare.f t231 a1).bind fun t232 => (if t232 = t226 then ((label_Fold.f t231).bind fun t233 => (if t233.toList = t231.toList then (if (t231.size : Int) = (a0.size : Int) then ((label_Same.f t231 a0).bind fun t234 => (some t234)) else (some false)) else (some false))) else (some false)))) = some r := by rw [if_neg (show ¬ (false = true) by decide)] at H; exact H
                clear H
                have H := H1
                clear H1
                replace H := Option.bind_eq_some_iff.mp H
                obtain ⟨t231, A510, H⟩ := H
                replace H : ((label_Compare.f t231 a1).bind fun t232 => (if t232 = t226 then ((label_Fold.f t231).bind fun t233 => (if t233.toList = t231.toList then (if (t231.size : Int) = (a0.size : Int) then ((label_Same.f t231 a0).bind fun t234 => (some t234)) else (some false)) else (some false))) else (some false))) = some r := H
                have A51 := Aside0.mk A510
                clear A510
                replace H := Option.bind_eq_some_iff.mp H
                obtain ⟨t232, A520, H⟩ := H
                replace H : (if t232 = t226 then ((label_Fold.f t231).bind fun t233 => (if t233.toList = t231.toList then (if (t231.size : Int) = (a0.size : Int) then ((label_Same.f t231 a0).bind fun t234 => (some t234)) else (some false)) else (some false))) else (some false)) = some r := H
                have A52 := Aside0.mk A520
                clear A520
                by_cases c53 : t232 = t226
                · rw [if_pos c53] at H
                  have c53b0 : (t232 == t226) = true := beq_iff_eq.mpr c53
                  have c53b1 : (t232 != t226) = false := bne_eq_false_iff_eq.mpr c53
                  clear c53
                  replace H := Option.bind_eq_some_iff.mp H
                  obtain ⟨t233, A540, H⟩ := H
                  replace H : (if t233.toList = t231.toList then (if (t231.size : Int) = (a0.size : Int) then ((label_Same.f t231 a0).bind fun t234 => (some t234)) else (some false)) else (some false)) = some r := H
                  have A54 := Aside0.mk A540
                  clear A540
                  by_cases c55 : t233.toList = t231.toList
                  · rw [if_pos c55] at H
                    have c55b0 : (t233.toList == t231.toList) = true := beq_iff_eq.mpr c55
                    have c55b1 : (t233.toList != t231.toList) = false := bne_eq_false_iff_eq.mpr c55
                    clear c55
                    by_cases c56 : (t231.size : Int) = (a0.size : Int)
                    · rw [if_pos c56] at H
                      have c56b0 : ((t231.size : Int) == (a0.size : Int)) = true := beq_iff_eq.mpr c56
                      have c56b1 : ((t231.size : Int) != (a0.size : Int)) = false := bne_eq_false_iff_eq.mpr c56
                      have c56b2 : (t231.size == a0.size) = true := by first | simpa using c56 | (simp at c56 ⊢; omega)
                      clear c56
                      replace H := Option.bind_eq_some_iff.mp H
                      obtain ⟨t234, A570, H⟩ := H
                      replace H : (some t234) = some r := H
                      have A57 := Aside0.mk A570
                      clear A570
                      obtain rfl := Option.some.inj H
                      go_wp2_with (first | ((with_reducible refine gate_callee (f := 14) rfl ?_); refine goesL_ (some 82) rfl rfl Try.func14 (by kernel_rfl) rfl #[.string a0] rfl (by (try simp only [List.map_toArray, List.map_cons, List.map_nil]); first | done | rfl | (simp only [List.length_drop, List.length_take]; rfl)) ?_; (with_reducible refine (label_Fold.calls a0 t231 _ A51.out).mono ?_); rintro e w58 ⟨rfl, hb⟩; refine ⟨_, rfl, ?_⟩; have n0_ := Aside0.mk (below_step (by repeat (first | (with_reducible first | exact HB.out | apply below_alloc | apply pw_below_drewN | apply below_drew1) | exact HB.out)) hb); clear HB; have HB := n0_; clear n0_; (try clear hb); (try clear hb2); (try clear hk); (try clear hi)) | ((with_reducible refine gate_callee (f := 16) rfl ?_); refine goesL_ (some 85) rfl rfl Try.func16 (by kernel_rfl) rfl #[.string t231, .string a1] rfl (by (try simp only [List.map_toArray, List.map_cons, List.map_nil]); first | done | rfl | (simp only [List.length_drop, List.length_take]; rfl)) ?_; (with_reducible refine (label_Compare.calls t231 a1 t232 _ A52.out).mono ?_); rintro e w59 ⟨rfl, hb⟩; refine ⟨_, rfl, ?_⟩; have n0_ := Aside0.mk (below_step (by repeat (first | (with_reducible first | exact HB.out | apply below_alloc | apply pw_below_drewN | apply below_drew1) | exact HB.out)) hb); clear HB; have HB := n0_; clear n0_; (try clear hb); (try clear hb2); (try clear hk); (try clear hi)) | (go_at_call 14; (with_reducible refine (label_Fold.calls t231 t233 _ A54.out).mono ?_); rintro e w60 ⟨rfl, hb⟩; have n0_ := Aside0.mk (below_step (by repeat (first | (with_reducible first | exact HB.out | apply below_alloc | apply pw_below_drewN | apply below_drew1) | exact HB.out)) hb); clear HB; have HB := n0_; clear n0_; (try clear hb); (try clear hb2); (try clear hk); (try clear hi)) | (go_at_call 15; (with_reducible refine (label_Same.calls t231 a0 t234 _ A57.out).mono ?_); rintro e w61 ⟨rfl, hb⟩; have n0_ := Aside0.mk (below_step (by repeat (first | (with_reducible first | exact HB.out | apply below_alloc | apply pw_below_drewN | apply below_drew1) | exact HB.out)) hb); clear HB; have HB := n0_; clear n0_; (try clear hb); (try clear hb2); (try clear hk); (try clear hi)))
                      go_ret
                      exact ⟨by first | rfl | (simp [errW_none, errW_some] <;> rfl) | (simp [*, errW_none, errW_some] <;> rfl), by repeat (first | (with_reducible first | exact HB.out | apply below_alloc | apply pw_below_drewN | apply below_drew1) | exact HB.out)⟩
                    · rw [if_neg c56] at H
                      have c56b0 : ((t231.size : Int) == (a0.size : Int)) = false := beq_eq_false_iff_ne.mpr c56
                      have c56b1 : ((t231.size : Int) != (a0.size : Int)) = true := bne_iff_ne.mpr c56
                      have c56b2 : (t231.size == a0.size) = false := by first | simpa using c56 | (simp at c56 ⊢; omega)
                      exact absurd ((Option.some.inj H).trans hr_.out) (by decide)
                  · rw [if_neg c55] at H
                    have c55b0 : (t233.toList == t231.toList) = false := beq_eq_false_iff_ne.mpr c55
                    have c55b1 : (t233.toList != t231.toList) = true := bne_iff_ne.mpr c55
                    exact absurd ((Option.some.inj H).trans hr_.out) (by decide)
                · rw [if_neg c53] at H
                  have c53b0 : (t232 == t226) = false := beq_eq_false_iff_ne.mpr c53
                  have c53b1 : (t232 != t226) = true := bne_iff_ne.mpr c53
                  exact absurd ((Option.some.inj H).trans hr_.out) (by decide)
  · replace c5 := Bool.eq_false_iff.mpr c5
    subst c5
    have H1 : (some false) = some r := by rw [if_neg (show ¬ (false = true) by decide)] at H; exact H
    clear H
    have H := H1
    clear H1
    exact absurd ((Option.some.inj H).trans hr_.out) (by decide)

/-- THE ONE PURE STATEMENT of nameplatelaw01_LabelOrder: yours. -/
def nameplatelaw01_LabelOrder.Pure : Prop := ∀ (a0 : ByteArray) (a1 : ByteArray) (a2 : ByteArray), a0.size ≤ 140737488351232 → a1.size ≤ 140737488351232 → a2.size ≤ 140737488351232 → ∃ k, nameplatelaw01_LabelOrder.f k a0 a1 a2 = some true
theorem nameplatelaw01_LabelOrder.walk (P : nameplatelaw01_LabelOrder.Pure) (a0 : ByteArray) (a1 : ByteArray) (a2 : ByteArray) (w : World) (w0 : a0.size ≤ 140737488351232) (w1 : a1.size ≤ 140737488351232) (w2 : a2.size ≤ 140737488351232) :
    Calls Try.prog 8 #[.string a0, .string a1, .string a2] w fun e w' => e = .returned (.bool true) ∧ Below w.heap.size w w' := by
  obtain ⟨k, h⟩ := P a0 a1 a2 w0 w1 w2
  refine (nameplatelaw01_LabelOrder.calls k a0 a1 a2 true w ⟨rfl⟩ h).mono ?_
  rintro e w' ⟨rfl, hd⟩
  exact ⟨rfl, hd⟩

end Go.Proofs.Ytnbjogebdjjepac.OAll
