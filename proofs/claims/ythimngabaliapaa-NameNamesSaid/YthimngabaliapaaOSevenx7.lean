/- This text proves, for each Go function named below, which plain Lean function its call computes, in whatever memory; a program of this session has written it. -/
import Derived.Test.YthimngabaliapaaOSevenx0
import Derived.Test.YthimngabaliapaaOSevenx1
import Derived.Test.YthimngabaliapaaOSevenx2
import Derived.Test.YthimngabaliapaaOSevenx3
import Derived.Test.YthimngabaliapaaOSevenx4
import Derived.Test.YthimngabaliapaaOSevenx6
namespace Go.Proofs.Ythimngabaliapaa.OSeven
open Go.RowKit Go.Proofs.YthimngabaliapaaW.PrintWords Go.Proofs.YthimngabaliapaaW.PrintLast Go.Proofs.YthimngabaliapaaW.PrintMore
attribute [local go_sem] max2_int min2_int max_two min_two max_three min_three max_four min_four   -- for this text's walks alone
set_option linter.unusedVariables false
set_option linter.unusedSimpArgs false

/-! ### nameplatelaw02_NameWild: function 5 -/
mutual
def nameplatelaw02_NameWild.j0 : Nat → ByteArray → ByteArray → ByteArray → Bool → Option (Bool)
  | 0, _, _, _, _ => none
  | k + 1, x0, x1, x2, x38 => if x38 = true then (some true) else ((name_Join.f k (⟨#[1, 42]⟩ : ByteArray) x0).bind fun bt204 => (if bt204.2 = 0 then ((name_Matches.f k bt204.1 x1).bind fun t206 => ((name_Wild.f k bt204.1).bind fun t207 => (if t207 = true then ((name_Under.f k x1 x0).bind fun t208 => (if t208 = true then ((name_Same.f k x1 x0).bind fun t209 => (if (t206 != (!t209)) = true then (nameplatelaw02_NameWild.j1 k x0 x1 x2 bt204.1 t206 true) else ((name_Matches.f k x0 x1).bind fun t210 => (if t210 = true then ((name_Wild.f k x0).bind fun t211 => (if t211 = true then ((name_Matches.f k bt204.1 bt204.1).bind fun t212 => (if t212 = true then ((name_Matches.f k bt204.1 x0).bind fun t213 => (nameplatelaw02_NameWild.j1 k x0 x1 x2 bt204.1 t206 t213)) else (nameplatelaw02_NameWild.j1 k x0 x1 x2 bt204.1 t206 true))) else (nameplatelaw02_NameWild.j1 k x0 x1 x2 bt204.1 t206 true))) else ((name_Matches.f k bt204.1 bt204.1).bind fun t214 => (if t214 = true then ((name_Matches.f k bt204.1 x0).bind fun t215 => (nameplatelaw02_NameWild.j1 k x0 x1 x2 bt204.1 t206 t215)) else (nameplatelaw02_NameWild.j1 k x0 x1 x2 bt204.1 t206 true))))))) else (if (t206 != false) = true then (nameplatelaw02_NameWild.j1 k x0 x1 x2 bt204.1 t206 true) else ((name_Matches.f k x0 x1).bind fun t216 => (if t216 = true then ((name_Wild.f k x0).bind fun t217 => (if t217 = true then ((name_Matches.f k bt204.1 bt204.1).bind fun t218 => (if t218 = true then ((name_Matches.f k bt204.1 x0).bind fun t219 => (nameplatelaw02_NameWild.j1 k x0 x1 x2 bt204.1 t206 t219)) else (nameplatelaw02_NameWild.j1 k x0 x1 x2 bt204.1 t206 true))) else (nameplatelaw02_NameWild.j1 k x0 x1 x2 bt204.1 t206 true))) else ((name_Matches.f k bt204.1 bt204.1).bind fun t220 => (if t220 = true then ((name_Matches.f k bt204.1 x0).bind fun t221 => (nameplatelaw02_NameWild.j1 k x0 x1 x2 bt204.1 t206 t221)) else (nameplatelaw02_NameWild.j1 k x0 x1 x2 bt204.1 t206 true)))))))) else (nameplatelaw02_NameWild.j1 k x0 x1 x2 bt204.1 t206 true)))) else (some true)))
def nameplatelaw02_NameWild.j1 : Nat → ByteArray → ByteArray → ByteArray → ByteArray → Bool → Bool → Option (Bool)
  | 0, _, _, _, _, _, _ => none
  | k + 1, x0, x1, x2, x7, x9, x85 => if x85 = true then (some false) else ((name_Make.f (([x2] : List ByteArray))).bind fun bt225 => (if bt225.2 = 0 then ((name_Join.f k bt225.1 x1).bind fun bt227 => (if bt227.2 = 0 then ((name_Matches.f k x7 bt227.1).bind fun t229 => (if x9 = true then (some (t229 == true)) else ((name_Same.f k x1 x0).bind fun t230 => (some (t229 == t230))))) else (some true))) else (some true)))
end
def nameplatelaw02_NameWild.f (k : Nat) (a0 : ByteArray) (a1 : ByteArray) (a2 : ByteArray) : Option (Bool) := (nameplatelaw02_lives.f k).bind fun t201 => (if t201 = true then (if (a0.size : Int) > 400 then (nameplatelaw02_NameWild.j0 k a0 a1 a2 true) else (if (a1.size : Int) > 400 then (nameplatelaw02_NameWild.j0 k a0 a1 a2 true) else (if (a2.size : Int) > 63 then (nameplatelaw02_NameWild.j0 k a0 a1 a2 true) else ((name_Check.f k a0).bind fun t202 => (if t202 = 0 then ((name_Check.f k a1).bind fun t203 => (nameplatelaw02_NameWild.j0 k a0 a1 a2 (t203 != 0))) else (nameplatelaw02_NameWild.j0 k a0 a1 a2 true)))))) else (some false))
theorem nameplatelaw02_NameWild.mono_l : ∀ k, (∀ y0 y1 y2 y3, LeO (nameplatelaw02_NameWild.j0 k y0 y1 y2 y3) (nameplatelaw02_NameWild.j0 (k + 1) y0 y1 y2 y3)) ∧ (∀ y0 y1 y2 y3 y4 y5, LeO (nameplatelaw02_NameWild.j1 k y0 y1 y2 y3 y4 y5) (nameplatelaw02_NameWild.j1 (k + 1) y0 y1 y2 y3 y4 y5))
  | 0 => ⟨fun _ _ _ _ r h => by simp [nameplatelaw02_NameWild.j0] at h, fun _ _ _ _ _ _ r h => by simp [nameplatelaw02_NameWild.j1] at h⟩
  | k + 1 => by
    obtain ⟨ih0, ih1⟩ := nameplatelaw02_NameWild.mono_l k
    refine ⟨?_, ?_⟩
    · intro y0 y1 y2 y3
      unfold nameplatelaw02_NameWild.j0
      repeat' first
      | (with_reducible exact ih0 _ _ _ _)
      | (with_reducible exact ih1 _ _ _ _ _ _)
      | (with_reducible exact name_Check.mono _ _)
      | (with_reducible exact name_Join.mono _ _ _)
      | (with_reducible exact name_Matches.mono _ _ _)
      | (with_reducible exact name_Same.mono _ _ _)
      | (with_reducible exact name_Under.mono _ _ _)
      | (with_reducible exact name_Wild.mono _ _)
      | (with_reducible exact nameplatelaw02_lives.mono _)
      | (with_reducible exact LeO.refl _)
      | (with_reducible exact LeO.none _)
      | (with_reducible refine LeO.ite ?_ ?_)
      | (with_reducible refine LeO.bind ?_ (fun _ => ?_))
      | exact ih0 _ _ _ _
      | exact ih1 _ _ _ _ _ _
      | exact name_Check.mono _ _
      | exact name_Join.mono _ _ _
      | exact name_Matches.mono _ _ _
      | exact name_Same.mono _ _ _
      | exact name_Under.mono _ _ _
      | exact name_Wild.mono _ _
      | exact nameplatelaw02_lives.mono _
      | exact LeO.none _
      | refine LeO.ite ?_ ?_
      | refine LeO.bind ?_ (fun _ => ?_)
    · intro y0 y1 y2 y3 y4 y5
      unfold nameplatelaw02_NameWild.j1
      repeat' first
      | (with_reducible exact ih0 _ _ _ _)
      | (with_reducible exact ih1 _ _ _ _ _ _)
      | (with_reducible exact name_Check.mono _ _)
      | (with_reducible exact name_Join.mono _ _ _)
      | (with_reducible exact name_Matches.mono _ _ _)
      | (with_reducible exact name_Same.mono _ _ _)
      | (with_reducible exact name_Under.mono _ _ _)
      | (with_reducible exact name_Wild.mono _ _)
      | (with_reducible exact nameplatelaw02_lives.mono _)
      | (with_reducible exact LeO.refl _)
      | (with_reducible exact LeO.none _)
      | (with_reducible refine LeO.ite ?_ ?_)
      | (with_reducible refine LeO.bind ?_ (fun _ => ?_))
      | exact ih0 _ _ _ _
      | exact ih1 _ _ _ _ _ _
      | exact name_Check.mono _ _
      | exact name_Join.mono _ _ _
      | exact name_Matches.mono _ _ _
      | exact name_Same.mono _ _ _
      | exact name_Under.mono _ _ _
      | exact name_Wild.mono _ _
      | exact nameplatelaw02_lives.mono _
      | exact LeO.none _
      | refine LeO.ite ?_ ?_
      | refine LeO.bind ?_ (fun _ => ?_)
theorem nameplatelaw02_NameWild.mono : ∀ a0 a1 a2 k, LeO (nameplatelaw02_NameWild.f k a0 a1 a2) (nameplatelaw02_NameWild.f (k + 1) a0 a1 a2) := by
  intro a0 a1 a2 k
  obtain ⟨ih0, ih1⟩ := nameplatelaw02_NameWild.mono_l k
  unfold nameplatelaw02_NameWild.f
  repeat' first
      | (with_reducible exact ih0 _ _ _ _)
      | (with_reducible exact ih1 _ _ _ _ _ _)
      | (with_reducible exact name_Check.mono _ _)
      | (with_reducible exact name_Join.mono _ _ _)
      | (with_reducible exact name_Matches.mono _ _ _)
      | (with_reducible exact name_Same.mono _ _ _)
      | (with_reducible exact name_Under.mono _ _ _)
      | (with_reducible exact name_Wild.mono _ _)
      | (with_reducible exact nameplatelaw02_lives.mono _)
      | (with_reducible exact LeO.refl _)
      | (with_reducible exact LeO.none _)
      | (with_reducible refine LeO.ite ?_ ?_)
      | (with_reducible refine LeO.bind ?_ (fun _ => ?_))
      | exact ih0 _ _ _ _
      | exact ih1 _ _ _ _ _ _
      | exact name_Check.mono _ _
      | exact name_Join.mono _ _ _
      | exact name_Matches.mono _ _ _
      | exact name_Same.mono _ _ _
      | exact name_Under.mono _ _ _
      | exact name_Wild.mono _ _
      | exact nameplatelaw02_lives.mono _
      | exact LeO.none _
      | refine LeO.ite ?_ ?_
      | refine LeO.bind ?_ (fun _ => ?_)
set_option maxHeartbeats 8000000 in
set_option maxRecDepth 100000 in
theorem nameplatelaw02_NameWild.calls (k : Nat) (a0 : ByteArray) (a1 : ByteArray) (a2 : ByteArray) (r : Bool) (w : World) (hr_ : Aside0 (r = true)) (h : nameplatelaw02_NameWild.f k a0 a1 a2 = some r) :
    Calls Try.prog 5 #[.string a0, .string a1, .string a2] w fun e w' => e = .returned (.bool r) ∧ Below w.heap.size w w' := by
  have HB := Aside0.mk (Below.refl w.heap.size w)
  have H : ((nameplatelaw02_lives.f k).bind fun t201 => (if t201 = true then (if (a0.size : Int) > 400 then (nameplatelaw02_NameWild.j0 k a0 a1 a2 true) else (if (a1.size : Int) > 400 then (nameplatelaw02_NameWild.j0 k a0 a1 a2 true) else (if (a2.size : Int) > 63 then (nameplatelaw02_NameWild.j0 k a0 a1 a2 true) else ((name_Check.f k a0).bind fun t202 => (if t202 = 0 then ((name_Check.f k a1).bind fun t203 => (nameplatelaw02_NameWild.j0 k a0 a1 a2 (t203 != 0))) else (nameplatelaw02_NameWild.j0 k a0 a1 a2 true)))))) else (some false))) = some r := h
  clear h
  replace H := Option.bind_eq_some_iff.mp H
  obtain ⟨t201, A40, H⟩ := H
  replace H : (if t201 = true then (if (a0.size : Int) > 400 then (nameplatelaw02_NameWild.j0 k a0 a1 a2 true) else (if (a1.size : Int) > 400 then (nameplatelaw02_NameWild.j0 k a0 a1 a2 true) else (if (a2.size : Int) > 63 then (nameplatelaw02_NameWild.j0 k a0 a1 a2 true) else ((name_Check.f k a0).bind fun t202 => (if t202 = 0 then ((name_Check.f k a1).bind fun t203 => (nameplatelaw02_NameWild.j0 k a0 a1 a2 (t203 != 0))) else (nameplatelaw02_NameWild.j0 k a0 a1 a2 true)))))) else (some false)) = some r := H
  have A4 := Aside0.mk A40
  clear A40
  by_cases c5 : t201 = true
  · subst c5
    have H1 : (if (a0.size : Int) > 400 then (nameplatelaw02_NameWild.j0 k a0 a1 a2 true) else (if (a1.size : Int) > 400 then (nameplatelaw02_NameWild.j0 k a0 a1 a2 true) else (if (a2.size : Int) > 63 then (nameplatelaw02_NameWild.j0 k a0 a1 a2 true) else ((name_Check.f k a0).bind fun t202 => (if t202 = 0 then ((name_Check.f k a1).bind fun t203 => (nameplatelaw02_NameWild.j0 k a0 a1 a2 (t203 != 0))) else (nameplatelaw02_NameWild.j0 k a0 a1 a2 true)))))) = some r := by rw [if_pos rfl] at H; exact H
    clear H
    have H := H1
    clear H1
    have HC6 := Aside0.mk H
    clear H
    go_enter Try.func5, Try.ntmps5
    go_upto_region 3 with (first | ((with_reducible refine gate_callee (f := 11) rfl ?_); refine goesL_ (some 14) rfl rfl Try.func11 (by kernel_rfl) rfl #[] rfl (by (try simp only [List.map_toArray, List.map_cons, List.map_nil]); first | done | rfl | (simp only [List.length_drop, List.length_take]; rfl)) ?_; (with_reducible refine (nameplatelaw02_lives.calls k  true _ A4.out).mono ?_); rintro e w7 ⟨rfl, hb⟩; refine ⟨_, rfl, ?_⟩; have n0_ := Aside0.mk (below_step (by repeat (first | (with_reducible first | exact HB.out | apply below_alloc | apply pw_below_drewN | apply below_drew1) | exact HB.out)) hb); clear HB; have HB := n0_; clear n0_; (try clear hb); (try clear hb2); (try clear hk); (try clear hi)))
    (try simp only [Act.put, List.setIfInBounds_toArray, List.set_cons_zero, List.set_cons_succ])
    go_cut [38] (fun v38 wc => ∃ (kq : Nat) (x38_5 : Bool), v38 = .bool x38_5 ∧ Aside0 (nameplatelaw02_NameWild.j0 kq a0 a1 a2 x38_5 = some r) ∧ Aside0 (kq ≤ k) ∧ Aside0 (Below w.heap.size w wc))
    case first =>
      have H := HC6.out
      clear HC6
      by_cases c8 : (a0.size : Int) > 400
      · rw [if_pos c8] at H
        have c8b0 : decide (400 < (a0.size : Int)) = true := decide_eq_true c8
        have c8b1 : decide (400 < a0.size) = true := decide_eq_true (by omega)
        clear c8
        (first | rw [c8b0] | (simp only [i64_w, i32_w]; rw [c8b0]) | skip)
        have H' := Aside0.mk H
        clear H
        go_wp2
        go_meet
        case rel => exact ⟨_, (true), (by first | rfl | (simp; done) | (simp [*]; done)), H', ⟨by first | omega | exact Nat.le_refl _⟩, ⟨by repeat (first | (with_reducible first | exact HB.out | apply below_alloc | apply pw_below_drewN | apply below_drew1) | exact HB.out)⟩⟩
      · rw [if_neg c8] at H
        have c8b0 : decide (400 < (a0.size : Int)) = false := decide_eq_false c8
        have c8b1 : decide (400 < a0.size) = false := decide_eq_false (by omega)
        clear c8
        (first | rw [c8b0] | (simp only [i64_w, i32_w]; rw [c8b0]) | skip)
        by_cases c9 : (a1.size : Int) > 400
        · rw [if_pos c9] at H
          have c9b0 : decide (400 < (a1.size : Int)) = true := decide_eq_true c9
          have c9b1 : decide (400 < a1.size) = true := decide_eq_true (by omega)
          clear c9
          have H' := Aside0.mk H
          clear H
          go_wp2
          go_meet
          case rel => exact ⟨_, (true), (by first | rfl | (simp; done) | (simp [*]; done)), H', ⟨by first | omega | exact Nat.le_refl _⟩, ⟨by repeat (first | (with_reducible first | exact HB.out | apply below_alloc | apply pw_below_drewN | apply below_drew1) | exact HB.out)⟩⟩
        · rw [if_neg c9] at H
          have c9b0 : decide (400 < (a1.size : Int)) = false := decide_eq_false c9
          have c9b1 : decide (400 < a1.size) = false := decide_eq_false (by omega)
          clear c9
          by_cases c10 : (a2.size : Int) > 63
          · rw [if_pos c10] at H
            have c10b0 : decide (63 < (a2.size : Int)) = true := decide_eq_true c10
            have c10b1 : decide (63 < a2.size) = true := decide_eq_true (by omega)
            clear c10
            have H' := Aside0.mk H
            clear H
            go_wp2
            go_meet
            case rel => exact ⟨_, (true), (by first | rfl | (simp; done) | (simp [*]; done)), H', ⟨by first | omega | exact Nat.le_refl _⟩, ⟨by repeat (first | (with_reducible first | exact HB.out | apply below_alloc | apply pw_below_drewN | apply below_drew1) | exact HB.out)⟩⟩
          · rw [if_neg c10] at H
            have c10b0 : decide (63 < (a2.size : Int)) = false := decide_eq_false c10
            have c10b1 : decide (63 < a2.size) = false := decide_eq_false (by omega)
            clear c10
            replace H := Option.bind_eq_some_iff.mp H
            obtain ⟨t202, A110, H⟩ := H
            replace H : (if t202 = 0 then ((name_Check.f k a1).bind fun t203 => (nameplatelaw02_NameWild.j0 k a0 a1 a2 (t203 != 0))) else (nameplatelaw02_NameWild.j0 k a0 a1 a2 true)) = some r := H
            have A11 := Aside0.mk A110
            clear A110
            by_cases c12 : t202 = 0
            · rw [if_pos c12] at H
              have c12b0 : (t202 == 0) = true := beq_iff_eq.mpr c12
              have c12b1 : (t202 != 0) = false := bne_eq_false_iff_eq.mpr c12
              clear c12
              replace H := Option.bind_eq_some_iff.mp H
              obtain ⟨t203, A130, H⟩ := H
              replace H : (nameplatelaw02_NameWild.j0 k a0 a1 a2 (t203 != 0)) = some r := H
              have A13 := Aside0.mk A130
              clear A130
              have H' := Aside0.mk H
              clear H
              go_wp2_with (first | (go_at_call 12; (with_reducible refine (name_Check.calls k a0 t202 _ A11.out).mono ?_); rintro e w' ⟨rfl, ⟨nd, rfl⟩⟩) | (go_at_call 12; (with_reducible refine (name_Check.calls k a1 t203 _ A13.out).mono ?_); rintro e w' ⟨rfl, ⟨nd, rfl⟩⟩))
              go_meet
              case rel => exact ⟨_, ((t203 != 0)), (by first | rfl | (simp; done) | (simp [*]; done)), H', ⟨by first | omega | exact Nat.le_refl _⟩, ⟨by repeat (first | (with_reducible first | exact HB.out | apply below_alloc | apply pw_below_drewN | apply below_drew1) | exact HB.out)⟩⟩
            · rw [if_neg c12] at H
              have c12b0 : (t202 == 0) = false := beq_eq_false_iff_ne.mpr c12
              have c12b1 : (t202 != 0) = true := bne_iff_ne.mpr c12
              have H' := Aside0.mk H
              clear H
              go_wp2_with (first | (go_at_call 12; (with_reducible refine (name_Check.calls k a0 t202 _ A11.out).mono ?_); rintro e w' ⟨rfl, ⟨nd, rfl⟩⟩))
              go_meet
              case rel => exact ⟨_, (true), (by first | rfl | (simp; done) | (simp [*]; done)), H', ⟨by first | omega | exact Nat.le_refl _⟩, ⟨by repeat (first | (with_reducible first | exact HB.out | apply below_alloc | apply pw_below_drewN | apply below_drew1) | exact HB.out)⟩⟩
    case rest =>
      clear HC6
      try clear c1
      try clear p2
      try clear c5
      try clear c8
      try clear c8b0
      try clear c8b1
      try clear c9
      try clear c9b0
      try clear c9b1
      try clear c10
      try clear c10b0
      try clear c10b1
      try clear c11
      try clear c12
      try clear c12b0
      try clear c12b1
      obtain ⟨kq, x38_5, rfl, HA, HJ5, HB⟩ := hcut
      cases kq with
      | zero => exact absurd HA.out (by simp [nameplatelaw02_NameWild.j0])
      | succ kj5 =>
        have H := HA.out
        clear HA
        simp only [nameplatelaw02_NameWild.j0] at H
        by_cases c14 : x38_5 = true
        · subst c14
          have H1 : (some true) = some r := by rw [if_pos rfl] at H; exact H
          clear H
          have H := H1
          clear H1
          obtain rfl := Option.some.inj H
          go_wp2
          go_ret
          exact ⟨by first | rfl | (simp [errW_none, errW_some] <;> rfl) | (simp [*, errW_none, errW_some] <;> rfl), by repeat (first | (with_reducible first | exact HB.out | apply below_alloc | apply pw_below_drewN | apply below_drew1) | exact HB.out)⟩
        · replace c14 := Bool.eq_false_iff.mpr c14
          subst c14
          have H1 : ((name_Join.f kj5 (⟨#[1, 42]⟩ : ByteArray) a0).bind fun bt204 => (if bt204.2 = 0 then ((name_Matches.f kj5 bt204.1 a1).bind fun t206 => ((name_Wild.f kj5 bt204.1).bind fun t207 => (if t207 = true then ((name_Under.f kj5 a1 a0).bind fun t208 => (if t208 = true then ((name_Same.f kj5 a1 a0).bind fun t209 => (if (t206 != (!t209)) = true then (nameplatelaw02_NameWild.j1 kj5 a0 a1 a2 bt204.1 t206 true) else ((name_Matches.f kj5 a0 a1).bind fun t210 => (if t210 = true then ((name_Wild.f kj5 a0).bind fun t211 => (if t211 = true then ((name_Matches.f kj5 bt204.1 bt204.1).bind fun t212 => (if t212 = true then ((name_Matches.f kj5 bt204.1 a0).bind fun t213 => (nameplatelaw02_NameWild.j1 kj5 a0 a1 a2 bt204.1 t206 t213)) else (nameplatelaw02_NameWild.j1 kj5 a0 a1 a2 bt204.1 t206 true))) else (nameplatelaw02_NameWild.j1 kj5 a0 a1 a2 bt204.1 t206 true))) else ((name_Matches.f kj5 bt204.1 bt204.1).bind fun t214 => (if t214 = true then ((name_Matches.f kj5 bt204.1 a0).bind fun t215 => (nameplatelaw02_NameWild.j1 kj5 a0 a1 a2 bt204.1 t206 t215)) else (nameplatelaw02_NameWild.j1 kj5 a0 a1 a2 bt204.1 t206 true))))))) else (if (t206 != false) = true then (nameplatelaw02_NameWild.j1 kj5 a0 a1 a2 bt204.1 t206 true) else ((name_Matches.f kj5 a0 a1).bind fun t216 => (if t216 = true then ((name_Wild.f kj5 a0).bind fun t217 => (if t217 = true then ((name_Matches.f kj5 bt204.1 bt204.1).bind fun t218 => (if t218 = true then ((name_Matches.f kj5 bt204.1 a0).bind fun t219 => (nameplatelaw02_NameWild.j1 kj5 a0 a1 a2 bt204.1 t206 t219)) else (nameplatelaw02_NameWild.j1 kj5 a0 a1 a2 bt204.1 t206 true))) else (nameplatelaw02_NameWild.j1 kj5 a0 a1 a2 bt204.1 t206 true))) else ((name_Matches.f kj5 bt204.1 bt204.1).bind fun t220 => (if t220 = true then ((name_Matches.f kj5 bt204.1 a0).bind fun t221 => (nameplatelaw02_NameWild.j1 kj5 a0 a1 a2 bt204.1 t206 t221)) else (nameplatelaw02_NameWild.j1 kj5 a0 a1 a2 bt204.1 t206 true)))))))) else (nameplatelaw02_NameWild.j1 kj5 a0 a1 a2 bt204.1 t206 true)))) else (some true))) = some r := by rw [if_neg (show ¬ (false = true) by decide)] at H; exact H
          clear H
          have H := H1
          clear H1
          replace H := Option.bind_eq_some_iff.mp H
          obtain ⟨⟨t204, t205⟩, A150, H⟩ := H
          replace H : (if t205 = 0 then ((name_Matches.f kj5 t204 a1).bind fun t206 => ((name_Wild.f kj5 t204).bind fun t207 => (if t207 = true then ((name_Under.f kj5 a1 a0).bind fun t208 => (if t208 = true then ((name_Same.f kj5 a1 a0).bind fun t209 => (if (t206 != (!t209)) = true then (nameplatelaw02_NameWild.j1 kj5 a0 a1 a2 t204 t206 true) else ((name_Matches.f kj5 a0 a1).bind fun t210 => (if t210 = true then ((name_Wild.f kj5 a0).bind fun t211 => (if t211 = true then ((name_Matches.f kj5 t204 t204).bind fun t212 => (if t212 = true then ((name_Matches.f kj5 t204 a0).bind fun t213 => (nameplatelaw02_NameWild.j1 kj5 a0 a1 a2 t204 t206 t213)) else (nameplatelaw02_NameWild.j1 kj5 a0 a1 a2 t204 t206 true))) else (nameplatelaw02_NameWild.j1 kj5 a0 a1 a2 t204 t206 true))) else ((name_Matches.f kj5 t204 t204).bind fun t214 => (if t214 = true then ((name_Matches.f kj5 t204 a0).bind fun t215 => (nameplatelaw02_NameWild.j1 kj5 a0 a1 a2 t204 t206 t215)) else (nameplatelaw02_NameWild.j1 kj5 a0 a1 a2 t204 t206 true))))))) else (if (t206 != false) = true then (nameplatelaw02_NameWild.j1 kj5 a0 a1 a2 t204 t206 true) else ((name_Matches.f kj5 a0 a1).bind fun t216 => (if t216 = true then ((name_Wild.f kj5 a0).bind fun t217 => (if t217 = true then ((name_Matches.f kj5 t204 t204).bind fun t218 => (if t218 = true then ((name_Matches.f kj5 t204 a0).bind fun t219 => (nameplatelaw02_NameWild.j1 kj5 a0 a1 a2 t204 t206 t219)) else (nameplatelaw02_NameWild.j1 kj5 a0 a1 a2 t204 t206 true))) else (nameplatelaw02_NameWild.j1 kj5 a0 a1 a2 t204 t206 true))) else ((name_Matches.f kj5 t204 t204).bind fun t220 => (if t220 = true then ((name_Matches.f kj5 t204 a0).bind fun t221 => (nameplatelaw02_NameWild.j1 kj5 a0 a1 a2 t204 t206 t221)) else (nameplatelaw02_NameWild.j1 kj5 a0 a1 a2 t204 t206 true)))))))) else (nameplatelaw02_NameWild.j1 kj5 a0 a1 a2 t204 t206 true)))) else (some true)) = some r := H
          have A15 := Aside0.mk A150
          clear A150
          by_cases c16 : t205 = 0
          · rw [if_pos c16] at H
            have c16b0 : (t205 == 0) = true := beq_iff_eq.mpr c16
            have c16b1 : (t205 != 0) = false := bne_eq_false_iff_eq.mpr c16
            clear c16
            replace H := Option.bind_eq_some_iff.mp H
            obtain ⟨t206, A170, H⟩ := H
            replace H : ((name_Wild.f kj5 t204).bind fun t207 => (if t207 = true then ((name_Under.f kj5 a1 a0).bind fun t208 => (if t208 = true then ((name_Same.f kj5 a1 a0).bind fun t209 => (if (t206 != (!t209)) = true then (nameplatelaw02_NameWild.j1 kj5 a0 a1 a2 t204 t206 true) else ((name_Matches.f kj5 a0 a1).bind fun t210 => (if t210 = true then ((name_Wild.f kj5 a0).bind fun t211 => (if t211 = true then ((name_Matches.f kj5 t204 t204).bind fun t212 => (if t212 = true then ((name_Matches.f kj5 t204 a0).bind fun t213 => (nameplatelaw02_NameWild.j1 kj5 a0 a1 a2 t204 t206 t213)) else (nameplatelaw02_NameWild.j1 kj5 a0 a1 a2 t204 t206 true))) else (nameplatelaw02_NameWild.j1 kj5 a0 a1 a2 t204 t206 true))) else ((name_Matches.f kj5 t204 t204).bind fun t214 => (if t214 = true then ((name_Matches.f kj5 t204 a0).bind fun t215 => (nameplatelaw02_NameWild.j1 kj5 a0 a1 a2 t204 t206 t215)) else (nameplatelaw02_NameWild.j1 kj5 a0 a1 a2 t204 t206 true))))))) else (if (t206 != false) = true then (nameplatelaw02_NameWild.j1 kj5 a0 a1 a2 t204 t206 true) else ((name_Matches.f kj5 a0 a1).bind fun t216 => (if t216 = true then ((name_Wild.f kj5 a0).bind fun t217 => (if t217 = true then ((name_Matches.f kj5 t204 t204).bind fun t218 => (if t218 = true then ((name_Matches.f kj5 t204 a0).bind fun t219 => (nameplatelaw02_NameWild.j1 kj5 a0 a1 a2 t204 t206 t219)) else (nameplatelaw02_NameWild.j1 kj5 a0 a1 a2 t204 t206 true))) else (nameplatelaw02_NameWild.j1 kj5 a0 a1 a2 t204 t206 true))) else ((name_Matches.f kj5 t204 t204).bind fun t220 => (if t220 = true then ((name_Matches.f kj5 t204 a0).bind fun t221 => (nameplatelaw02_NameWild.j1 kj5 a0 a1 a2 t204 t206 t221)) else (nameplatelaw02_NameWild.j1 kj5 a0 a1 a2 t204 t206 true)))))))) else (nameplatelaw02_NameWild.j1 kj5 a0 a1 a2 t204 t206 true))) = some r := H
            have A17 := Aside0.mk A170
            clear A170
            have HC18 := Aside0.mk H
            clear H
            go_upto_region 9 with (first | ((with_reducible refine gate_callee (f := 15) rfl ?_); refine goesL_ (some 41) rfl rfl Try.func15 (by kernel_rfl) rfl #[.string (⟨#[1, 42]⟩ : ByteArray), .string a0] rfl (by (try simp only [List.map_toArray, List.map_cons, List.map_nil]); first | done | rfl | (simp only [List.length_drop, List.length_take]; rfl)) ?_; (with_reducible refine (name_Join.calls kj5 (⟨#[1, 42]⟩ : ByteArray) a0 t204 t205 _ A15.out).mono ?_); rintro e w19 ⟨rfl, hb⟩; refine ⟨_, rfl, ?_⟩; have n0_ := Aside0.mk (below_step (by repeat (first | (with_reducible first | exact HB.out | apply below_alloc | apply pw_below_drewN | apply below_drew1) | exact HB.out)) hb); clear HB; have HB := n0_; clear n0_; (try clear hb); (try clear hb2); (try clear hk); (try clear hi)) | ((with_reducible refine gate_callee (f := 17) rfl ?_); refine goesL_ (some 48) rfl rfl Try.func17 (by kernel_rfl) rfl #[.string t204, .string a1] rfl (by (try simp only [List.map_toArray, List.map_cons, List.map_nil]); first | done | rfl | (simp only [List.length_drop, List.length_take]; rfl)) ?_; (with_reducible refine (name_Matches.calls kj5 t204 a1 t206 _ A17.out).mono ?_); rintro e w20 ⟨rfl, hb⟩; refine ⟨_, rfl, ?_⟩; have n0_ := Aside0.mk (below_step (by repeat (first | (with_reducible first | exact HB.out | apply below_alloc | apply pw_below_drewN | apply below_drew1) | exact HB.out)) hb); clear HB; have HB := n0_; clear n0_; (try clear hb); (try clear hb2); (try clear hk); (try clear hi)))
            (try simp only [Act.put, List.setIfInBounds_toArray, List.set_cons_zero, List.set_cons_succ])
            go_cut [85] (fun v85 wc => ∃ (kq : Nat) (x85_17 : Bool), v85 = .bool x85_17 ∧ Aside0 (nameplatelaw02_NameWild.j1 kq a0 a1 a2 t204 t206 x85_17 = some r) ∧ Aside0 (kq ≤ kj5) ∧ Aside0 (Below w.heap.size w wc))
            case first =>
              have H := HC18.out
              clear HC18
              replace H := Option.bind_eq_some_iff.mp H
              obtain ⟨t207, A210, H⟩ := H
              replace H : (if t207 = true then ((name_Under.f kj5 a1 a0).bind fun t208 => (if t208 = true then ((name_Same.f kj5 a1 a0).bind fun t209 => (if (t206 != (!t209)) = true then (nameplatelaw02_NameWild.j1 kj5 a0 a1 a2 t204 t206 true) else ((name_Matches.f kj5 a0 a1).bind fun t210 => (if t210 = true then ((name_Wild.f kj5 a0).bind fun t211 => (if t211 = true then ((name_Matches.f kj5 t204 t204).bind fun t212 => (if t212 = true then ((name_Matches.f kj5 t204 a0).bind fun t213 => (nameplatelaw02_NameWild.j1 kj5 a0 a1 a2 t204 t206 t213)) else (nameplatelaw02_NameWild.j1 kj5 a0 a1 a2 t204 t206 true))) else (nameplatelaw02_NameWild.j1 kj5 a0 a1 a2 t204 t206 true))) else ((name_Matches.f kj5 t204 t204).bind fun t214 => (if t214 = true then ((name_Matches.f kj5 t204 a0).bind fun t215 => (nameplatelaw02_NameWild.j1 kj5 a0 a1 a2 t204 t206 t215)) else (nameplatelaw02_NameWild.j1 kj5 a0 a1 a2 t204 t206 true))))))) else (if (t206 != false) = true then (nameplatelaw02_NameWild.j1 kj5 a0 a1 a2 t204 t206 true) else ((name_Matches.f kj5 a0 a1).bind fun t216 => (if t216 = true then ((name_Wild.f kj5 a0).bind fun t217 => (if t217 = true then ((name_Matches.f kj5 t204 t204).bind fun t218 => (if t218 = true then ((name_Matches.f kj5 t204 a0).bind fun t219 => (nameplatelaw02_NameWild.j1 kj5 a0 a1 a2 t204 t206 t219)) else (nameplatelaw02_NameWild.j1 kj5 a0 a1 a2 t204 t206 true))) else (nameplatelaw02_NameWild.j1 kj5 a0 a1 a2 t204 t206 true))) else ((name_Matches.f kj5 t204 t204).bind fun t220 => (if t220 = true then ((name_Matches.f kj5 t204 a0).bind fun t221 => (nameplatelaw02_NameWild.j1 kj5 a0 a1 a2 t204 t206 t221)) else (nameplatelaw02_NameWild.j1 kj5 a0 a1 a2 t204 t206 true)))))))) else (nameplatelaw02_NameWild.j1 kj5 a0 a1 a2 t204 t206 true)) = some r := H
              have A21 := Aside0.mk A210
              clear A210
              by_cases c22 : t207 = true
              · subst c22
                have H1 : ((name_Under.f kj5 a1 a0).bind fun t208 => (if t208 = true then ((name_Same.f kj5 a1 a0).bind fun t209 => (if (t206 != (!t209)) = true then (nameplatelaw02_NameWild.j1 kj5 a0 a1 a2 t204 t206 true) else ((name_Matches.f kj5 a0 a1).bind fun t210 => (if t210 = true then ((name_Wild.f kj5 a0).bind fun t211 => (if t211 = true then ((name_Matches.f kj5 t204 t204).bind fun t212 => (if t212 = true then ((name_Matches.f kj5 t204 a0).bind fun t213 => (nameplatelaw02_NameWild.j1 kj5 a0 a1 a2 t204 t206 t213)) else (nameplatelaw02_NameWild.j1 kj5 a0 a1 a2 t204 t206 true))) else (nameplatelaw02_NameWild.j1 kj5 a0 a1 a2 t204 t206 true))) else ((name_Matches.f kj5 t204 t204).bind fun t214 => (if t214 = true then ((name_Matches.f kj5 t204 a0).bind fun t215 => (nameplatelaw02_NameWild.j1 kj5 a0 a1 a2 t204 t206 t215)) else (nameplatelaw02_NameWild.j1 kj5 a0 a1 a2 t204 t206 true))))))) else (if (t206 != false) = true then (nameplatelaw02_NameWild.j1 kj5 a0 a1 a2 t204 t206 true) else ((name_Matches.f kj5 a0 a1).bind fun t216 => (if t216 = true then ((name_Wild.f kj5 a0).bind fun t217 => (if t217 = true then ((name_Matches.f kj5 t204 t204).bind fun t218 => (if t218 = true then ((name_Matches.f kj5 t204 a0).bind fun t219 => (nameplatelaw02_NameWild.j1 kj5 a0 a1 a2 t204 t206 t219)) else (nameplatelaw02_NameWild.j1 kj5 a0 a1 a2 t204 t206 true))) else (nameplatelaw02_NameWild.j1 kj5 a0 a1 a2 t204 t206 true))) else ((name_Matches.f kj5 t204 t204).bind fun t220 => (if t220 = true then ((name_Matches.f kj5 t204 a0).bind fun t221 => (nameplatelaw02_NameWild.j1 kj5 a0 a1 a2 t204 t206 t221)) else (nameplatelaw02_NameWild.j1 kj5 a0 a1 a2 t204 t206 true)))))))) = some r := by rw [if_pos rfl] at H; exact H
                clear H
                have H := H1
                clear H1
                replace H := Option.bind_eq_some_iff.mp H
                obtain ⟨t208, A230, H⟩ := H
                replace H : (if t208 = true then ((name_Same.f kj5 a1 a0).bind fun t209 => (if (t206 != (!t209)) = true then (nameplatelaw02_NameWild.j1 kj5 a0 a1 a2 t204 t206 true) else ((name_Matches.f kj5 a0 a1).bind fun t210 => (if t210 = true then ((name_Wild.f kj5 a0).bind fun t211 => (if t211 = true then ((name_Matches.f kj5 t204 t204).bind fun t212 => (if t212 = true then ((name_Matches.f kj5 t204 a0).bind fun t213 => (nameplatelaw02_NameWild.j1 kj5 a0 a1 a2 t204 t206 t213)) else (nameplatelaw02_NameWild.j1 kj5 a0 a1 a2 t204 t206 true))) else (nameplatelaw02_NameWild.j1 kj5 a0 a1 a2 t204 t206 true))) else ((name_Matches.f kj5 t204 t204).bind fun t214 => (if t214 = true then ((name_Matches.f kj5 t204 a0).bind fun t215 => (nameplatelaw02_NameWild.j1 kj5 a0 a1 a2 t204 t206 t215)) else (nameplatelaw02_NameWild.j1 kj5 a0 a1 a2 t204 t206 true))))))) else (if (t206 != false) = true then (nameplatelaw02_NameWild.j1 kj5 a0 a1 a2 t204 t206 true) else ((name_Matches.f kj5 a0 a1).bind fun t216 => (if t216 = true then ((name_Wild.f kj5 a0).bind fun t217 => (if t217 = true then ((name_Matches.f kj5 t204 t204).bind fun t218 => (if t218 = true then ((name_Matches.f kj5 t204 a0).bind fun t219 => (nameplatelaw02_NameWild.j1 kj5 a0 a1 a2 t204 t206 t219)) else (nameplatelaw02_NameWild.j1 kj5 a0 a1 a2 t204 t206 true))) else (nameplatelaw02_NameWild.j1 kj5 a0 a1 a2 t204 t206 true))) else ((name_Matches.f kj5 t204 t204).bind fun t220 => (if t220 = true then ((name_Matches.f kj5 t204 a0).bind fun t221 => (nameplatelaw02_NameWild.j1 kj5 a0 a1 a2 t204 t206 t221)) else (nameplatelaw02_NameWild.j1 kj5 a0 a1 a2 t204 t206 true))))))) = some r := H
                have A23 := Aside0.mk A230
                clear A230
                by_cases c24 : t208 = true
                · subst c24
                  have H1 : ((name_Same.f kj5 a1 a0).bind fun t209 => (if (t206 != (!t209)) = true then (nameplatelaw02_NameWild.j1 kj5 a0 a1 a2 t204 t206 true) else ((name_Matches.f kj5 a0 a1).bind fun t210 => (if t210 = true then ((name_Wild.f kj5 a0).bind fun t211 => (if t211 = true then ((name_Matches.f kj5 t204 t204).bind fun t212 => (if t212 = true then ((name_Matches.f kj5 t204 a0).bind fun t213 => (nameplatelaw02_NameWild.j1 kj5 a0 a1 a2 t204 t206 t213)) else (nameplatelaw02_NameWild.j1 kj5 a0 a1 a2 t204 t206 true))) else (nameplatelaw02_NameWild.j1 kj5 a0 a1 a2 t204 t206 true))) else ((name_Matches.f kj5 t204 t204).bind fun t214 => (if t214 = true then ((name_Matches.f kj5 t204 a0).bind fun t215 => (nameplatelaw02_NameWild.j1 kj5 a0 a1 a2 t204 t206 t215)) else (nameplatelaw02_NameWild.j1 kj5 a0 a1 a2 t204 t206 true))))))) = some r := by rw [if_pos rfl] at H; exact H
                  clear H
                  have H := H1
                  clear H1
                  replace H := Option.bind_eq_some_iff.mp H
                  obtain ⟨t209, A250, H⟩ := H
                  replace H : (if (t206 != (!t209)) = true then (nameplatelaw02_NameWild.j1 kj5 a0 a1 a2 t204 t206 true) else ((name_Matches.f kj5 a0 a1).bind fun t210 => (if t210 = true then ((name_Wild.f kj5 a0).bind fun t211 => (if t211 = true then ((name_Matches.f kj5 t204 t204).bind fun t212 => (if t212 = true then ((name_Matches.f kj5 t204 a0).bind fun t213 => (nameplatelaw02_NameWild.j1 kj5 a0 a1 a2 t204 t206 t213)) else (nameplatelaw02_NameWild.j1 kj5 a0 a1 a2 t204 t206 true))) else (nameplatelaw02_NameWild.j1 kj5 a0 a1 a2 t204 t206 true))) else ((name_Matches.f kj5 t204 t204).bind fun t214 => (if t214 = true then ((name_Matches.f kj5 t204 a0).bind fun t215 => (nameplatelaw02_NameWild.j1 kj5 a0 a1 a2 t204 t206 t215)) else (nameplatelaw02_NameWild.j1 kj5 a0 a1 a2 t204 t206 true)))))) = some r := H
                  have A25 := Aside0.mk A250
                  clear A250
                  by_cases c26 : (t206 != (!t209)) = true
                  · rw [if_pos c26] at H
                    have c26b0 : (t206 != (!t209)) = true := c26
                    (try (have c26b1 : decide (t206 = (!t209)) = false := by simpa using c26))
                    (try (have c26b2 : (t206 == (!t209)) = false := by simpa using c26))
                    (try (have c26b3 : ¬ (t206 = (!t209)) := by simpa using c26))
                    clear c26
                    (first | rw [c26b0] | (simp only [i64_w, i32_w]; rw [c26b0]) | skip)
                    have H' := Aside0.mk H
                    clear H
                    go_wp2_with (first | ((with_reducible refine gate_callee (f := 18) rfl ?_); refine goesL_ (some 50) rfl rfl Try.func18 (by kernel_rfl) rfl #[.string t204] rfl (by (try simp only [List.map_toArray, List.map_cons, List.map_nil]); first | done | rfl | (simp only [List.length_drop, List.length_take]; rfl)) ?_; (with_reducible refine (name_Wild.calls kj5 t204 true _ A21.out).mono ?_); rintro e w' ⟨rfl, ⟨nd, rfl⟩⟩; refine ⟨_, rfl, ?_⟩) | (go_at_call 16; (with_reducible refine (name_Under.calls kj5 a1 a0 true _ A23.out).mono ?_); rintro e w27 ⟨rfl, hb⟩; have n0_ := Aside0.mk (below_step (by repeat (first | (with_reducible first | exact HB.out | apply below_alloc | apply pw_below_drewN | apply below_drew1) | exact HB.out)) hb); clear HB; have HB := n0_; clear n0_; (try clear hb); (try clear hb2); (try clear hk); (try clear hi)) | (go_at_call 19; (with_reducible refine (name_Same.calls kj5 a1 a0 t209 _ A25.out).mono ?_); rintro e w28 ⟨rfl, hb⟩; have n0_ := Aside0.mk (below_step (by repeat (first | (with_reducible first | exact HB.out | apply below_alloc | apply pw_below_drewN | apply below_drew1) | exact HB.out)) hb); clear HB; have HB := n0_; clear n0_; (try clear hb); (try clear hb2); (try clear hk); (try clear hi)))
                    go_meet
                    case rel => exact ⟨_, (true), (by first | rfl | (simp; done) | (simp [*]; done)), H', ⟨by have := HJ5.out; first | omega | exact Nat.le_refl _⟩, ⟨by repeat (first | (with_reducible first | exact HB.out | apply below_alloc | apply pw_below_drewN | apply below_drew1) | exact HB.out)⟩⟩
                  · rw [if_neg c26] at H
                    have c26b0 : (t206 != (!t209)) = false := by simpa using c26
                    (try (have c26b9 : (t206 = (!t209)) = True := eq_true (bne_eq_false_iff_eq.1 c26b0)))
                    (try (have c26b1 : decide (t206 = (!t209)) = true := by simpa using c26))
                    (try (have c26b2 : (t206 == (!t209)) = true := by simpa using c26))
                    clear c26
                    (first | rw [c26b0] | (simp only [i64_w, i32_w]; rw [c26b0]) | skip)
                    replace H := Option.bind_eq_some_iff.mp H
                    obtain ⟨t210, A290, H⟩ := H
                    replace H : (if t210 = true then ((name_Wild.f kj5 a0).bind fun t211 => (if t211 = true then ((name_Matches.f kj5 t204 t204).bind fun t212 => (if t212 = true then ((name_Matches.f kj5 t204 a0).bind fun t213 => (nameplatelaw02_NameWild.j1 kj5 a0 a1 a2 t204 t206 t213)) else (nameplatelaw02_NameWild.j1 kj5 a0 a1 a2 t204 t206 true))) else (nameplatelaw02_NameWild.j1 kj5 a0 a1 a2 t204 t206 true))) else ((name_Matches.f kj5 t204 t204).bind fun t214 => (if t214 = true then ((name_Matches.f kj5 t204 a0).bind fun t215 => (nameplatelaw02_NameWild.j1 kj5 a0 a1 a2 t204 t206 t215)) else (nameplatelaw02_NameWild.j1 kj5 a0 a1 a2 t204 t206 true)))) = some r := H
                    have A29 := Aside0.mk A290
                    clear A290
                    by_cases c30 : t210 = true
                    · subst c30
                      have H1 : ((name_Wild.f kj5 a0).bind fun t211 => (if t211 = true then ((name_Matches.f kj5 t204 t204).bind fun t212 => (if t212 = true then ((name_Matches.f kj5 t204 a0).bind fun t213 => (nameplatelaw02_NameWild.j1 kj5 a0 a1 a2 t204 t206 t213)) else (nameplatelaw02_NameWild.j1 kj5 a0 a1 a2 t204 t206 true))) else (nameplatelaw02_NameWild.j1 kj5 a0 a1 a2 t204 t206 true))) = some r := by rw [if_pos rfl] at H; exact H
                      clear H
                      have H := H1
                      clear H1
                      replace H := Option.bind_eq_some_iff.mp H
                      obtain ⟨t211, A310, H⟩ := H
                      replace H : (if t211 = true then ((name_Matches.f kj5 t204 t204).bind fun t212 => (if t212 = true then ((name_Matches.f kj5 t204 a0).bind fun t213 => (nameplatelaw02_NameWild.j1 kj5 a0 a1 a2 t204 t206 t213)) else (nameplatelaw02_NameWild.j1 kj5 a0 a1 a2 t204 t206 true))) else (nameplatelaw02_NameWild.j1 kj5 a0 a1 a2 t204 t206 true)) = some r := H
                      have A31 := Aside0.mk A310
                      clear A310
                      by_cases c32 : t211 = true
                      · subst c32
                        have H1 : ((name_Matches.f kj5 t204 t204).bind fun t212 => (if t212 = true then ((name_Matches.f kj5 t204 a0).bind fun t213 => (nameplatelaw02_NameWild.j1 kj5 a0 a1 a2 t204 t206 t213)) else (nameplatelaw02_NameWild.j1 kj5 a0 a1 a2 t204 t206 true))) = some r := by rw [if_pos rfl] at H; exact H
                        clear H
                        have H := H1
                        clear H1
                        replace H := Option.bind_eq_some_iff.mp H
                        obtain ⟨t212, A330, H⟩ := H
                        replace H : (if t212 = true then ((name_Matches.f kj5 t204 a0).bind fun t213 => (nameplatelaw02_NameWild.j1 kj5 a0 a1 a2 t204 t206 t213)) else (nameplatelaw02_NameWild.j1 kj5 a0 a1 a2 t204 t206 true)) = some r := H
                        have A33 := Aside0.mk A330
                        clear A330
                        by_cases c34 : t212 = true
                        · subst c34
                          have H1 : ((name_Matches.f kj5 t204 a0).bind fun t213 => (nameplatelaw02_NameWild.j1 kj5 a0 a1 a2 t204 t206 t213)) = some r := by rw [if_pos rfl] at H; exact H
                          clear H
                          have H := H1
                          clear H1
                          replace H := Option.bind_eq_some_iff.mp H
                          obtain ⟨t213, A350, H⟩ := H
                          replace H : (nameplatelaw02_NameWild.j1 kj5 a0 a1 a2 t204 t206 t213) = some r := H
                          have A35 := Aside0.mk A350
                          clear A350
                          have H' := Aside0.mk H
                          clear H
                          go_wp2_with (first | ((with_reducible refine gate_callee (f := 18) rfl ?_); refine goesL_ (some 50) rfl rfl Try.func18 (by kernel_rfl) rfl #[.string t204] rfl (by (try simp only [List.map_toArray, List.map_cons, List.map_nil]); first | done | rfl | (simp only [List.length_drop, List.length_take]; rfl)) ?_; (with_reducible refine (name_Wild.calls kj5 t204 true _ A21.out).mono ?_); rintro e w' ⟨rfl, ⟨nd, rfl⟩⟩; refine ⟨_, rfl, ?_⟩) | (go_at_call 16; (with_reducible refine (name_Under.calls kj5 a1 a0 true _ A23.out).mono ?_); rintro e w36 ⟨rfl, hb⟩; have n0_ := Aside0.mk (below_step (by repeat (first | (with_reducible first | exact HB.out | apply below_alloc | apply pw_below_drewN | apply below_drew1) | exact HB.out)) hb); clear HB; have HB := n0_; clear n0_; (try clear hb); (try clear hb2); (try clear hk); (try clear hi)) | (go_at_call 19; (with_reducible refine (name_Same.calls kj5 a1 a0 t209 _ A25.out).mono ?_); rintro e w37 ⟨rfl, hb⟩; have n0_ := Aside0.mk (below_step (by repeat (first | (with_reducible first | exact HB.out | apply below_alloc | apply pw_below_drewN | apply below_drew1) | exact HB.out)) hb); clear HB; have HB := n0_; clear n0_; (try clear hb); (try clear hb2); (try clear hk); (try clear hi)) | (go_at_call 17; (with_reducible refine (name_Matches.calls kj5 a0 a1 true _ A29.out).mono ?_); rintro e w38 ⟨rfl, hb⟩; have n0_ := Aside0.mk (below_step (by repeat (first | (with_reducible first | exact HB.out | apply below_alloc | apply pw_below_drewN | apply below_drew1) | exact HB.out)) hb); clear HB; have HB := n0_; clear n0_; (try clear hb); (try clear hb2); (try clear hk); (try clear hi)) | (go_at_call 18; (with_reducible refine (name_Wild.calls kj5 a0 true _ A31.out).mono ?_); rintro e w' ⟨rfl, ⟨nd, rfl⟩⟩) | (go_at_call 17; (with_reducible refine (name_Matches.calls kj5 t204 t204 true _ A33.out).mono ?_); rintro e w39 ⟨rfl, hb⟩; have n0_ := Aside0.mk (below_step (by repeat (first | (with_reducible first | exact HB.out | apply below_alloc | apply pw_below_drewN | apply below_drew1) | exact HB.out)) hb); clear HB; have HB := n0_; clear n0_; (try clear hb); (try clear hb2); (try clear hk); (try clear hi)) | (go_at_call 17; (with_reducible refine (name_Matches.calls kj5 t204 a0 t213 _ A35.out).mono ?_); rintro e w40 ⟨rfl, hb⟩; have n0_ := Aside0.mk (below_step (by repeat (first | (with_reducible first | exact HB.out | apply below_alloc | apply pw_below_drewN | apply below_drew1) | exact HB.out)) hb); clear HB; have HB := n0_; clear n0_; (try clear hb); (try clear hb2); (try clear hk); (try clear hi)))
                          (try (have e_ : t206 = (!t209) := bne_eq_false_iff_eq.1 c26b0; subst e_))
                          go_meet
                          case rel => exact ⟨_, (t213), (by first | rfl | (simp; done) | (simp [*]; done)), H', ⟨by have := HJ5.out; first | omega | exact Nat.le_refl _⟩, ⟨by repeat (first | (with_reducible first | exact HB.out | apply below_alloc | apply pw_below_drewN | apply below_drew1) | exact HB.out)⟩⟩
                        · replace c34 := Bool.eq_false_iff.mpr c34
                          subst c34
                          have H1 : (nameplatelaw02_NameWild.j1 kj5 a0 a1 a2 t204 t206 true) = some r := by rw [if_neg (show ¬ (false = true) by decide)] at H; exact H
                          clear H
                          have H := H1
                          clear H1
                          have H' := Aside0.mk H
                          clear H
                          go_wp2_with (first | ((with_reducible refine gate_callee (f := 18) rfl ?_); refine goesL_ (some 50) rfl rfl Try.func18 (by kernel_rfl) rfl #[.string t204] rfl (by (try simp only [List.map_toArray, List.map_cons, List.map_nil]); first | done | rfl | (simp only [List.length_drop, List.length_take]; rfl)) ?_; (with_reducible refine (name_Wild.calls kj5 t204 true _ A21.out).mono ?_); rintro e w' ⟨rfl, ⟨nd, rfl⟩⟩; refine ⟨_, rfl, ?_⟩) | (go_at_call 16; (with_reducible refine (name_Under.calls kj5 a1 a0 true _ A23.out).mono ?_); rintro e w41 ⟨rfl, hb⟩; have n0_ := Aside0.mk (below_step (by repeat (first | (with_reducible first | exact HB.out | apply below_alloc | apply pw_below_drewN | apply below_drew1) | exact HB.out)) hb); clear HB; have HB := n0_; clear n0_; (try clear hb); (try clear hb2); (try clear hk); (try clear hi)) | (go_at_call 19; (with_reducible refine (name_Same.calls kj5 a1 a0 t209 _ A25.out).mono ?_); rintro e w42 ⟨rfl, hb⟩; have n0_ := Aside0.mk (below_step (by repeat (first | (with_reducible first | exact HB.out | apply below_alloc | apply pw_below_drewN | apply below_drew1) | exact HB.out)) hb); clear HB; have HB := n0_; clear n0_; (try clear hb); (try clear hb2); (try clear hk); (try clear hi)) | (go_at_call 17; (with_reducible refine (name_Matches.calls kj5 a0 a1 true _ A29.out).mono ?_); rintro e w43 ⟨rfl, hb⟩; have n0_ := Aside0.mk (below_step (by repeat (first | (with_reducible first | exact HB.out | apply below_alloc | apply pw_below_drewN | apply below_drew1) | exact HB.out)) hb); clear HB; have HB := n0_; clear n0_; (try clear hb); (try clear hb2); (try clear hk); (try clear hi)) | (go_at_call 18; (with_reducible refine (name_Wild.calls kj5 a0 true _ A31.out).mono ?_); rintro e w' ⟨rfl, ⟨nd, rfl⟩⟩) | (go_at_call 17; (with_reducible refine (name_Matches.calls kj5 t204 t204 false _ A33.out).mono ?_); rintro e w44 ⟨rfl, hb⟩; have n0_ := Aside0.mk (below_step (by repeat (first | (with_reducible first | exact HB.out | apply below_alloc | apply pw_below_drewN | apply below_drew1) | exact HB.out)) hb); clear HB; have HB := n0_; clear n0_; (try clear hb); (try clear hb2); (try clear hk); (try clear hi)))
                          (try (have e_ : t206 = (!t209) := bne_eq_false_iff_eq.1 c26b0; subst e_))
                          go_meet
                          case rel => exact ⟨_, (true), (by first | rfl | (simp; done) | (simp [*]; done)), H', ⟨by have := HJ5.out; first | omega | exact Nat.le_refl _⟩, ⟨by repeat (first | (with_reducible first | exact HB.out | apply below_alloc | apply pw_below_drewN | apply below_drew1) | exact HB.out)⟩⟩
                      · replace c32 := Bool.eq_false_iff.mpr c32
                        subst c32
                        have H1 : (nameplatelaw02_NameWild.j1 kj5 a0 a1 a2 t204 t206 true) = some r := by rw [if_neg (show ¬ (false = true) by decide)] at H; exact H
                        clear H
                        have H := H1
                        clear H1
                        have H' := Aside0.mk H
                        clear H
                        go_wp2_with (first | ((with_reducible refine gate_callee (f := 18) rfl ?_); refine goesL_ (some 50) rfl rfl Try.func18 (by kernel_rfl) rfl #[.string t204] rfl (by (try simp only [List.map_toArray, List.map_cons, List.map_nil]); first | done | rfl | (simp only [List.length_drop, List.length_take]; rfl)) ?_; (with_reducible refine (name_Wild.calls kj5 t204 true _ A21.out).mono ?_); rintro e w' ⟨rfl, ⟨nd, rfl⟩⟩; refine ⟨_, rfl, ?_⟩) | (go_at_call 16; (with_reducible refine (name_Under.calls kj5 a1 a0 true _ A23.out).mono ?_); rintro e w45 ⟨rfl, hb⟩; have n0_ := Aside0.mk (below_step (by repeat (first | (with_reducible first | exact HB.out | apply below_alloc | apply pw_below_drewN | apply below_drew1) | exact HB.out)) hb); clear HB; have HB := n0_; clear n0_; (try clear hb); (try clear hb2); (try clear hk); (try clear hi)) | (go_at_call 19; (with_reducible refine (name_Same.calls kj5 a1 a0 t209 _ A25.out).mono ?_); rintro e w46 ⟨rfl, hb⟩; have n0_ := Aside0.mk (below_step (by repeat (first | (with_reducible first | exact HB.out | apply below_alloc | apply pw_below_drewN | apply below_drew1) | exact HB.out)) hb); clear HB; have HB := n0_; clear n0_; (try clear hb); (try clear hb2); (try clear hk); (try clear hi)) | (go_at_call 17; (with_reducible refine (name_Matches.calls kj5 a0 a1 true _ A29.out).mono ?_); rintro e w47 ⟨rfl, hb⟩; have n0_ := Aside0.mk (below_step (by repeat (first | (with_reducible first | exact HB.out | apply below_alloc | apply pw_below_drewN | apply below_drew1) | exact HB.out)) hb); clear HB; have HB := n0_; clear n0_; (try clear hb); (try clear hb2); (try clear hk); (try clear hi)) | (go_at_call 18; (with_reducible refine (name_Wild.calls kj5 a0 false _ A31.out).mono ?_); rintro e w' ⟨rfl, ⟨nd, rfl⟩⟩))
                        (try (have e_ : t206 = (!t209) := bne_eq_false_iff_eq.1 c26b0; subst e_))
                        go_meet
                        case rel => exact ⟨_, (true), (by first | rfl | (simp; done) | (simp [*]; done)), H', ⟨by have := HJ5.out; first | omega | exact Nat.le_refl _⟩, ⟨by repeat (first | (with_reducible first | exact HB.out | apply below_alloc | apply pw_below_drewN | apply below_drew1) | exact HB.out)⟩⟩
                    · replace c30 := Bool.eq_false_iff.mpr c30
                      subst c30
                      have H1 : ((name_Matches.f kj5 t204 t204).bind fun t214 => (if t214 = true then ((name_Matches.f kj5 t204 a0).bind fun t215 => (nameplatelaw02_NameWild.j1 kj5 a0 a1 a2 t204 t206 t215)) else (nameplatelaw02_NameWild.j1 kj5 a0 a1 a2 t204 t206 true))) = some r := by rw [if_neg (show ¬ (false = true) by decide)] at H; exact H
                      clear H
                      have H := H1
                      clear H1
                      replace H := Option.bind_eq_some_iff.mp H
                      obtain ⟨t214, A480, H⟩ := H
                      replace H : (if t214 = true then ((name_Matches.f kj5 t204 a0).bind fun t215 => (nameplatelaw02_NameWild.j1 kj5 a0 a1 a2 t204 t206 t215)) else (nameplatelaw02_NameWild.j1 kj5 a0 a1 a2 t204 t206 true)) = some r := H
                      have A48 := Aside0.mk A480
                      clear A480
                      by_cases c49 : t214 = true
                      · subst c49
                        have H1 : ((name_Matches.f kj5 t204 a0).bind fun t215 => (nameplatelaw02_NameWild.j1 kj5 a0 a1 a2 t204 t206 t215)) = some r := by rw [if_pos rfl] at H; exact H
                        clear H
                        have H := H1
                        clear H1
                        replace H := Option.bind_eq_some_iff.mp H
                        obtain ⟨t215, A500, H⟩ := H
                        replace H : (nameplatelaw02_NameWild.j1 kj5 a0 a1 a2 t204 t206 t215) = some r := H
                        have A50 := Aside0.mk A500
                        clear A500
                        have H' := Aside0.mk H
                        clear H
                        go_wp2_with (first | ((with_reducible refine gate_callee (f := 18) rfl ?_); refine goesL_ (some 50) rfl rfl Try.func18 (by kernel_rfl) rfl #[.string t204] rfl (by (try simp only [List.map_toArray, List.map_cons, List.map_nil]); first | done | rfl | (simp only [List.length_drop, List.length_take]; rfl)) ?_; (with_reducible refine (name_Wild.calls kj5 t204 true _ A21.out).mono ?_); rintro e w' ⟨rfl, ⟨nd, rfl⟩⟩; refine ⟨_, rfl, ?_⟩) | (go_at_call 16; (with_reducible refine (name_Under.calls kj5 a1 a0 true _ A23.out).mono ?_); rintro e w51 ⟨rfl, hb⟩; have n0_ := Aside0.mk (below_step (by repeat (first | (with_reducible first | exact HB.out | apply below_alloc | apply pw_below_drewN | apply below_drew1) | exact HB.out)) hb); clear HB; have HB := n0_; clear n0_; (try clear hb); (try clear hb2); (try clear hk); (try clear hi)) | (go_at_call 19; (with_reducible refine (name_Same.calls kj5 a1 a0 t209 _ A25.out).mono ?_); rintro e w52 ⟨rfl, hb⟩; have n0_ := Aside0.mk (below_step (by repeat (first | (with_reducible first | exact HB.out | apply below_alloc | apply pw_below_drewN | apply below_drew1) | exact HB.out)) hb); clear HB; have HB := n0_; clear n0_; (try clear hb); (try clear hb2); (try clear hk); (try clear hi)) | (go_at_call 17; (with_reducible refine (name_Matches.calls kj5 a0 a1 false _ A29.out).mono ?_); rintro e w53 ⟨rfl, hb⟩; have n0_ := Aside0.mk (below_step (by repeat (first | (with_reducible first | exact HB.out | apply below_alloc | apply pw_below_drewN | apply below_drew1) | exact HB.out)) hb); clear HB; have HB := n0_; clear n0_; (try clear hb); (try clear hb2); (try clear hk); (try clear hi)) | (go_at_call 17; (with_reducible refine (name_Matches.calls kj5 t204 t204 true _ A48.out).mono ?_); rintro e w54 ⟨rfl, hb⟩; have n0_ := Aside0.mk (below_step (by repeat (first | (with_reducible first | exact HB.out | apply below_alloc | apply pw_below_drewN | apply below_drew1) | exact HB.out)) hb); clear HB; have HB := n0_; clear n0_; (try clear hb); (try clear hb2); (try clear hk); (try clear hi)) | (go_at_call 17; (with_reducible refine (name_Matches.calls kj5 t204 a0 t215 _ A50.out).mono ?_); rintro e w55 ⟨rfl, hb⟩; have n0_ := Aside0.mk (below_step (by repeat (first | (with_reducible first | exact HB.out | apply below_alloc | apply pw_below_drewN | apply below_drew1) | exact HB.out)) hb); clear HB; have HB := n0_; clear n0_; (try clear hb); (try clear hb2); (try clear hk); (try clear hi)))
                        (try (have e_ : t206 = (!t209) := bne_eq_false_iff_eq.1 c26b0; subst e_))
                        go_meet
                        case rel => exact ⟨_, (t215), (by first | rfl | (simp; done) | (simp [*]; done)), H', ⟨by have := HJ5.out; first | omega | exact Nat.le_refl _⟩, ⟨by repeat (first | (with_reducible first | exact HB.out | apply below_alloc | apply pw_below_drewN | apply below_drew1) | exact HB.out)⟩⟩
                      · replace c49 := Bool.eq_false_iff.mpr c49
                        subst c49
                        have H1 : (nameplatelaw02_NameWild.j1 kj5 a0 a1 a2 t204 t206 true) = some r := by rw [if_neg (show ¬ (false = true) by decide)] at H; exact H
                        clear H
                        have H := H1
                        clear H1
                        have H' := Aside0.mk H
                        clear H
                        go_wp2_with (first | ((with_reducible refine gate_callee (f := 18) rfl ?_); refine goesL_ (some 50) rfl rfl Try.func18 (by kernel_rfl) rfl #[.string t204] rfl (by (try simp only [List.map_toArray, List.map_cons, List.map_nil]); first | done | rfl | (simp only [List.length_drop, List.length_take]; rfl)) ?_; (with_reducible refine (name_Wild.calls kj5 t204 true _ A21.out).mono ?_); rintro e w' ⟨rfl, ⟨nd, rfl⟩⟩; refine ⟨_, rfl, ?_⟩) | (go_at_call 16; (with_reducible refine (name_Under.calls kj5 a1 a0 true _ A23.out).mono ?_); rintro e w56 ⟨rfl, hb⟩; have n0_ := Aside0.mk (below_step (by repeat (first | (with_reducible first | exact HB.out | apply below_alloc | apply pw_below_drewN | apply below_drew1) | exact HB.out)) hb); clear HB; have HB := n0_; clear n0_; (try clear hb); (try clear hb2); (try clear hk); (try clear hi)) | (go_at_call 19; (with_reducible refine (name_Same.calls kj5 a1 a0 t209 _ A25.out).mono ?_); rintro e w57 ⟨rfl, hb⟩; have n0_ := Aside0.mk (below_step (by repeat (first | (with_reducible first | exact HB.out | apply below_alloc | apply pw_below_drewN | apply below_drew1) | exact HB.out)) hb); clear HB; have HB := n0_; clear n0_; (try clear hb); (try clear hb2); (try clear hk); (try clear hi)) | (go_at_call 17; (with_reducible refine (name_Matches.calls kj5 a0 a1 false _ A29.out).mono ?_); rintro e w58 ⟨rfl, hb⟩; have n0_ := Aside0.mk (below_step (by repeat (first | (with_reducible first | exact HB.out | apply below_alloc | apply pw_below_drewN | apply below_drew1) | exact HB.out)) hb); clear HB; have HB := n0_; clear n0_; (try clear hb); (try clear hb2); (try clear hk); (try clear hi)) | (go_at_call 17; (with_reducible refine (name_Matches.calls kj5 t204 t204 false _ A48.out).mono ?_); rintro e w59 ⟨rfl, hb⟩; have n0_ := Aside0.mk (below_step (by repeat (first | (with_reducible first | exact HB.out | apply below_alloc | apply pw_below_drewN | apply below_drew1) | exact HB.out)) hb); clear HB; have HB := n0_; clear n0_; (try clear hb); (try clear hb2); (try clear hk); (try clear hi)))
                        (try (have e_ : t206 = (!t209) := bne_eq_false_iff_eq.1 c26b0; subst e_))
                        go_meet
                        case rel => exact ⟨_, (true), (by first | rfl | (simp; done) | (simp [*]; done)), H', ⟨by have := HJ5.out; first | omega | exact Nat.le_refl _⟩, ⟨by repeat (first | (with_reducible first | exact HB.out | apply below_alloc | apply pw_below_drewN | apply below_drew1) | exact HB.out)⟩⟩
                · replace c24 := Bool.eq_false_iff.mpr c24
                  subst c24
                  have H1 : (if (t206 != false) = true then (nameplatelaw02_NameWild.j1 kj5 a0 a1 a2 t204 t206 true) else ((name_Matches.f kj5 a0 a1).bind fun t216 => (if t216 = true then ((name_Wild.f kj5 a0).bind fun t217 => (if t217 = true then ((name_Matches.f kj5 t204 t204).bind fun t218 => (if t218 = true then ((name_Matches.f kj5 t204 a0).bind fun t219 => (nameplatelaw02_NameWild.j1 kj5 a0 a1 a2 t204 t206 t219)) else (nameplatelaw02_NameWild.j1 kj5 a0 a1 a2 t204 t206 true))) else (nameplatelaw02_NameWild.j1 kj5 a0 a1 a2 t204 t206 true))) else ((name_Matches.f kj5 t204 t204).bind fun t220 => (if t220 = true then ((name_Matches.f kj5 t204 a0).bind fun t221 => (nameplatelaw02_NameWild.j1 kj5 a0 a1 a2 t204 t206 t221)) else (nameplatelaw02_NameWild.j1 kj5 a0 a1 a2 t204 t206 true)))))) = some r := by rw [if_neg (show ¬ (false = true) by decide)] at H; exact H
                  clear H
                  have H := H1
                  clear H1
                  by_cases c60 : (t206 != false) = true
                  · rw [if_pos c60] at H
                    have c60b0 : (t206 != false) = true := c60
                    (try (have c60b1 : decide (t206 = false) = false := by simpa using c60))
                    (try (have c60b2 : (t206 == false) = false := by simpa using c60))
                    (try (have c60b3 : ¬ (t206 = false) := by simpa using c60))
                    clear c60
                    have H' := Aside0.mk H
                    clear H
                    go_wp2_with (first | ((with_reducible refine gate_callee (f := 18) rfl ?_); refine goesL_ (some 50) rfl rfl Try.func18 (by kernel_rfl) rfl #[.string t204] rfl (by (try simp only [List.map_toArray, List.map_cons, List.map_nil]); first | done | rfl | (simp only [List.length_drop, List.length_take]; rfl)) ?_; (with_reducible refine (name_Wild.calls kj5 t204 true _ A21.out).mono ?_); rintro e w' ⟨rfl, ⟨nd, rfl⟩⟩; refine ⟨_, rfl, ?_⟩) | (go_at_call 16; (with_reducible refine (name_Under.calls kj5 a1 a0 false _ A23.out).mono ?_); rintro e w61 ⟨rfl, hb⟩; have n0_ := Aside0.mk (below_step (by repeat (first | (with_reducible first | exact HB.out | apply below_alloc | apply pw_below_drewN | apply below_drew1) | exact HB.out)) hb); clear HB; have HB := n0_; clear n0_; (try clear hb); (try clear hb2); (try clear hk); (try clear hi)))
                    (try (have e_ : t206 = true := (by simpa using c60b0); subst e_))
                    go_meet
                    case rel => exact ⟨_, (true), (by first | rfl | (simp; done) | (simp [*]; done)), H', ⟨by have := HJ5.out; first | omega | exact Nat.le_refl _⟩, ⟨by repeat (first | (with_reducible first | exact HB.out | apply below_alloc | apply pw_below_drewN | apply below_drew1) | exact HB.out)⟩⟩
                  · rw [if_neg c60] at H
                    have c60b0 : (t206 != false) = false := by simpa using c60
                    (try (have c60b9 : (t206 = false) = True := eq_true (bne_eq_false_iff_eq.1 c60b0)))
                    (try (have c60b1 : decide (t206 = false) = true := by simpa using c60))
                    (try (have c60b2 : (t206 == false) = true := by simpa using c60))
                    clear c60
                    replace H := Option.bind_eq_some_iff.mp H
                    obtain ⟨t216, A620, H⟩ := H
                    replace H : (if t216 = true then ((name_Wild.f kj5 a0).bind fun t217 => (if t217 = true then ((name_Matches.f kj5 t204 t204).bind fun t218 => (if t218 = true then ((name_Matches.f kj5 t204 a0).bind fun t219 => (nameplatelaw02_NameWild.j1 kj5 a0 a1 a2 t204 t206 t219)) else (nameplatelaw02_NameWild.j1 kj5 a0 a1 a2 t204 t206 true))) else (nameplatelaw02_NameWild.j1 kj5 a0 a1 a2 t204 t206 true))) else ((name_Matches.f kj5 t204 t204).bind fun t220 => (if t220 = true then ((name_Matches.f kj5 t204 a0).bind fun t221 => (nameplatelaw02_NameWild.j1 kj5 a0 a1 a2 t204 t206 t221)) else (nameplatelaw02_NameWild.j1 kj5 a0 a1 a2 t204 t206 true)))) = some r := H
                    have A62 := Aside0.mk A620
                    clear A620
                    by_cases c63 : t216 = true
                    · subst c63
                      have H1 : ((name_Wild.f kj5 a0).bind fun t217 => (if t217 = true then ((name_Matches.f kj5 t204 t204).bind fun t218 => (if t218 = true then ((name_Matches.f kj5 t204 a0).bind fun t219 => (nameplatelaw02_NameWild.j1 kj5 a0 a1 a2 t204 t206 t219)) else (nameplatelaw02_NameWild.j1 kj5 a0 a1 a2 t204 t206 true))) else (nameplatelaw02_NameWild.j1 kj5 a0 a1 a2 t204 t206 true))) = some r := by rw [if_pos rfl] at H; exact H
                      clear H
                      have H := H1
                      clear H1
                      replace H := Option.bind_eq_some_iff.mp H
                      obtain ⟨t217, A640, H⟩ := H
                      replace H : (if t217 = true then ((name_Matches.f kj5 t204 t204).bind fun t218 => (if t218 = true then ((name_Matches.f kj5 t204 a0).bind fun t219 => (nameplatelaw02_NameWild.j1 kj5 a0 a1 a2 t204 t206 t219)) else (nameplatelaw02_NameWild.j1 kj5 a0 a1 a2 t204 t206 true))) else (nameplatelaw02_NameWild.j1 kj5 a0 a1 a2 t204 t206 true)) = some r := H
                      have A64 := Aside0.mk A640
                      clear A640
                      by_cases c65 : t217 = true
                      · subst c65
                        have H1 : ((name_Matches.f kj5 t204 t204).bind fun t218 => (if t218 = true then ((name_Matches.f kj5 t204 a0).bind fun t219 => (nameplatelaw02_NameWild.j1 kj5 a0 a1 a2 t204 t206 t219)) else (nameplatelaw02_NameWild.j1 kj5 a0 a1 a2 t204 t206 true))) = some r := by rw [if_pos rfl] at H; exact H
                        clear H
                        have H := H1
                        clear H1
                        replace H := Option.bind_eq_some_iff.mp H
                        obtain ⟨t218, A660, H⟩ := H
                        replace H : (if t218 = true then ((name_Matches.f kj5 t204 a0).bind fun t219 => (nameplatelaw02_NameWild.j1 kj5 a0 a1 a2 t204 t206 t219)) else (nameplatelaw02_NameWild.j1 kj5 a0 a1 a2 t204 t206 true)) = some r := H
                        have A66 := Aside0.mk A660
                        clear A660
                        by_cases c67 : t218 = true
                        · subst c67
                          have H1 : ((name_Matches.f kj5 t204 a0).bind fun t219 => (nameplatelaw02_NameWild.j1 kj5 a0 a1 a2 t204 t206 t219)) = some r := by rw [if_pos rfl] at H; exact H
                          clear H
                          have H := H1
                          clear H1
                          replace H := Option.bind_eq_some_iff.mp H
                          obtain ⟨t219, A680, H⟩ := H
                          replace H : (nameplatelaw02_NameWild.j1 kj5 a0 a1 a2 t204 t206 t219) = some r := H
                          have A68 := Aside0.mk A680
                          clear A680
                          have H' := Aside0.mk H
                          clear H
                          go_wp2_with (first | ((with_reducible refine gate_callee (f := 18) rfl ?_); refine goesL_ (some 50) rfl rfl Try.func18 (by kernel_rfl) rfl #[.string t204] rfl (by (try simp only [List.map_toArray, List.map_cons, List.map_nil]); first | done | rfl | (simp only [List.length_drop, List.length_take]; rfl)) ?_; (with_reducible refine (name_Wild.calls kj5 t204 true _ A21.out).mono ?_); rintro e w' ⟨rfl, ⟨nd, rfl⟩⟩; refine ⟨_, rfl, ?_⟩) | (go_at_call 16; (with_reducible refine (name_Under.calls kj5 a1 a0 false _ A23.out).mono ?_); rintro e w69 ⟨rfl, hb⟩; have n0_ := Aside0.mk (below_step (by repeat (first | (with_reducible first | exact HB.out | apply below_alloc | apply pw_below_drewN | apply below_drew1) | exact HB.out)) hb); clear HB; have HB := n0_; clear n0_; (try clear hb); (try clear hb2); (try clear hk); (try clear hi)) | (go_at_call 17; (with_reducible refine (name_Matches.calls kj5 a0 a1 true _ A62.out).mono ?_); rintro e w70 ⟨rfl, hb⟩; have n0_ := Aside0.mk (below_step (by repeat (first | (with_reducible first | exact HB.out | apply below_alloc | apply pw_below_drewN | apply below_drew1) | exact HB.out)) hb); clear HB; have HB := n0_; clear n0_; (try clear hb); (try clear hb2); (try clear hk); (try clear hi)) | (go_at_call 18; (with_reducible refine (name_Wild.calls kj5 a0 true _ A64.out).mono ?_); rintro e w' ⟨rfl, ⟨nd, rfl⟩⟩) | (go_at_call 17; (with_reducible refine (name_Matches.calls kj5 t204 t204 true _ A66.out).mono ?_); rintro e w71 ⟨rfl, hb⟩; have n0_ := Aside0.mk (below_step (by repeat (first | (with_reducible first | exact HB.out | apply below_alloc | apply pw_below_drewN | apply below_drew1) | exact HB.out)) hb); clear HB; have HB := n0_; clear n0_; (try clear hb); (try clear hb2); (try clear hk); (try clear hi)) | (go_at_call 17; (with_reducible refine (name_Matches.calls kj5 t204 a0 t219 _ A68.out).mono ?_); rintro e w72 ⟨rfl, hb⟩; have n0_ := Aside0.mk (below_step (by repeat (first | (with_reducible first | exact HB.out | apply below_alloc | apply pw_below_drewN | apply below_drew1) | exact HB.out)) hb); clear HB; have HB := n0_; clear n0_; (try clear hb); (try clear hb2); (try clear hk); (try clear hi)))
                          (try (have e_ : t206 = false := bne_eq_false_iff_eq.1 c60b0; subst e_))
                          go_meet
                          case rel => exact ⟨_, (t219), (by first | rfl | (simp; done) | (simp [*]; done)), H', ⟨by have := HJ5.out; first | omega | exact Nat.le_refl _⟩, ⟨by repeat (first | (with_reducible first | exact HB.out | apply below_alloc | apply pw_below_drewN | apply below_drew1) | exact HB.out)⟩⟩
                        · replace c67 := Bool.eq_false_iff.mpr c67
                          subst c67
                          have H1 : (nameplatelaw02_NameWild.j1 kj5 a0 a1 a2 t204 t206 true) = some r := by rw [if_neg (show ¬ (false = true) by decide)] at H; exact H
                          clear H
                          have H := H1
                          clear H1
                          have H' := Aside0.mk H
                          clear H
                          go_wp2_with (first | ((with_reducible refine gate_callee (f := 18) rfl ?_); refine goesL_ (some 50) rfl rfl Try.func18 (by kernel_rfl) rfl #[.string t204] rfl (by (try simp only [List.map_toArray, List.map_cons, List.map_nil]); first | done | rfl | (simp only [List.length_drop, List.length_take]; rfl)) ?_; (with_reducible refine (name_Wild.calls kj5 t204 true _ A21.out).mono ?_); rintro e w' ⟨rfl, ⟨nd, rfl⟩⟩; refine ⟨_, rfl, ?_⟩) | (go_at_call 16; (with_reducible refine (name_Under.calls kj5 a1 a0 false _ A23.out).mono ?_); rintro e w73 ⟨rfl, hb⟩; have n0_ := Aside0.mk (below_step (by repeat (first | (with_reducible first | exact HB.out | apply below_alloc | apply pw_below_drewN | apply below_drew1) | exact HB.out)) hb); clear HB; have HB := n0_; clear n0_; (try clear hb); (try clear hb2); (try clear hk); (try clear hi)) | (go_at_call 17; (with_reducible refine (name_Matches.calls kj5 a0 a1 true _ A62.out).mono ?_); rintro e w74 ⟨rfl, hb⟩; have n0_ := Aside0.mk (below_step (by repeat (first | (with_reducible first | exact HB.out | apply below_alloc | apply pw_below_drewN | apply below_drew1) | exact HB.out)) hb); clear HB; have HB := n0_; clear n0_; (try clear hb); (try clear hb2); (try clear hk); (try clear hi)) | (go_at_call 18; (with_reducible refine (name_Wild.calls kj5 a0 true _ A64.out).mono ?_); rintro e w' ⟨rfl, ⟨nd, rfl⟩⟩) | (go_at_call 17; (with_reducible refine (name_Matches.calls kj5 t204 t204 false _ A66.out).mono ?_); rintro e w75 ⟨rfl, hb⟩; have n0_ := Aside0.mk (below_step (by repeat (first | (with_reducible first | exact HB.out | apply below_alloc | apply pw_below_drewN | apply below_drew1) | exact HB.out)) hb); clear HB; have HB := n0_; clear n0_; (try clear hb); (try clear hb2); (try clear hk); (try clear hi)))
                          (try (have e_ : t206 = false := bne_eq_false_iff_eq.1 c60b0; subst e_))
                          go_meet
                          case rel => exact ⟨_, (true), (by first | rfl | (simp; done) | (simp [*]; done)), H', ⟨by have := HJ5.out; first | omega | exact Nat.le_refl _⟩, ⟨by repeat (first | (with_reducible first | exact HB.out | apply below_alloc | apply pw_below_drewN | apply below_drew1) | exact HB.out)⟩⟩
                      · replace c65 := Bool.eq_false_iff.mpr c65
                        subst c65
                        have H1 : (nameplatelaw02_NameWild.j1 kj5 a0 a1 a2 t204 t206 true) = some r := by rw [if_neg (show ¬ (false = true) by decide)] at H; exact H
                        clear H
                        have H := H1
                        clear H1
                        have H' := Aside0.mk H
                        clear H
                        go_wp2_with (first | ((with_reducible refine gate_callee (f := 18) rfl ?_); refine goesL_ (some 50) rfl rfl Try.func18 (by kernel_rfl) rfl #[.string t204] rfl (by (try simp only [List.map_toArray, List.map_cons, List.map_nil]); first | done | rfl | (simp only [List.length_drop, List.length_take]; rfl)) ?_; (with_reducible refine (name_Wild.calls kj5 t204 true _ A21.out).mono ?_); rintro e w' ⟨rfl, ⟨nd, rfl⟩⟩; refine ⟨_, rfl, ?_⟩) | (go_at_call 16; (with_reducible refine (name_Under.calls kj5 a1 a0 false _ A23.out).mono ?_); rintro e w76 ⟨rfl, hb⟩; have n0_ := Aside0.mk (below_step (by repeat (first | (with_reducible first | exact HB.out | apply below_alloc | apply pw_below_drewN | apply below_drew1) | exact HB.out)) hb); clear HB; have HB := n0_; clear n0_; (try clear hb); (try clear hb2); (try clear hk); (try clear hi)) | (go_at_call 17; (with_reducible refine (name_Matches.calls kj5 a0 a1 true _ A62.out).mono ?_); rintro e w77 ⟨rfl, hb⟩; have n0_ := Aside0.mk (below_step (by repeat (first | (with_reducible first | exact HB.out | apply below_alloc | apply pw_below_drewN | apply below_drew1) | exact HB.out)) hb); clear HB; have HB := n0_; clear n0_; (try clear hb); (try clear hb2); (try clear hk); (try clear hi)) | (go_at_call 18; (with_reducible refine (name_Wild.calls kj5 a0 false _ A64.out).mono ?_); rintro e w' ⟨rfl, ⟨nd, rfl⟩⟩))
                        (try (have e_ : t206 = false := bne_eq_false_iff_eq.1 c60b0; subst e_))
                        go_meet
                        case rel => exact ⟨_, (true), (by first | rfl | (simp; done) | (simp [*]; done)), H', ⟨by have := HJ5.out; first | omega | exact Nat.le_refl _⟩, ⟨by repeat (first | (with_reducible first | exact HB.out | apply below_alloc | apply pw_below_drewN | apply below_drew1) | exact HB.out)⟩⟩
                    · replace c63 := Bool.eq_false_iff.mpr c63
                      subst c63
                      have H1 : ((name_Matches.f kj5 t204 t204).bind fun t220 => (if t220 = true then ((name_Matches.f kj5 t204 a0).bind fun t221 => (nameplatelaw02_NameWild.j1 kj5 a0 a1 a2 t204 t206 t221)) else (nameplatelaw02_NameWild.j1 kj5 a0 a1 a2 t204 t206 true))) = some r := by rw [if_neg (show ¬ (false = true) by decide)] at H; exact H
                      clear H
                      have H := H1
                      clear H1
                      replace H := Option.bind_eq_some_iff.mp H
                      obtain ⟨t220, A780, H⟩ := H
                      replace H : (if t220 = true then ((name_Matches.f kj5 t204 a0).bind fun t221 => (nameplatelaw02_NameWild.j1 kj5 a0 a1 a2 t204 t206 t221)) else (nameplatelaw02_NameWild.j1 kj5 a0 a1 a2 t204 t206 true)) = some r := H
                      have A78 := Aside0.mk A780
                      clear A780
                      by_cases c79 : t220 = true
                      · subst c79
                        have H1 : ((name_Matches.f kj5 t204 a0).bind fun t221 => (nameplatelaw02_NameWild.j1 kj5 a0 a1 a2 t204 t206 t221)) = some r := by rw [if_pos rfl] at H; exact H
                        clear H
                        have H := H1
                        clear H1
                        replace H := Option.bind_eq_some_iff.mp H
                        obtain ⟨t221, A800, H⟩ := H
                        replace H : (nameplatelaw02_NameWild.j1 kj5 a0 a1 a2 t204 t206 t221) = some r := H
                        have A80 := Aside0.mk A800
                        clear A800
                        have H' := Aside0.mk H
                        clear H
                        go_wp2_with (first | ((with_reducible refine gate_callee (f := 18) rfl ?_); refine goesL_ (some 50) rfl rfl Try.func18 (by kernel_rfl) rfl #[.string t204] rfl (by (try simp only [List.map_toArray, List.map_cons, List.map_nil]); first | done | rfl | (simp only [List.length_drop, List.length_take]; rfl)) ?_; (with_reducible refine (name_Wild.calls kj5 t204 true _ A21.out).mono ?_); rintro e w' ⟨rfl, ⟨nd, rfl⟩⟩; refine ⟨_, rfl, ?_⟩) | (go_at_call 16; (with_reducible refine (name_Under.calls kj5 a1 a0 false _ A23.out).mono ?_); rintro e w81 ⟨rfl, hb⟩; have n0_ := Aside0.mk (below_step (by repeat (first | (with_reducible first | exact HB.out | apply below_alloc | apply pw_below_drewN | apply below_drew1) | exact HB.out)) hb); clear HB; have HB := n0_; clear n0_; (try clear hb); (try clear hb2); (try clear hk); (try clear hi)) | (go_at_call 17; (with_reducible refine (name_Matches.calls kj5 a0 a1 false _ A62.out).mono ?_); rintro e w82 ⟨rfl, hb⟩; have n0_ := Aside0.mk (below_step (by repeat (first | (with_reducible first | exact HB.out | apply below_alloc | apply pw_below_drewN | apply below_drew1) | exact HB.out)) hb); clear HB; have HB := n0_; clear n0_; (try clear hb); (try clear hb2); (try clear hk); (try clear hi)) | (go_at_call 17; (with_reducible refine (name_Matches.calls kj5 t204 t204 true _ A78.out).mono ?_); rintro e w83 ⟨rfl, hb⟩; have n0_ := Aside0.mk (below_step (by repeat (first | (with_reducible first | exact HB.out | apply below_alloc | apply pw_below_drewN | apply below_drew1) | exact HB.out)) hb); clear HB; have HB := n0_; clear n0_; (try clear hb); (try clear hb2); (try clear hk); (try clear hi)) | (go_at_call 17; (with_reducible refine (name_Matches.calls kj5 t204 a0 t221 _ A80.out).mono ?_); rintro e w84 ⟨rfl, hb⟩; have n0_ := Aside0.mk (below_step (by repeat (first | (with_reducible first | exact HB.out | apply below_alloc | apply pw_below_drewN | apply below_drew1) | exact HB.out)) hb); clear HB; have HB := n0_; clear n0_; (try clear hb); (try clear hb2); (try clear hk); (try clear hi)))
                        (try (have e_ : t206 = false := bne_eq_false_iff_eq.1 c60b0; subst e_))
                        go_meet
                        case rel => exact ⟨_, (t221), (by first | rfl | (simp; done) | (simp [*]; done)), H', ⟨by have := HJ5.out; first | omega | exact Nat.le_refl _⟩, ⟨by repeat (first | (with_reducible first | exact HB.out | apply below_alloc | apply pw_below_drewN | apply below_drew1) | exact HB.out)⟩⟩
                      · replace c79 := Bool.eq_false_iff.mpr c79
                        subst c79
                        have H1 : (nameplatelaw02_NameWild.j1 kj5 a0 a1 a2 t204 t206 true) = some r := by rw [if_neg (show ¬ (false = true) by decide)] at H; exact H
                        clear H
                        have H := H1
                        clear H1
                        have H' := Aside0.mk H
                        clear H
                        go_wp2_with (first | ((with_reducible refine gate_callee (f := 18) rfl ?_); refine goesL_ (some 50) rfl rfl Try.func18 (by kernel_rfl) rfl #[.string t204] rfl (by (try simp only [List.map_toArray, List.map_cons, List.map_nil]); first | done | rfl | (simp only [List.length_drop, List.length_take]; rfl)) ?_; (with_reducible refine (name_Wild.calls kj5 t204 true _ A21.out).mono ?_); rintro e w' ⟨rfl, ⟨nd, rfl⟩⟩; refine ⟨_, rfl, ?_⟩) | (go_at_call 16; (with_reducible refine (name_Under.calls kj5 a1 a0 false _ A23.out).mono ?_); rintro e w85 ⟨rfl, hb⟩; have n0_ := Aside0.mk (below_step (by repeat (first | (with_reducible first | exact HB.out | apply below_alloc | apply pw_below_drewN | apply below_drew1) | exact HB.out)) hb); clear HB; have HB := n0_; clear n0_; (try clear hb); (try clear hb2); (try clear hk); (try clear hi)) | (go_at_call 17; (with_reducible refine (name_Matches.calls kj5 a0 a1 false _ A62.out).mono ?_); rintro e w86 ⟨rfl, hb⟩; have n0_ := Aside0.mk (below_step (by repeat (first | (with_reducible first | exact HB.out | apply below_alloc | apply pw_below_drewN | apply below_drew1) | exact HB.out)) hb); clear HB; have HB := n0_; clear n0_; (try clear hb); (try clear hb2); (try clear hk); (try clear hi)) | (go_at_call 17; (with_reducible refine (name_Matches.calls kj5 t204 t204 false _ A78.out).mono ?_); rintro e w87 ⟨rfl, hb⟩; have n0_ := Aside0.mk (below_step (by repeat (first | (with_reducible first | exact HB.out | apply below_alloc | apply pw_below_drewN | apply below_drew1) | exact HB.out)) hb); clear HB; have HB := n0_; clear n0_; (try clear hb); (try clear hb2); (try clear hk); (try clear hi)))
                        (try (have e_ : t206 = false := bne_eq_false_iff_eq.1 c60b0; subst e_))
                        go_meet
                        case rel => exact ⟨_, (true), (by first | rfl | (simp; done) | (simp [*]; done)), H', ⟨by have := HJ5.out; first | omega | exact Nat.le_refl _⟩, ⟨by repeat (first | (with_reducible first | exact HB.out | apply below_alloc | apply pw_below_drewN | apply below_drew1) | exact HB.out)⟩⟩
              · replace c22 := Bool.eq_false_iff.mpr c22
                subst c22
                have H1 : (nameplatelaw02_NameWild.j1 kj5 a0 a1 a2 t204 t206 true) = some r := by rw [if_neg (show ¬ (false = true) by decide)] at H; exact H
                clear H
                have H := H1
                clear H1
                have H' := Aside0.mk H
                clear H
                go_wp2_with (first | ((with_reducible refine gate_callee (f := 18) rfl ?_); refine goesL_ (some 50) rfl rfl Try.func18 (by kernel_rfl) rfl #[.string t204] rfl (by (try simp only [List.map_toArray, List.map_cons, List.map_nil]); first | done | rfl | (simp only [List.length_drop, List.length_take]; rfl)) ?_; (with_reducible refine (name_Wild.calls kj5 t204 false _ A21.out).mono ?_); rintro e w' ⟨rfl, ⟨nd, rfl⟩⟩; refine ⟨_, rfl, ?_⟩))
                go_meet
                case rel => exact ⟨_, (true), (by first | rfl | (simp; done) | (simp [*]; done)), H', ⟨by have := HJ5.out; first | omega | exact Nat.le_refl _⟩, ⟨by repeat (first | (with_reducible first | exact HB.out | apply below_alloc | apply pw_below_drewN | apply below_drew1) | exact HB.out)⟩⟩
            case rest =>
              clear HC18
              try clear c1
              try clear c2
              try clear p2
              try clear c3
              try clear c4
              try clear c5
              try clear c6
              try clear c7
              try clear c8
              try clear c8b0
              try clear c8b1
              try clear c9
              try clear c9b0
              try clear c9b1
              try clear c10
              try clear c10b0
              try clear c10b1
              try clear c11
              try clear c12
              try clear c12b0
              try clear c12b1
              try clear c14
              try clear c15
              try clear c16
              try clear c16b0
              try clear c16b1
              try clear c17
              try clear c18
              try clear c22
              try clear c24
              try clear c26
              try clear c26b0
              try clear c26b1
              try clear c26b2
              try clear c30
              try clear c32
              try clear c34
              try clear c49
              try clear c60
              try clear c60b0
              try clear c60b1
              try clear c60b2
              try clear c63
              try clear c65
              try clear c67
              try clear c79
              try clear p2
              obtain ⟨kq, x85_17, rfl, HA, HJ17, HB⟩ := hcut
              cases kq with
              | zero => exact absurd HA.out (by simp [nameplatelaw02_NameWild.j1])
              | succ kj17 =>
                have H := HA.out
                clear HA
                simp only [nameplatelaw02_NameWild.j1] at H
                by_cases c88 : x85_17 = true
                · subst c88
                  have H1 : (some false) = some r := by rw [if_pos rfl] at H; exact H
                  clear H
                  have H := H1
                  clear H1
                  exact absurd ((Option.some.inj H).trans hr_.out) (by decide)
                · replace c88 := Bool.eq_false_iff.mpr c88
                  subst c88
                  have H1 : ((name_Make.f (([a2] : List ByteArray))).bind fun bt225 => (if bt225.2 = 0 then ((name_Join.f kj17 bt225.1 a1).bind fun bt227 => (if bt227.2 = 0 then ((name_Matches.f kj17 t204 bt227.1).bind fun t229 => (if t206 = true then (some (t229 == true)) else ((name_Same.f kj17 a1 a0).bind fun t230 => (some (t229 == t230))))) else (some true))) else (some true))) = some r := by rw [if_neg (show ¬ (false = true) by decide)] at H; exact H
                  clear H
                  have H := H1
                  clear H1
                  obtain ⟨y222, hy222⟩ : ∃ y_ : List ByteArray, y_ = (([a2] : List ByteArray)) := ⟨_, rfl⟩
                  replace H : ((name_Make.f y222).bind fun bt225 => (if bt225.2 = 0 then ((name_Join.f kj17 bt225.1 a1).bind fun bt227 => (if bt227.2 = 0 then ((name_Matches.f kj17 t204 bt227.1).bind fun t229 => (if t206 = true then (some (t229 == true)) else ((name_Same.f kj17 a1 a0).bind fun t230 => (some (t229 == t230))))) else (some true))) else (some true))) = some r := by first | (rw [hy222]; with_reducible exact H) | (have H2_ := (Option.bind_some _ _).symm.trans H; rw [hy222]; with_reducible exact H2_) | (have H2_ := (Option.bind_some _ _).symm.trans H; with_reducible exact H2_) | with_reducible exact H | (rw [hy222]; exact H) | exact H
                  have Ny222 := Aside0.mk hy222
                  clear hy222
                  replace H := Option.bind_eq_some_iff.mp H
                  obtain ⟨⟨t225, t226⟩, A890, H⟩ := H
                  replace H : (if t226 = 0 then ((name_Join.f kj17 t225 a1).bind fun bt227 => (if bt227.2 = 0 then ((name_Matches.f kj17 t204 bt227.1).bind fun t229 => (if t206 = true then (some (t229 == true)) else ((name_Same.f kj17 a1 a0).bind fun t230 => (some (t229 == t230))))) else (some true))) else (some true)) = some r := H
                  have A89 := Aside0.mk A890
                  clear A890
                  by_cases c90 : t226 = 0
                  · rw [if_pos c90] at H
                    have c90b0 : (t226 == 0) = true := beq_iff_eq.mpr c90
                    have c90b1 : (t226 != 0) = false := bne_eq_false_iff_eq.mpr c90
                    clear c90
                    replace H := Option.bind_eq_some_iff.mp H
                    obtain ⟨⟨t227, t228⟩, A910, H⟩ := H
                    replace H : (if t228 = 0 then ((name_Matches.f kj17 t204 t227).bind fun t229 => (if t206 = true then (some (t229 == true)) else ((name_Same.f kj17 a1 a0).bind fun t230 => (some (t229 == t230))))) else (some true)) = some r := H
                    have A91 := Aside0.mk A910
                    clear A910
                    by_cases c92 : t228 = 0
                    · rw [if_pos c92] at H
                      have c92b0 : (t228 == 0) = true := beq_iff_eq.mpr c92
                      have c92b1 : (t228 != 0) = false := bne_eq_false_iff_eq.mpr c92
                      clear c92
                      replace H := Option.bind_eq_some_iff.mp H
                      obtain ⟨t229, A930, H⟩ := H
                      replace H : (if t206 = true then (some (t229 == true)) else ((name_Same.f kj17 a1 a0).bind fun t230 => (some (t229 == t230)))) = some r := H
                      have A93 := Aside0.mk A930
                      clear A930
                      by_cases c94 : t206 = true
                      · subst c94
                        have H1 : (some (t229 == true)) = some r := by rw [if_pos rfl] at H; exact H
                        clear H
                        have H := H1
                        clear H1
                        obtain rfl := Option.some.inj H
                        go_wp2_with (first | ((with_reducible refine gate_dst (N := 88) rfl ?_); (try (refine gate_guard (by rfl) ?_; dsimp only)); refine Kd.R_lit Kd.string _ 9 ?hg (N := 88) ?hd (xs := ([a2] : List ByteArray)) (inner := [.string a2]) (ok := fun _ => True) (okp := fun _ => True) ?hr ?hp (fun _ hk => hk) trivial (Below.refl _ _) (Nat.le_refl _) (by simp) ?_; (case hd => rfl); (case hg => rfl); (case hr => first | (go_simp; done) | (go_simp; rfl)); (case hp => exact (Reps.one (show Kd.M Kd.string _ _ _ a2 [.string a2] from rfl) (Reps.none _ _))); intro v223 w95 ho96 hb hg_ hnew_; clear hg_ hnew_; (first | rw [← Ny222.out] at ho96 | (simp only [Int.reduceToNat] at ho96; rw [← Ny222.out] at ho96)); have n0_ := Aside0.mk (Kd.R_lower ho96 (below_size (by repeat (first | (with_reducible first | exact HB.out | apply below_alloc | apply pw_below_drewN | apply below_drew1) | exact HB.out)))); have n1_ := Aside0.mk (below_step (by repeat (first | (with_reducible first | exact HB.out | apply below_alloc | apply pw_below_drewN | apply below_drew1) | exact HB.out)) hb); clear HB; have HO224 := n0_; have HB := n1_; clear n0_ n1_; clear hb ho96; obtain ⟨Ao97, co97, eo97⟩ := Kd.R_slice HO224.out; subst eo97) | ((with_reducible refine gate_callee (f := 20) rfl ?_); refine goesL_ (some 89) rfl rfl Try.func20 (by kernel_rfl) rfl #[.slice Ao97 y222.length co97] rfl (by (try simp only [List.map_toArray, List.map_cons, List.map_nil]); first | done | rfl | (simp only [List.length_drop, List.length_take]; rfl)) ?_; (with_reducible refine (name_Make.calls _ _ y222 t225 t226 _ ?side1 ?side2 A89.out).mono ?_); (case side1 => repeat (first | exact (Kd.R_reads' HO224.out).2.2 | (with_reducible refine Kd.C_alloc ?_ _) | (with_reducible refine Kd.C_drewN ?_ _) | (with_reducible refine Kd.C_drew ?_))); (case side2 => exact (Kd.R_reads' HO224.out).2.1); rintro e w98 ⟨rfl, hb⟩; refine ⟨_, rfl, ?_⟩; have n0_ := Aside0.mk (Kd.R_below (by (with_reducible repeat (first | apply Kd.R_alloc | apply Kd.R_drewN | apply Kd.R_drew)); exact HO224.out) hb); have n1_ := Aside0.mk (below_step (by repeat (first | (with_reducible first | exact HB.out | apply below_alloc | apply pw_below_drewN | apply below_drew1) | exact HB.out)) hb); clear HO224; clear HB; have HO224 := n0_; have HB := n1_; clear n0_ n1_; (try clear hb); (try clear hb2); (try clear hk); (try clear hi)) | ((with_reducible refine gate_callee (f := 15) rfl ?_); refine goesL_ (some 97) rfl rfl Try.func15 (by kernel_rfl) rfl #[.string t225, .string a1] rfl (by (try simp only [List.map_toArray, List.map_cons, List.map_nil]); first | done | rfl | (simp only [List.length_drop, List.length_take]; rfl)) ?_; (with_reducible refine (name_Join.calls kj17 t225 a1 t227 t228 _ A91.out).mono ?_); rintro e w99 ⟨rfl, hb⟩; refine ⟨_, rfl, ?_⟩; have n0_ := Aside0.mk (Kd.R_below (by (with_reducible repeat (first | apply Kd.R_alloc | apply Kd.R_drewN | apply Kd.R_drew)); exact HO224.out) hb); have n1_ := Aside0.mk (below_step (by repeat (first | (with_reducible first | exact HB.out | apply below_alloc | apply pw_below_drewN | apply below_drew1) | exact HB.out)) hb); clear HO224; clear HB; have HO224 := n0_; have HB := n1_; clear n0_ n1_; (try clear hb); (try clear hb2); (try clear hk); (try clear hi)) | (go_at_call 17; (with_reducible refine (name_Matches.calls kj17 t204 t227 t229 _ A93.out).mono ?_); rintro e w100 ⟨rfl, hb⟩; have n0_ := Aside0.mk (Kd.R_below (by (with_reducible repeat (first | apply Kd.R_alloc | apply Kd.R_drewN | apply Kd.R_drew)); exact HO224.out) hb); have n1_ := Aside0.mk (below_step (by repeat (first | (with_reducible first | exact HB.out | apply below_alloc | apply pw_below_drewN | apply below_drew1) | exact HB.out)) hb); clear HO224; clear HB; have HO224 := n0_; have HB := n1_; clear n0_ n1_; (try clear hb); (try clear hb2); (try clear hk); (try clear hi)))
                        go_ret
                        exact ⟨by first | rfl | (simp [errW_none, errW_some] <;> rfl) | (simp [*, errW_none, errW_some] <;> rfl), by repeat (first | (with_reducible first | exact HB.out | apply below_alloc | apply pw_below_drewN | apply below_drew1) | exact HB.out)⟩
                      · replace c94 := Bool.eq_false_iff.mpr c94
                        subst c94
                        have H1 : ((name_Same.f kj17 a1 a0).bind fun t230 => (some (t229 == t230))) = some r := by rw [if_neg (show ¬ (false = true) by decide)] at H; exact H
                        clear H
                        have H := H1
                        clear H1
                        replace H := Option.bind_eq_some_iff.mp H
                        obtain ⟨t230, A1010, H⟩ := H
                        replace H : (some (t229 == t230)) = some r := H
                        have A101 := Aside0.mk A1010
                        clear A1010
                        obtain rfl := Option.some.inj H
                        go_wp2_with (first | ((with_reducible refine gate_dst (N := 88) rfl ?_); (try (refine gate_guard (by rfl) ?_; dsimp only)); refine Kd.R_lit Kd.string _ 9 ?hg (N := 88) ?hd (xs := ([a2] : List ByteArray)) (inner := [.string a2]) (ok := fun _ => True) (okp := fun _ => True) ?hr ?hp (fun _ hk => hk) trivial (Below.refl _ _) (Nat.le_refl _) (by simp) ?_; (case hd => rfl); (case hg => rfl); (case hr => first | (go_simp; done) | (go_simp; rfl)); (case hp => exact (Reps.one (show Kd.M Kd.string _ _ _ a2 [.string a2] from rfl) (Reps.none _ _))); intro v223 w102 ho103 hb hg_ hnew_; clear hg_ hnew_; (first | rw [← Ny222.out] at ho103 | (simp only [Int.reduceToNat] at ho103; rw [← Ny222.out] at ho103)); have n0_ := Aside0.mk (Kd.R_lower ho103 (below_size (by repeat (first | (with_reducible first | exact HB.out | apply below_alloc | apply pw_below_drewN | apply below_drew1) | exact HB.out)))); have n1_ := Aside0.mk (below_step (by repeat (first | (with_reducible first | exact HB.out | apply below_alloc | apply pw_below_drewN | apply below_drew1) | exact HB.out)) hb); clear HB; have HO224 := n0_; have HB := n1_; clear n0_ n1_; clear hb ho103; obtain ⟨Ao104, co104, eo104⟩ := Kd.R_slice HO224.out; subst eo104) | ((with_reducible refine gate_callee (f := 20) rfl ?_); refine goesL_ (some 89) rfl rfl Try.func20 (by kernel_rfl) rfl #[.slice Ao104 y222.length co104] rfl (by (try simp only [List.map_toArray, List.map_cons, List.map_nil]); first | done | rfl | (simp only [List.length_drop, List.length_take]; rfl)) ?_; (with_reducible refine (name_Make.calls _ _ y222 t225 t226 _ ?side1 ?side2 A89.out).mono ?_); (case side1 => repeat (first | exact (Kd.R_reads' HO224.out).2.2 | (with_reducible refine Kd.C_alloc ?_ _) | (with_reducible refine Kd.C_drewN ?_ _) | (with_reducible refine Kd.C_drew ?_))); (case side2 => exact (Kd.R_reads' HO224.out).2.1); rintro e w105 ⟨rfl, hb⟩; refine ⟨_, rfl, ?_⟩; have n0_ := Aside0.mk (Kd.R_below (by (with_reducible repeat (first | apply Kd.R_alloc | apply Kd.R_drewN | apply Kd.R_drew)); exact HO224.out) hb); have n1_ := Aside0.mk (below_step (by repeat (first | (with_reducible first | exact HB.out | apply below_alloc | apply pw_below_drewN | apply below_drew1) | exact HB.out)) hb); clear HO224; clear HB; have HO224 := n0_; have HB := n1_; clear n0_ n1_; (try clear hb); (try clear hb2); (try clear hk); (try clear hi)) | ((with_reducible refine gate_callee (f := 15) rfl ?_); refine goesL_ (some 97) rfl rfl Try.func15 (by kernel_rfl) rfl #[.string t225, .string a1] rfl (by (try simp only [List.map_toArray, List.map_cons, List.map_nil]); first | done | rfl | (simp only [List.length_drop, List.length_take]; rfl)) ?_; (with_reducible refine (name_Join.calls kj17 t225 a1 t227 t228 _ A91.out).mono ?_); rintro e w106 ⟨rfl, hb⟩; refine ⟨_, rfl, ?_⟩; have n0_ := Aside0.mk (Kd.R_below (by (with_reducible repeat (first | apply Kd.R_alloc | apply Kd.R_drewN | apply Kd.R_drew)); exact HO224.out) hb); have n1_ := Aside0.mk (below_step (by repeat (first | (with_reducible first | exact HB.out | apply below_alloc | apply pw_below_drewN | apply below_drew1) | exact HB.out)) hb); clear HO224; clear HB; have HO224 := n0_; have HB := n1_; clear n0_ n1_; (try clear hb); (try clear hb2); (try clear hk); (try clear hi)) | (go_at_call 17; (with_reducible refine (name_Matches.calls kj17 t204 t227 t229 _ A93.out).mono ?_); rintro e w107 ⟨rfl, hb⟩; have n0_ := Aside0.mk (Kd.R_below (by (with_reducible repeat (first | apply Kd.R_alloc | apply Kd.R_drewN | apply Kd.R_drew)); exact HO224.out) hb); have n1_ := Aside0.mk (below_step (by repeat (first | (with_reducible first | exact HB.out | apply below_alloc | apply pw_below_drewN | apply below_drew1) | exact HB.out)) hb); clear HO224; clear HB; have HO224 := n0_; have HB := n1_; clear n0_ n1_; (try clear hb); (try clear hb2); (try clear hk); (try clear hi)) | (go_at_call 19; (with_reducible refine (name_Same.calls kj17 a1 a0 t230 _ A101.out).mono ?_); rintro e w108 ⟨rfl, hb⟩; have n0_ := Aside0.mk (Kd.R_below (by (with_reducible repeat (first | apply Kd.R_alloc | apply Kd.R_drewN | apply Kd.R_drew)); exact HO224.out) hb); have n1_ := Aside0.mk (below_step (by repeat (first | (with_reducible first | exact HB.out | apply below_alloc | apply pw_below_drewN | apply below_drew1) | exact HB.out)) hb); clear HO224; clear HB; have HO224 := n0_; have HB := n1_; clear n0_ n1_; (try clear hb); (try clear hb2); (try clear hk); (try clear hi)))
                        go_ret
                        exact ⟨by first | rfl | (simp [errW_none, errW_some] <;> rfl) | (simp [*, errW_none, errW_some] <;> rfl), by repeat (first | (with_reducible first | exact HB.out | apply below_alloc | apply pw_below_drewN | apply below_drew1) | exact HB.out)⟩
                    · rw [if_neg c92] at H
                      have c92b0 : (t228 == 0) = false := beq_eq_false_iff_ne.mpr c92
                      have c92b1 : (t228 != 0) = true := bne_iff_ne.mpr c92
                      obtain rfl := Option.some.inj H
                      go_wp2_with (first | ((with_reducible refine gate_dst (N := 88) rfl ?_); (try (refine gate_guard (by rfl) ?_; dsimp only)); refine Kd.R_lit Kd.string _ 9 ?hg (N := 88) ?hd (xs := ([a2] : List ByteArray)) (inner := [.string a2]) (ok := fun _ => True) (okp := fun _ => True) ?hr ?hp (fun _ hk => hk) trivial (Below.refl _ _) (Nat.le_refl _) (by simp) ?_; (case hd => rfl); (case hg => rfl); (case hr => first | (go_simp; done) | (go_simp; rfl)); (case hp => exact (Reps.one (show Kd.M Kd.string _ _ _ a2 [.string a2] from rfl) (Reps.none _ _))); intro v223 w109 ho110 hb hg_ hnew_; clear hg_ hnew_; (first | rw [← Ny222.out] at ho110 | (simp only [Int.reduceToNat] at ho110; rw [← Ny222.out] at ho110)); have n0_ := Aside0.mk (Kd.R_lower ho110 (below_size (by repeat (first | (with_reducible first | exact HB.out | apply below_alloc | apply pw_below_drewN | apply below_drew1) | exact HB.out)))); have n1_ := Aside0.mk (below_step (by repeat (first | (with_reducible first | exact HB.out | apply below_alloc | apply pw_below_drewN | apply below_drew1) | exact HB.out)) hb); clear HB; have HO224 := n0_; have HB := n1_; clear n0_ n1_; clear hb ho110; obtain ⟨Ao111, co111, eo111⟩ := Kd.R_slice HO224.out; subst eo111) | ((with_reducible refine gate_callee (f := 20) rfl ?_); refine goesL_ (some 89) rfl rfl Try.func20 (by kernel_rfl) rfl #[.slice Ao111 y222.length co111] rfl (by (try simp only [List.map_toArray, List.map_cons, List.map_nil]); first | done | rfl | (simp only [List.length_drop, List.length_take]; rfl)) ?_; (with_reducible refine (name_Make.calls _ _ y222 t225 t226 _ ?side1 ?side2 A89.out).mono ?_); (case side1 => repeat (first | exact (Kd.R_reads' HO224.out).2.2 | (with_reducible refine Kd.C_alloc ?_ _) | (with_reducible refine Kd.C_drewN ?_ _) | (with_reducible refine Kd.C_drew ?_))); (case side2 => exact (Kd.R_reads' HO224.out).2.1); rintro e w112 ⟨rfl, hb⟩; refine ⟨_, rfl, ?_⟩; have n0_ := Aside0.mk (Kd.R_below (by (with_reducible repeat (first | apply Kd.R_alloc | apply Kd.R_drewN | apply Kd.R_drew)); exact HO224.out) hb); have n1_ := Aside0.mk (below_step (by repeat (first | (with_reducible first | exact HB.out | apply below_alloc | apply pw_below_drewN | apply below_drew1) | exact HB.out)) hb); clear HO224; clear HB; have HO224 := n0_; have HB := n1_; clear n0_ n1_; (try clear hb); (try clear hb2); (try clear hk); (try clear hi)) | ((with_reducible refine gate_callee (f := 15) rfl ?_); refine goesL_ (some 97) rfl rfl Try.func15 (by kernel_rfl) rfl #[.string t225, .string a1] rfl (by (try simp only [List.map_toArray, List.map_cons, List.map_nil]); first | done | rfl | (simp only [List.length_drop, List.length_take]; rfl)) ?_; (with_reducible refine (name_Join.calls kj17 t225 a1 t227 t228 _ A91.out).mono ?_); rintro e w113 ⟨rfl, hb⟩; refine ⟨_, rfl, ?_⟩; have n0_ := Aside0.mk (Kd.R_below (by (with_reducible repeat (first | apply Kd.R_alloc | apply Kd.R_drewN | apply Kd.R_drew)); exact HO224.out) hb); have n1_ := Aside0.mk (below_step (by repeat (first | (with_reducible first | exact HB.out | apply below_alloc | apply pw_below_drewN | apply below_drew1) | exact HB.out)) hb); clear HO224; clear HB; have HO224 := n0_; have HB := n1_; clear n0_ n1_; (try clear hb); (try clear hb2); (try clear hk); (try clear hi)))
                      go_ret
                      exact ⟨by first | rfl | (simp [errW_none, errW_some] <;> rfl) | (simp [*, errW_none, errW_some] <;> rfl), by repeat (first | (with_reducible first | exact HB.out | apply below_alloc | apply pw_below_drewN | apply below_drew1) | exact HB.out)⟩
                  · rw [if_neg c90] at H
                    have c90b0 : (t226 == 0) = false := beq_eq_false_iff_ne.mpr c90
                    have c90b1 : (t226 != 0) = true := bne_iff_ne.mpr c90
                    obtain rfl := Option.some.inj H
                    go_wp2_with (first | ((with_reducible refine gate_dst (N := 88) rfl ?_); (try (refine gate_guard (by rfl) ?_; dsimp only)); refine Kd.R_lit Kd.string _ 9 ?hg (N := 88) ?hd (xs := ([a2] : List ByteArray)) (inner := [.string a2]) (ok := fun _ => True) (okp := fun _ => True) ?hr ?hp (fun _ hk => hk) trivial (Below.refl _ _) (Nat.le_refl _) (by simp) ?_; (case hd => rfl); (case hg => rfl); (case hr => first | (go_simp; done) | (go_simp; rfl)); (case hp => exact (Reps.one (show Kd.M Kd.string _ _ _ a2 [.string a2] from rfl) (Reps.none _ _))); intro v223 w114 ho115 hb hg_ hnew_; clear hg_ hnew_; (first | rw [← Ny222.out] at ho115 | (simp only [Int.reduceToNat] at ho115; rw [← Ny222.out] at ho115)); have n0_ := Aside0.mk (Kd.R_lower ho115 (below_size (by repeat (first | (with_reducible first | exact HB.out | apply below_alloc | apply pw_below_drewN | apply below_drew1) | exact HB.out)))); have n1_ := Aside0.mk (below_step (by repeat (first | (with_reducible first | exact HB.out | apply below_alloc | apply pw_below_drewN | apply below_drew1) | exact HB.out)) hb); clear HB; have HO224 := n0_; have HB := n1_; clear n0_ n1_; clear hb ho115; obtain ⟨Ao116, co116, eo116⟩ := Kd.R_slice HO224.out; subst eo116) | ((with_reducible refine gate_callee (f := 20) rfl ?_); refine goesL_ (some 89) rfl rfl Try.func20 (by kernel_rfl) rfl #[.slice Ao116 y222.length co116] rfl (by (try simp only [List.map_toArray, List.map_cons, List.map_nil]); first | done | rfl | (simp only [List.length_drop, List.length_take]; rfl)) ?_; (with_reducible refine (name_Make.calls _ _ y222 t225 t226 _ ?side1 ?side2 A89.out).mono ?_); (case side1 => repeat (first | exact (Kd.R_reads' HO224.out).2.2 | (with_reducible refine Kd.C_alloc ?_ _) | (with_reducible refine Kd.C_drewN ?_ _) | (with_reducible refine Kd.C_drew ?_))); (case side2 => exact (Kd.R_reads' HO224.out).2.1); rintro e w117 ⟨rfl, hb⟩; refine ⟨_, rfl, ?_⟩; have n0_ := Aside0.mk (Kd.R_below (by (with_reducible repeat (first | apply Kd.R_alloc | apply Kd.R_drewN | apply Kd.R_drew)); exact HO224.out) hb); have n1_ := Aside0.mk (below_step (by repeat (first | (with_reducible first | exact HB.out | apply below_alloc | apply pw_below_drewN | apply below_drew1) | exact HB.out)) hb); clear HO224; clear HB; have HO224 := n0_; have HB := n1_; clear n0_ n1_; (try clear hb); (try clear hb2); (try clear hk); (try clear hi)))
                    go_ret
                    exact ⟨by first | rfl | (simp [errW_none, errW_some] <;> rfl) | (simp [*, errW_none, errW_some] <;> rfl), by repeat (first | (with_reducible first | exact HB.out | apply below_alloc | apply pw_below_drewN | apply below_drew1) | exact HB.out)⟩
          · rw [if_neg c16] at H
            have c16b0 : (t205 == 0) = false := beq_eq_false_iff_ne.mpr c16
            have c16b1 : (t205 != 0) = true := bne_iff_ne.mpr c16
            obtain rfl := Option.some.inj H
            go_wp2_with (first | ((with_reducible refine gate_callee (f := 15) rfl ?_); refine goesL_ (some 41) rfl rfl Try.func15 (by kernel_rfl) rfl #[.string (⟨#[1, 42]⟩ : ByteArray), .string a0] rfl (by (try simp only [List.map_toArray, List.map_cons, List.map_nil]); first | done | rfl | (simp only [List.length_drop, List.length_take]; rfl)) ?_; (with_reducible refine (name_Join.calls kj5 (⟨#[1, 42]⟩ : ByteArray) a0 t204 t205 _ A15.out).mono ?_); rintro e w118 ⟨rfl, hb⟩; refine ⟨_, rfl, ?_⟩; have n0_ := Aside0.mk (below_step (by repeat (first | (with_reducible first | exact HB.out | apply below_alloc | apply pw_below_drewN | apply below_drew1) | exact HB.out)) hb); clear HB; have HB := n0_; clear n0_; (try clear hb); (try clear hb2); (try clear hk); (try clear hi)))
            go_ret
            exact ⟨by first | rfl | (simp [errW_none, errW_some] <;> rfl) | (simp [*, errW_none, errW_some] <;> rfl), by repeat (first | (with_reducible first | exact HB.out | apply below_alloc | apply pw_below_drewN | apply below_drew1) | exact HB.out)⟩
  · replace c5 := Bool.eq_false_iff.mpr c5
    subst c5
    have H1 : (some false) = some r := by rw [if_neg (show ¬ (false = true) by decide)] at H; exact H
    clear H
    have H := H1
    clear H1
    exact absurd ((Option.some.inj H).trans hr_.out) (by decide)

/-- THE ONE PURE STATEMENT of nameplatelaw02_NameWild: yours. -/
def nameplatelaw02_NameWild.Pure : Prop := ∀ (a0 : ByteArray) (a1 : ByteArray) (a2 : ByteArray), a0.size ≤ 140737488351232 → a1.size ≤ 140737488351232 → a2.size ≤ 140737488351232 → ∃ k, nameplatelaw02_NameWild.f k a0 a1 a2 = some true
theorem nameplatelaw02_NameWild.walk (P : nameplatelaw02_NameWild.Pure) (a0 : ByteArray) (a1 : ByteArray) (a2 : ByteArray) (w : World) (w0 : a0.size ≤ 140737488351232) (w1 : a1.size ≤ 140737488351232) (w2 : a2.size ≤ 140737488351232) :
    Calls Try.prog 5 #[.string a0, .string a1, .string a2] w fun e w' => e = .returned (.bool true) ∧ Below w.heap.size w w' := by
  obtain ⟨k, h⟩ := P a0 a1 a2 w0 w1 w2
  refine (nameplatelaw02_NameWild.calls k a0 a1 a2 true w ⟨rfl⟩ h).mono ?_
  rintro e w' ⟨rfl, hd⟩
  exact ⟨rfl, hd⟩

/-! ### label_digits: function 73 -/
def label_digits.l0 : Nat → List Int → List Int → Int → Int → Option (List Int)
  | 0, _, _, _, _ => none
  | k + 1, x0, x7, x8, x9 => if x9 < x8 then (if 0 ≤ x9 then (if x9 < (x7.length : Int) then (if x0.length < 140737488355328 then (label_digits.l0 k (x0 ++ [(48 + (rd x7 x9)) % 256]) x7 x8 (wrap64 (x9 + 1))) else (none)) else (none)) else (none)) else (some x0)
def label_digits.f (k : Nat) (l0 : List Int) (l1 : List Int) : Option (List Int) := label_digits.l0 k l0 l1 (l1.length : Int) 0
theorem label_digits.mono_l : ∀ k, (∀ y0 y1 y2 y3, LeO (label_digits.l0 k y0 y1 y2 y3) (label_digits.l0 (k + 1) y0 y1 y2 y3))
  | 0 => fun _ _ _ _ r h => by simp [label_digits.l0] at h
  | k + 1 => by
    have ih0 := label_digits.mono_l k
    · intro y0 y1 y2 y3
      unfold label_digits.l0
      repeat' first
      | (with_reducible exact ih0 _ _ _ _)
      | (with_reducible exact LeO.refl _)
      | (with_reducible exact LeO.none _)
      | (with_reducible refine LeO.ite ?_ ?_)
      | (with_reducible refine LeO.bind ?_ (fun _ => ?_))
      | exact ih0 _ _ _ _
      | exact LeO.none _
      | refine LeO.ite ?_ ?_
      | refine LeO.bind ?_ (fun _ => ?_)
theorem label_digits.mono : ∀ a0 a1 k, LeO (label_digits.f k a0 a1) (label_digits.f (k + 1) a0 a1) := by
  intro a0 a1 k
  have ih0 := label_digits.mono_l k
  unfold label_digits.f
  repeat' first
      | (with_reducible exact ih0 _ _ _ _)
      | (with_reducible exact LeO.refl _)
      | (with_reducible exact LeO.none _)
      | (with_reducible refine LeO.ite ?_ ?_)
      | (with_reducible refine LeO.bind ?_ (fun _ => ?_))
      | exact ih0 _ _ _ _
      | exact LeO.none _
      | refine LeO.ite ?_ ?_
      | refine LeO.bind ?_ (fun _ => ?_)
set_option maxHeartbeats 8000000 in
set_option maxRecDepth 100000 in
theorem label_digits.calls (k : Nat) (P0_ : Nat → Prop) (u9000_ : Value) (l0 : List Int) (A1 : Option Addr) (c1 : Nat) (l1 : List Int) (r : List Int) (w0 w : World) (hB : Below w0.heap.size w0 w) (ho0 : Kd.R (Kd.int .u8) 5 w w0.heap.size P0_ u9000_ l0) (hr1 : ∀ W_, Kept w W_ (fun k_ => P0_ k_) → Kd.C (Kd.int .u8) W_ A1 l1.length l1) (hc1 : l1.length ≤ c1) (h : label_digits.f k l0 l1 = some r) :
    Calls Try.prog 73 #[u9000_, .slice A1 l1.length c1] w fun e w' => ∃ v0_ : Value, e = .returned (v0_) ∧ Kd.R (Kd.int .u8) 5 w' w0.heap.size (fun k_ => (P0_ k_ ∨ w.heap.size ≤ k_)) v0_ r ∧ Below w0.heap.size w0 w' ∧ Kept w w' (fun k_ => P0_ k_) := by
  have HO0 := Aside0.mk (show Kd.R (Kd.int .u8) 5 w w0.heap.size (fun k_ => (P0_ k_ ∨ w.heap.size ≤ k_)) u9000_ l0 from Kd.R_mono ho0 (fun k_ hk => (.inl hk)))
  have HR1 := Aside0.mk hr1
  have HC1 := Aside0.mk hc1
  clear hr1 hc1
  have HK := Aside0.mk (Kept.refl w (fun k_ => P0_ k_))
  have HW0 := Aside0.mk hB.size
  have HB := Aside0.mk hB
  clear hB
  have H : (label_digits.l0 k l0 l1 (l1.length : Int) 0) = some r := h
  clear h
  have H' := Aside0.mk H
  clear H
  go_enter Try.func73, Try.ntmps73
  go_wp2
  go_loopg [0, 9] k (fun kq v0 v9 w' => ∃ (x0_1 : List Int) (x9_1 : Int), v9 = .int .i64 x9_1 ∧ Aside0 (label_digits.l0 kq x0_1 l1 (l1.length : Int) x9_1 = some r) ∧ Aside0 (kq ≤ k) ∧ Aside0 (Kd.R (Kd.int .u8) 5 w' w0.heap.size (fun k_ => (P0_ k_ ∨ w.heap.size ≤ k_)) v0 x0_1) ∧ Aside0 (Kept w w' (fun k_ => P0_ k_)) ∧ Aside0 (Below w0.heap.size w0 w'))
  case atStart => exact ⟨(l0), (0), (by first | rfl | (simp; done) | (simp [*]; done)), H', ⟨Nat.le_refl _⟩, ⟨by (with_reducible repeat (first | apply Kd.R_alloc | apply Kd.R_drewN | apply Kd.R_drew)); exact HO0.out⟩, ⟨by repeat (first | (with_reducible first | exact HK.out | apply Kept.alloc | apply Kept.drewN | apply Kept.drew) | exact HK.out)⟩, ⟨by repeat (first | (with_reducible first | exact HB.out | apply below_alloc | apply pw_below_drewN | apply below_drew1) | exact HB.out)⟩⟩
  case round =>
    clear H'
    try clear c1
    try clear p2
    obtain ⟨x0_1, x9_1, rfl, HA, HK1, HO_0, HK, HB⟩ := hrel
    cases gk with
    | zero => exact absurd HA.out (by simp [label_digits.l0])
    | succ k1 =>
      have H := HA.out
      clear HA
      simp only [label_digits.l0] at H
      by_cases c3 : x9_1 < (l1.length : Int)
      · rw [if_pos c3] at H
        have c3b0 : decide (x9_1 < (l1.length : Int)) = true := decide_eq_true c3
        clear c3
        by_cases c4 : 0 ≤ x9_1
        · rw [if_pos c4] at H
          have c4b0 : decide (0 ≤ x9_1) = true := decide_eq_true c4
          clear c4
          by_cases c5 : x9_1 < (l1.length : Int)
          · rw [if_pos c5] at H
            have c5b0 : decide (x9_1 < (l1.length : Int)) = true := decide_eq_true c5
            clear c5
            by_cases c6 : x0_1.length < 140737488355328
            · rw [if_pos c6] at H
              have LMc6 := Aside0.mk c6
              clear c6
              obtain ⟨y232, hy232⟩ : ∃ y_ : List Int, y_ = (x0_1 ++ [(48 + (rd l1 x9_1)) % 256]) := ⟨_, rfl⟩
              replace H : (label_digits.l0 k1 y232 l1 (l1.length : Int) (wrap64 (x9_1 + 1))) = some r := by first | (rw [hy232]; with_reducible exact H) | (have H2_ := (Option.bind_some _ _).symm.trans H; rw [hy232]; with_reducible exact H2_) | (have H2_ := (Option.bind_some _ _).symm.trans H; with_reducible exact H2_) | with_reducible exact H | (rw [hy232]; exact H) | exact H
              have Ny232 := Aside0.mk hy232
              clear hy232
              have H' := Aside0.mk H
              clear H
              have p231 : 0 ≤ (x9_1 : Int) := of_decide_eq_true (by first | (with_reducible assumption) | assumption)
              have q231 : x9_1 < (l1.length : Int) := of_decide_eq_true (by first | (with_reducible assumption) | assumption)
              obtain ⟨ad231, e231, hx231_0⟩ := Kd.at_int (Kd.C_kept_now HR1.out HK.out) x9_1 p231 q231
              cases e231
              replace p231 := eq_true p231
              replace q231 := eq_true q231
              go_wp2_with (first | ((with_reducible refine gate_builtin (b := .append) (xs := #[.tmp 13, .tmp 16]) rfl ?_); at_builtin; refine Kd.R_append (Kd.int .u8) (w0 := w0) w0.heap.size rfl (.tmp 13) (.tmp 16) 60 5 (.int .u8 0) 1 rfl Try.underlying60 info5 rfl (by decide) (by omega) u0 x0_1 ((48 + (rd l1 x9_1)) % 256) [.int .u8 ((48 + (rd l1 x9_1)) % 256)] (fun k_ => (P0_ k_ ∨ w.heap.size ≤ k_)) (fun _ => False) rfl rfl ?aP (fun _ hk => hk.elim) ?aF ?aO ?aB ?aS ?aL ?_; (case aP => exact rfl); (case aB => exact (by repeat (first | (with_reducible first | exact HB.out | apply below_alloc | apply pw_below_drewN | apply below_drew1) | exact HB.out))); (case aF => exact (fun k_ hk => (.inr (Nat.le_trans (by first | exact HK.out.1 | exact (show Kept w _ (fun k_ => P0_ k_) from by repeat (first | (with_reducible first | exact HK.out | apply Kept.alloc | apply Kept.drewN | apply Kept.drew) | exact HK.out)).1) hk)))); (case aO => exact (by (with_reducible repeat (first | apply Kd.R_alloc | apply Kd.R_drewN | apply Kd.R_drew)); exact HO_0.out)); (case aS => exact (below_size (by repeat (first | (with_reducible first | exact HB.out | apply below_alloc | apply pw_below_drewN | apply below_drew1) | exact HB.out)))); (case aL => have := LMc6.out; omega); intro v233 w7 ho hb hg hat; rw [← Ny232.out] at ho; have n0_ := Aside0.mk (hb); have n1_ := Aside0.mk (Kept.of_grown (S := (fun k_ => P0_ k_)) hg (by repeat (first | (with_reducible first | exact HK.out | apply Kept.alloc | apply Kept.drewN | apply Kept.drew) | exact HK.out)) (fun k_ e_ => (HO_0.out.1 k_ e_))); have n2_ := Aside0.mk (ho); clear HB; clear HK; clear HO_0; have HB := n0_; have HK := n1_; have HO234 := n2_; clear n0_ n1_ n2_; clear ho hb hg hat))
              go_roundg k1
              case measure => have := HK1.out; omega
              case rel => exact ⟨(y232), (wrap64 (x9_1 + 1)), (by first | rfl | (simp; done) | (simp [*]; done)), H', ⟨by have := HK1.out; omega⟩, ⟨by (with_reducible repeat (first | apply Kd.R_alloc | apply Kd.R_drewN | apply Kd.R_drew)); exact HO234.out⟩, ⟨by repeat (first | (with_reducible first | exact HK.out | apply Kept.alloc | apply Kept.drewN | apply Kept.drew) | exact HK.out)⟩, ⟨by repeat (first | (with_reducible first | exact HB.out | apply below_alloc | apply pw_below_drewN | apply below_drew1) | exact HB.out)⟩⟩
            · rw [if_neg c6] at H
              exact absurd H (by simp)
          · rw [if_neg c5] at H
            exact absurd H (by simp)
        · rw [if_neg c4] at H
          exact absurd H (by simp)
      · rw [if_neg c3] at H
        have c3b0 : decide (x9_1 < (l1.length : Int)) = false := decide_eq_false c3
        clear c3
        obtain rfl := Option.some.inj H
        go_wp2
        go_ret
        exact ⟨_, by first | rfl | (simp [errW_none, errW_some] <;> rfl) | (simp [*, errW_none, errW_some] <;> rfl), by (with_reducible repeat (first | apply Kd.R_alloc | apply Kd.R_drewN | apply Kd.R_drew)); exact HO_0.out, by repeat (first | (with_reducible first | exact HB.out | apply below_alloc | apply pw_below_drewN | apply below_drew1) | exact HB.out), by repeat (first | (with_reducible first | exact HK.out | apply Kept.alloc | apply Kept.drewN | apply Kept.drew) | exact HK.out)⟩

end Go.Proofs.Ythimngabaliapaa.OSeven
