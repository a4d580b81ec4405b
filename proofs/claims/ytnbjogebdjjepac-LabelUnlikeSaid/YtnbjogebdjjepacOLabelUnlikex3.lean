/- This text proves, for each Go function named below, which plain Lean function its call computes, in whatever memory; a program of this session has written it. -/

import Derived.Test.YtnbjogebdjjepacOLabelUnlikex0
import Derived.Test.YtnbjogebdjjepacOLabelUnlikex1
import Derived.Test.YtnbjogebdjjepacOLabelUnlikex2
namespace Go.Proofs.Ytnbjogebdjjepac.OLabelUnlike
open Go.RowKit Go.Proofs.YtnbjogebdjjepacW.PrintWords Go.Proofs.YtnbjogebdjjepacW.PrintLast Go.Proofs.YtnbjogebdjjepacW.PrintMore
attribute [local go_sem] max2_int min2_int max_two min_two max_three min_three max_four min_four   -- for this text's walks alone
set_option linter.unusedVariables false
set_option linter.unusedSimpArgs false

/-! ### nameplatelaw01_LabelUnlike: function 4 -/
mutual
def nameplatelaw01_LabelUnlike.j0 : Nat → ByteArray → ByteArray → ByteArray → ByteArray → Bool → Option (Bool)
  | 0, _, _, _, _, _ => none
  | k + 1, x0, x1, x5, x7, x32 => if x32 = true then (some true) else (nameplatelaw01_LabelUnlike.l0 k x0 x1 x5 x7 (⟨#[]⟩ : ByteArray) 0)
def nameplatelaw01_LabelUnlike.l0 : Nat → ByteArray → ByteArray → ByteArray → ByteArray → ByteArray → Int → Option (Bool)
  | 0, _, _, _, _, _, _ => none
  | k + 1, x0, x1, x5, x7, x9, x10 => if x10 < (x0.size : Int) then (if x9.size + 1 ≤ 9223372036854775807 then (if 0 ≤ x10 then (if 0 ≤ ((Int.tdiv (bt x0 x10) 100) % 256) then (if ((Int.tdiv (bt x0 x10) 100) % 256) ≤ ((((Int.tdiv (bt x0 x10) 100) % 256) + 1) % 256) then (if ((((Int.tdiv (bt x0 x10) 100) % 256) + 1) % 256) ≤ 10 then (if (x9 ++ (⟨#[92]⟩ : ByteArray)).size + ((⟨#[48, 49, 50, 51, 52, 53, 54, 55, 56, 57]⟩ : ByteArray).extract (((Int.tdiv (bt x0 x10) 100) % 256) : Int).toNat (((((Int.tdiv (bt x0 x10) 100) % 256) + 1) % 256) : Int).toNat).size ≤ 9223372036854775807 then (if 0 ≤ (((Int.tdiv (bt x0 x10) 10) % 256) % 10) then (if (((Int.tdiv (bt x0 x10) 10) % 256) % 10) ≤ ((((Int.tdiv (bt x0 x10) 10) % 256) % 10) + 1) then (if ((((Int.tdiv (bt x0 x10) 10) % 256) % 10) + 1) ≤ 10 then (if ((x9 ++ (⟨#[92]⟩ : ByteArray)) ++ ((⟨#[48, 49, 50, 51, 52, 53, 54, 55, 56, 57]⟩ : ByteArray).extract (((Int.tdiv (bt x0 x10) 100) % 256) : Int).toNat (((((Int.tdiv (bt x0 x10) 100) % 256) + 1) % 256) : Int).toNat)).size + ((⟨#[48, 49, 50, 51, 52, 53, 54, 55, 56, 57]⟩ : ByteArray).extract ((((Int.tdiv (bt x0 x10) 10) % 256) % 10) : Int).toNat (((((Int.tdiv (bt x0 x10) 10) % 256) % 10) + 1) : Int).toNat).size ≤ 9223372036854775807 then (if 0 ≤ (Int.tmod (bt x0 x10) 10) then (if (Int.tmod (bt x0 x10) 10) ≤ (((Int.tmod (bt x0 x10) 10) + 1) % 256) then (if (((Int.tmod (bt x0 x10) 10) + 1) % 256) ≤ 10 then (if (((x9 ++ (⟨#[92]⟩ : ByteArray)) ++ ((⟨#[48, 49, 50, 51, 52, 53, 54, 55, 56, 57]⟩ : ByteArray).extract (((Int.tdiv (bt x0 x10) 100) % 256) : Int).toNat (((((Int.tdiv (bt x0 x10) 100) % 256) + 1) % 256) : Int).toNat)) ++ ((⟨#[48, 49, 50, 51, 52, 53, 54, 55, 56, 57]⟩ : ByteArray).extract ((((Int.tdiv (bt x0 x10) 10) % 256) % 10) : Int).toNat (((((Int.tdiv (bt x0 x10) 10) % 256) % 10) + 1) : Int).toNat)).size + ((⟨#[48, 49, 50, 51, 52, 53, 54, 55, 56, 57]⟩ : ByteArray).extract ((Int.tmod (bt x0 x10) 10) : Int).toNat ((((Int.tmod (bt x0 x10) 10) + 1) % 256) : Int).toNat).size ≤ 9223372036854775807 then (nameplatelaw01_LabelUnlike.l0 k x0 x1 x5 x7 ((((x9 ++ (⟨#[92]⟩ : ByteArray)) ++ ((⟨#[48, 49, 50, 51, 52, 53, 54, 55, 56, 57]⟩ : ByteArray).extract (((Int.tdiv (bt x0 x10) 100) % 256) : Int).toNat (((((Int.tdiv (bt x0 x10) 100) % 256) + 1) % 256) : Int).toNat)) ++ ((⟨#[48, 49, 50, 51, 52, 53, 54, 55, 56, 57]⟩ : ByteArray).extract ((((Int.tdiv (bt x0 x10) 10) % 256) % 10) : Int).toNat (((((Int.tdiv (bt x0 x10) 10) % 256) % 10) + 1) : Int).toNat)) ++ ((⟨#[48, 49, 50, 51, 52, 53, 54, 55, 56, 57]⟩ : ByteArray).extract ((Int.tmod (bt x0 x10) 10) : Int).toNat ((((Int.tmod (bt x0 x10) 10) + 1) % 256) : Int).toNat)) (wrap64 (x10 + 1))) else (none)) else (none)) else (none)) else (none)) else (none)) else (none)) else (none)) else (none)) else (none)) else (none)) else (none)) else (none)) else (none)) else (none)) else ((label_Read.f k x9 0).bind fun bt156 => (if ((x5.toList == x7.toList) == (x0.toList == x1.toList)) = true then (if bt156.2.2 = 0 then (if bt156.1.toList = x0.toList then (some (bt156.2.1 == (x9.size : Int))) else (some false)) else (some false)) else (some false)))
end
def nameplatelaw01_LabelUnlike.f (k : Nat) (a0 : ByteArray) (a1 : ByteArray) : Option (Bool) := (nameplatelaw01_lives.f k).bind fun t151 => (if t151 = true then ((label_Text.f k a0).bind fun bt152 => ((label_Text.f k a1).bind fun bt154 => (if bt152.2 = 0 then (nameplatelaw01_LabelUnlike.j0 k a0 a1 bt152.1 bt154.1 (bt154.2 != 0)) else (nameplatelaw01_LabelUnlike.j0 k a0 a1 bt152.1 bt154.1 true)))) else (some false))
theorem nameplatelaw01_LabelUnlike.mono_l : ∀ k, (∀ y0 y1 y2 y3 y4, LeO (nameplatelaw01_LabelUnlike.j0 k y0 y1 y2 y3 y4) (nameplatelaw01_LabelUnlike.j0 (k + 1) y0 y1 y2 y3 y4)) ∧ (∀ y0 y1 y2 y3 y4 y5, LeO (nameplatelaw01_LabelUnlike.l0 k y0 y1 y2 y3 y4 y5) (nameplatelaw01_LabelUnlike.l0 (k + 1) y0 y1 y2 y3 y4 y5))
  | 0 => ⟨fun _ _ _ _ _ r h => by simp [nameplatelaw01_LabelUnlike.j0] at h, fun _ _ _ _ _ _ r h => by simp [nameplatelaw01_LabelUnlike.l0] at h⟩
  | k + 1 => by
    obtain ⟨ih0, ih1⟩ := nameplatelaw01_LabelUnlike.mono_l k
    refine ⟨?_, ?_⟩
    · intro y0 y1 y2 y3 y4
      unfold nameplatelaw01_LabelUnlike.j0
      repeat' first
      | (with_reducible exact ih0 _ _ _ _ _)
      | (with_reducible exact ih1 _ _ _ _ _ _)
      | (with_reducible exact label_Read.mono _ _ _)
      | (with_reducible exact label_Text.mono _ _)
      | (with_reducible exact nameplatelaw01_lives.mono _)
      | (with_reducible exact LeO.refl _)
      | (with_reducible exact LeO.none _)
      | (with_reducible refine LeO.ite ?_ ?_)
      | (with_reducible refine LeO.bind ?_ (fun _ => ?_))
      | exact ih0 _ _ _ _ _
      | exact ih1 _ _ _ _ _ _
      | exact label_Read.mono _ _ _
      | exact label_Text.mono _ _
      | exact nameplatelaw01_lives.mono _
      | exact LeO.none _
      | refine LeO.ite ?_ ?_
      | refine LeO.bind ?_ (fun _ => ?_)
    · intro y0 y1 y2 y3 y4 y5
      unfold nameplatelaw01_LabelUnlike.l0
      repeat' first
      | (with_reducible exact ih0 _ _ _ _ _)
      | (with_reducible exact ih1 _ _ _ _ _ _)
      | (with_reducible exact label_Read.mono _ _ _)
      | (with_reducible exact label_Text.mono _ _)
      | (with_reducible exact nameplatelaw01_lives.mono _)
      | (with_reducible exact LeO.refl _)
      | (with_reducible exact LeO.none _)
      | (with_reducible refine LeO.ite ?_ ?_)
      | (with_reducible refine LeO.bind ?_ (fun _ => ?_))
      | exact ih0 _ _ _ _ _
      | exact ih1 _ _ _ _ _ _
      | exact label_Read.mono _ _ _
      | exact label_Text.mono _ _
      | exact nameplatelaw01_lives.mono _
      | exact LeO.none _
      | refine LeO.ite ?_ ?_
      | refine LeO.bind ?_ (fun _ => ?_)
theorem nameplatelaw01_LabelUnlike.mono : ∀ a0 a1 k, LeO (nameplatelaw01_LabelUnlike.f k a0 a1) (nameplatelaw01_LabelUnlike.f (k + 1) a0 a1) := by
  intro a0 a1 k
  obtain ⟨ih0, ih1⟩ := nameplatelaw01_LabelUnlike.mono_l k
  unfold nameplatelaw01_LabelUnlike.f
  repeat' first
      | (with_reducible exact ih0 _ _ _ _ _)
      | (with_reducible exact ih1 _ _ _ _ _ _)
      | (with_reducible exact label_Read.mono _ _ _)
      | (with_reducible exact label_Text.mono _ _)
      | (with_reducible exact nameplatelaw01_lives.mono _)
      | (with_reducible exact LeO.refl _)
      | (with_reducible exact LeO.none _)
      | (with_reducible refine LeO.ite ?_ ?_)
      | (with_reducible refine LeO.bind ?_ (fun _ => ?_))
      | exact ih0 _ _ _ _ _
      | exact ih1 _ _ _ _ _ _
      | exact label_Read.mono _ _ _
      | exact label_Text.mono _ _
      | exact nameplatelaw01_lives.mono _
      | exact LeO.none _
      | refine LeO.ite ?_ ?_
      | refine LeO.bind ?_ (fun _ => ?_)
set_option maxHeartbeats 8000000 in
set_option maxRecDepth 100000 in
theorem nameplatelaw01_LabelUnlike.calls (k : Nat) (a0 : ByteArray) (a1 : ByteArray) (r : Bool) (w : World) (hr_ : Aside0 (r = true)) (h : nameplatelaw01_LabelUnlike.f k a0 a1 = some r) :
    Calls Try.prog 4 #[.string a0, .string a1] w fun e w' => e = .returned (.bool r) ∧ Below w.heap.size w w' := by
  have HB := Aside0.mk (Below.refl w.heap.size w)
  have H : ((nameplatelaw01_lives.f k).bind fun t151 => (if t151 = true then ((label_Text.f k a0).bind fun bt152 => ((label_Text.f k a1).bind fun bt154 => (if bt152.2 = 0 then (nameplatelaw01_LabelUnlike.j0 k a0 a1 bt152.1 bt154.1 (bt154.2 != 0)) else (nameplatelaw01_LabelUnlike.j0 k a0 a1 bt152.1 bt154.1 true)))) else (some false))) = some r := h
  clear h
  replace H := Option.bind_eq_some_iff.mp H
  obtain ⟨t151, A30, H⟩ := H
  replace H : (if t151 = true then ((label_Text.f k a0).bind fun bt152 => ((label_Text.f k a1).bind fun bt154 => (if bt152.2 = 0 then (nameplatelaw01_LabelUnlike.j0 k a0 a1 bt152.1 bt154.1 (bt154.2 != 0)) else (nameplatelaw01_LabelUnlike.j0 k a0 a1 bt152.1 bt154.1 true)))) else (some false)) = some r := H
  have A3 := Aside0.mk A30
  clear A30
  by_cases c4 : t151 = true
  · subst c4
    have H1 : ((label_Text.f k a0).bind fun bt152 => ((label_Text.f k a1).bind fun bt154 => (if bt152.2 = 0 then (nameplatelaw01_LabelUnlike.j0 k a0 a1 bt152.1 bt154.1 (bt154.2 != 0)) else (nameplatelaw01_LabelUnlike.j0 k a0 a1 bt152.1 bt154.1 true)))) = some r := by rw [if_pos rfl] at H; exact H
    clear H
    have H := H1
    clear H1
    replace H := Option.bind_eq_some_iff.mp H
    obtain ⟨⟨t152, t153⟩, A50, H⟩ := H
    replace H : ((label_Text.f k a1).bind fun bt154 => (if t153 = 0 then (nameplatelaw01_LabelUnlike.j0 k a0 a1 t152 bt154.1 (bt154.2 != 0)) else (nameplatelaw01_LabelUnlike.j0 k a0 a1 t152 bt154.1 true))) = some r := H
    have A5 := Aside0.mk A50
    clear A50
    replace H := Option.bind_eq_some_iff.mp H
    obtain ⟨⟨t154, t155⟩, A60, H⟩ := H
    replace H : (if t153 = 0 then (nameplatelaw01_LabelUnlike.j0 k a0 a1 t152 t154 (t155 != 0)) else (nameplatelaw01_LabelUnlike.j0 k a0 a1 t152 t154 true)) = some r := H
    have A6 := Aside0.mk A60
    clear A60
    have HC7 := Aside0.mk H
    clear H
    go_enter Try.func4, Try.ntmps4
    go_upto_region 5 with (first | (go_at_call 9; (with_reducible refine (nameplatelaw01_lives.calls k  true _ A3.out).mono ?_); rintro e w8 ⟨rfl, hb⟩; have n0_ := Aside0.mk (below_step (by repeat (first | (with_reducible first | exact HB.out | apply below_alloc | apply pw_below_drewN | apply below_drew1) | exact HB.out)) hb); clear HB; have HB := n0_; clear n0_; (try clear hb); (try clear hb2); (try clear hk); (try clear hi)) | (go_at_call 10; (with_reducible refine (label_Text.calls k a0 t152 t153 _ A5.out).mono ?_); rintro e w9 ⟨rfl, hb⟩; have n0_ := Aside0.mk (below_step (by repeat (first | (with_reducible first | exact HB.out | apply below_alloc | apply pw_below_drewN | apply below_drew1) | exact HB.out)) hb); clear HB; have HB := n0_; clear n0_; (try clear hb); (try clear hb2); (try clear hk); (try clear hi)) | (go_at_call 10; (with_reducible refine (label_Text.calls k a1 t154 t155 _ A6.out).mono ?_); rintro e w10 ⟨rfl, hb⟩; have n0_ := Aside0.mk (below_step (by repeat (first | (with_reducible first | exact HB.out | apply below_alloc | apply pw_below_drewN | apply below_drew1) | exact HB.out)) hb); clear HB; have HB := n0_; clear n0_; (try clear hb); (try clear hb2); (try clear hk); (try clear hi)))
    repeat (go_quiet (first | (go_at_call 9; (with_reducible refine (nameplatelaw01_lives.calls k  true _ A3.out).mono ?_); rintro e w8 ⟨rfl, hb⟩; have n0_ := Aside0.mk (below_step (by repeat (first | (with_reducible first | exact HB.out | apply below_alloc | apply pw_below_drewN | apply below_drew1) | exact HB.out)) hb); clear HB; have HB := n0_; clear n0_; (try clear hb); (try clear hb2); (try clear hk); (try clear hi)) | (go_at_call 10; (with_reducible refine (label_Text.calls k a0 t152 t153 _ A5.out).mono ?_); rintro e w9 ⟨rfl, hb⟩; have n0_ := Aside0.mk (below_step (by repeat (first | (with_reducible first | exact HB.out | apply below_alloc | apply pw_below_drewN | apply below_drew1) | exact HB.out)) hb); clear HB; have HB := n0_; clear n0_; (try clear hb); (try clear hb2); (try clear hk); (try clear hi)) | (go_at_call 10; (with_reducible refine (label_Text.calls k a1 t154 t155 _ A6.out).mono ?_); rintro e w10 ⟨rfl, hb⟩; have n0_ := Aside0.mk (below_step (by repeat (first | (with_reducible first | exact HB.out | apply below_alloc | apply pw_below_drewN | apply below_drew1) | exact HB.out)) hb); clear HB; have HB := n0_; clear n0_; (try clear hb); (try clear hb2); (try clear hk); (try clear hi))); go_upto_region 5 with (first | (go_at_call 9; (with_reducible refine (nameplatelaw01_lives.calls k  true _ A3.out).mono ?_); rintro e w8 ⟨rfl, hb⟩; have n0_ := Aside0.mk (below_step (by repeat (first | (with_reducible first | exact HB.out | apply below_alloc | apply pw_below_drewN | apply below_drew1) | exact HB.out)) hb); clear HB; have HB := n0_; clear n0_; (try clear hb); (try clear hb2); (try clear hk); (try clear hi)) | (go_at_call 10; (with_reducible refine (label_Text.calls k a0 t152 t153 _ A5.out).mono ?_); rintro e w9 ⟨rfl, hb⟩; have n0_ := Aside0.mk (below_step (by repeat (first | (with_reducible first | exact HB.out | apply below_alloc | apply pw_below_drewN | apply below_drew1) | exact HB.out)) hb); clear HB; have HB := n0_; clear n0_; (try clear hb); (try clear hb2); (try clear hk); (try clear hi)) | (go_at_call 10; (with_reducible refine (label_Text.calls k a1 t154 t155 _ A6.out).mono ?_); rintro e w10 ⟨rfl, hb⟩; have n0_ := Aside0.mk (below_step (by repeat (first | (with_reducible first | exact HB.out | apply below_alloc | apply pw_below_drewN | apply below_drew1) | exact HB.out)) hb); clear HB; have HB := n0_; clear n0_; (try clear hb); (try clear hb2); (try clear hk); (try clear hi))))
    (try simp only [Act.put, List.setIfInBounds_toArray, List.set_cons_zero, List.set_cons_succ])
    go_cut [32] (fun v32 wc => ∃ (kq : Nat) (x32_6 : Bool), v32 = .bool x32_6 ∧ Aside0 (nameplatelaw01_LabelUnlike.j0 kq a0 a1 t152 t154 x32_6 = some r) ∧ Aside0 (kq ≤ k) ∧ Aside0 (Below w.heap.size w wc))
    case first =>
      have H := HC7.out
      clear HC7
      by_cases c11 : t153 = 0
      · rw [if_pos c11] at H
        have c11b0 : (t153 == 0) = true := beq_iff_eq.mpr c11
        have c11b1 : (t153 != 0) = false := bne_eq_false_iff_eq.mpr c11
        clear c11
        (first | rw [c11b0] | (simp only [i64_w, i32_w]; rw [c11b0]) | skip)
        have H' := Aside0.mk H
        clear H
        go_wp2
        repeat (go_quiet (fail); try go_wp2)
        go_meet
        case rel => exact ⟨_, ((t155 != 0)), (by first | rfl | (simp; done) | (simp [*]; done)), H', ⟨by first | omega | exact Nat.le_refl _⟩, ⟨by repeat (first | (with_reducible first | exact HB.out | apply below_alloc | apply pw_below_drewN | apply below_drew1) | exact HB.out)⟩⟩
      · rw [if_neg c11] at H
        have c11b0 : (t153 == 0) = false := beq_eq_false_iff_ne.mpr c11
        have c11b1 : (t153 != 0) = true := bne_iff_ne.mpr c11
        (first | rw [c11b0] | (simp only [i64_w, i32_w]; rw [c11b0]) | skip)
        have H' := Aside0.mk H
        clear H
        go_wp2
        repeat (go_quiet (fail); try go_wp2)
        go_meet
        case rel => exact ⟨_, (true), (by first | rfl | (simp; done) | (simp [*]; done)), H', ⟨by first | omega | exact Nat.le_refl _⟩, ⟨by repeat (first | (with_reducible first | exact HB.out | apply below_alloc | apply pw_below_drewN | apply below_drew1) | exact HB.out)⟩⟩
    case rest =>
      clear HC7
      try clear c1
      try clear p2
      try clear c4
      try clear c11
      try clear c11b0
      try clear c11b1
      obtain ⟨kq, x32_6, rfl, HA, HJ6, HB⟩ := hcut
      cases kq with
      | zero => exact absurd HA.out (by simp [nameplatelaw01_LabelUnlike.j0])
      | succ kj6 =>
        have H := HA.out
        clear HA
        simp only [nameplatelaw01_LabelUnlike.j0] at H
        by_cases c12 : x32_6 = true
        · subst c12
          have H1 : (some true) = some r := by rw [if_pos rfl] at H; exact H
          clear H
          have H := H1
          clear H1
          obtain rfl := Option.some.inj H
          go_wp2
          repeat (go_quiet (fail); try go_wp2)
          go_ret
          exact ⟨by first | rfl | (simp [errW_none, errW_some] <;> rfl) | (simp [*, errW_none, errW_some] <;> rfl), by repeat (first | (with_reducible first | exact HB.out | apply below_alloc | apply pw_below_drewN | apply below_drew1) | exact HB.out)⟩
        · replace c12 := Bool.eq_false_iff.mpr c12
          subst c12
          have H1 : (nameplatelaw01_LabelUnlike.l0 kj6 a0 a1 t152 t154 (⟨#[]⟩ : ByteArray) 0) = some r := by rw [if_neg (show ¬ (false = true) by decide)] at H; exact H
          clear H
          have H := H1
          clear H1
          have H' := Aside0.mk H
          clear H
          go_wp2
          repeat (go_quiet (fail); try go_wp2)
          go_loopg [9, 10] kj6 (fun kq v9 v10 w' => ∃ (x9_2 : ByteArray) (x10_2 : Int), v9 = .string x9_2 ∧ v10 = .int .i64 x10_2 ∧ Aside0 (nameplatelaw01_LabelUnlike.l0 kq a0 a1 t152 t154 x9_2 x10_2 = some r) ∧ Aside0 (kq ≤ kj6) ∧ Aside0 (Below w.heap.size w w'))
          case atStart => exact ⟨((⟨#[]⟩ : ByteArray)), (0), (by first | rfl | (simp; done) | (simp [*]; done)), (by first | rfl | (simp; done) | (simp [*]; done)), H', ⟨Nat.le_refl _⟩, ⟨by repeat (first | (with_reducible first | exact HB.out | apply below_alloc | apply pw_below_drewN | apply below_drew1) | exact HB.out)⟩⟩
          case round =>
            clear H'
            try clear c1
            try clear p2
            try clear c4
            try clear c11
            try clear c11b0
            try clear c11b1
            try clear c12
            try clear p2
            obtain ⟨x9_2, x10_2, rfl, rfl, HA, HK2, HB⟩ := hrel
            cases gk with
            | zero => exact absurd HA.out (by simp [nameplatelaw01_LabelUnlike.l0])
            | succ k2 =>
              have H := HA.out
              clear HA
              simp only [nameplatelaw01_LabelUnlike.l0] at H
              by_cases c13 : x10_2 < (a0.size : Int)
              · rw [if_pos c13] at H
                have c13b0 : decide (x10_2 < (a0.size : Int)) = true := decide_eq_true c13
                clear c13
                by_cases c14 : x9_2.size + 1 ≤ 9223372036854775807
                · rw [if_pos c14] at H
                  have c14b0 := eq_true c14
                  have c14b1 : decide (x9_2.size + 1 ≤ 9223372036854775807) = true := decide_eq_true c14
                  try have c14b2 : (9223372036854775807 < x9_2.size + 1) = False := eq_false (Nat.not_lt.2 c14)
                  by_cases c15 : 0 ≤ x10_2
                  · rw [if_pos c15] at H
                    have c15b0 : decide (0 ≤ x10_2) = true := decide_eq_true c15
                    clear c15
                    obtain ⟨ji18, hji18⟩ : ∃ j_ : Int, ((Int.tdiv (bt a0 x10_2) 100) % 256) = j_ := ⟨_, rfl⟩
                    replace H : (if 0 ≤ (ji18) then (if (ji18) ≤ (((ji18) + 1) % 256) then (if (((ji18) + 1) % 256) ≤ 10 then (if (x9_2 ++ (⟨#[92]⟩ : ByteArray)).size + ((⟨#[48, 49, 50, 51, 52, 53, 54, 55, 56, 57]⟩ : ByteArray).extract ((ji18) : Int).toNat ((((ji18) + 1) % 256) : Int).toNat).size ≤ 9223372036854775807 then (if 0 ≤ (((Int.tdiv (bt a0 x10_2) 10) % 256) % 10) then (if (((Int.tdiv (bt a0 x10_2) 10) % 256) % 10) ≤ ((((Int.tdiv (bt a0 x10_2) 10) % 256) % 10) + 1) then (if ((((Int.tdiv (bt a0 x10_2) 10) % 256) % 10) + 1) ≤ 10 then (if ((x9_2 ++ (⟨#[92]⟩ : ByteArray)) ++ ((⟨#[48, 49, 50, 51, 52, 53, 54, 55, 56, 57]⟩ : ByteArray).extract ((ji18) : Int).toNat ((((ji18) + 1) % 256) : Int).toNat)).size + ((⟨#[48, 49, 50, 51, 52, 53, 54, 55, 56, 57]⟩ : ByteArray).extract ((((Int.tdiv (bt a0 x10_2) 10) % 256) % 10) : Int).toNat (((((Int.tdiv (bt a0 x10_2) 10) % 256) % 10) + 1) : Int).toNat).size ≤ 9223372036854775807 then (if 0 ≤ (Int.tmod (bt a0 x10_2) 10) then (if (Int.tmod (bt a0 x10_2) 10) ≤ (((Int.tmod (bt a0 x10_2) 10) + 1) % 256) then (if (((Int.tmod (bt a0 x10_2) 10) + 1) % 256) ≤ 10 then (if (((x9_2 ++ (⟨#[92]⟩ : ByteArray)) ++ ((⟨#[48, 49, 50, 51, 52, 53, 54, 55, 56, 57]⟩ : ByteArray).extract ((ji18) : Int).toNat ((((ji18) + 1) % 256) : Int).toNat)) ++ ((⟨#[48, 49, 50, 51, 52, 53, 54, 55, 56, 57]⟩ : ByteArray).extract ((((Int.tdiv (bt a0 x10_2) 10) % 256) % 10) : Int).toNat (((((Int.tdiv (bt a0 x10_2) 10) % 256) % 10) + 1) : Int).toNat)).size + ((⟨#[48, 49, 50, 51, 52, 53, 54, 55, 56, 57]⟩ : ByteArray).extract ((Int.tmod (bt a0 x10_2) 10) : Int).toNat ((((Int.tmod (bt a0 x10_2) 10) + 1) % 256) : Int).toNat).size ≤ 9223372036854775807 then (nameplatelaw01_LabelUnlike.l0 k2 a0 a1 t152 t154 ((((x9_2 ++ (⟨#[92]⟩ : ByteArray)) ++ ((⟨#[48, 49, 50, 51, 52, 53, 54, 55, 56, 57]⟩ : ByteArray).extract ((ji18) : Int).toNat ((((ji18) + 1) % 256) : Int).toNat)) ++ ((⟨#[48, 49, 50, 51, 52, 53, 54, 55, 56, 57]⟩ : ByteArray).extract ((((Int.tdiv (bt a0 x10_2) 10) % 256) % 10) : Int).toNat (((((Int.tdiv (bt a0 x10_2) 10) % 256) % 10) + 1) : Int).toNat)) ++ ((⟨#[48, 49, 50, 51, 52, 53, 54, 55, 56, 57]⟩ : ByteArray).extract ((Int.tmod (bt a0 x10_2) 10) : Int).toNat ((((Int.tmod (bt a0 x10_2) 10) + 1) % 256) : Int).toNat)) (wrap64 (x10_2 + 1))) else (none)) else (none)) else (none)) else (none)) else (none)) else (none)) else (none)) else (none)) else (none)) else (none)) else (none)) else (none)) = some r := by first | (rw [hji18] at H; exact H) | (simp only [hji18] at H ⊢; exact H)
                    by_cases c19 : 0 ≤ (ji18)
                    · rw [if_pos c19] at H
                      have c19b0 := eq_true c19
                      have c19b1 : decide (0 ≤ (ji18)) = true := decide_eq_true c19
                      clear c19
                      by_cases c20 : (ji18) ≤ (((ji18) + 1) % 256)
                      · rw [if_pos c20] at H
                        have c20b0 := eq_true c20
                        have c20b1 : decide ((ji18) ≤ (((ji18) + 1) % 256)) = true := decide_eq_true c20
                        by_cases c21 : (((ji18) + 1) % 256) ≤ 10
                        · rw [if_pos c21] at H
                          have c21b0 := eq_true c21
                          have c21b1 : decide ((((ji18) + 1) % 256) ≤ 10) = true := decide_eq_true c21
                          by_cases c22 : (x9_2 ++ (⟨#[92]⟩ : ByteArray)).size + ((⟨#[48, 49, 50, 51, 52, 53, 54, 55, 56, 57]⟩ : ByteArray).extract ((ji18) : Int).toNat ((((ji18) + 1) % 256) : Int).toNat).size ≤ 9223372036854775807
                          · rw [if_pos c22] at H
                            have c22b0 := eq_true c22
                            have c22b1 : decide ((x9_2 ++ (⟨#[92]⟩ : ByteArray)).size + ((⟨#[48, 49, 50, 51, 52, 53, 54, 55, 56, 57]⟩ : ByteArray).extract ((ji18) : Int).toNat ((((ji18) + 1) % 256) : Int).toNat).size ≤ 9223372036854775807) = true := decide_eq_true c22
                            try have c22b2 : (9223372036854775807 < (x9_2 ++ (⟨#[92]⟩ : ByteArray)).size + ((⟨#[48, 49, 50, 51, 52, 53, 54, 55, 56, 57]⟩ : ByteArray).extract ((ji18) : Int).toNat ((((ji18) + 1) % 256) : Int).toNat).size) = False := eq_false (Nat.not_lt.2 c22)
                            obtain ⟨ji25, hji25⟩ : ∃ j_ : Int, (((Int.tdiv (bt a0 x10_2) 10) % 256) % 10) = j_ := ⟨_, rfl⟩
                            replace H : (if 0 ≤ (ji25) then (if (ji25) ≤ ((ji25) + 1) then (if ((ji25) + 1) ≤ 10 then (if ((x9_2 ++ (⟨#[92]⟩ : ByteArray)) ++ ((⟨#[48, 49, 50, 51, 52, 53, 54, 55, 56, 57]⟩ : ByteArray).extract ((ji18) : Int).toNat ((((ji18) + 1) % 256) : Int).toNat)).size + ((⟨#[48, 49, 50, 51, 52, 53, 54, 55, 56, 57]⟩ : ByteArray).extract ((ji25) : Int).toNat (((ji25) + 1) : Int).toNat).size ≤ 9223372036854775807 then (if 0 ≤ (Int.tmod (bt a0 x10_2) 10) then (if (Int.tmod (bt a0 x10_2) 10) ≤ (((Int.tmod (bt a0 x10_2) 10) + 1) % 256) then (if (((Int.tmod (bt a0 x10_2) 10) + 1) % 256) ≤ 10 then (if (((x9_2 ++ (⟨#[92]⟩ : ByteArray)) ++ ((⟨#[48, 49, 50, 51, 52, 53, 54, 55, 56, 57]⟩ : ByteArray).extract ((ji18) : Int).toNat ((((ji18) + 1) % 256) : Int).toNat)) ++ ((⟨#[48, 49, 50, 51, 52, 53, 54, 55, 56, 57]⟩ : ByteArray).extract ((ji25) : Int).toNat (((ji25) + 1) : Int).toNat)).size + ((⟨#[48, 49, 50, 51, 52, 53, 54, 55, 56, 57]⟩ : ByteArray).extract ((Int.tmod (bt a0 x10_2) 10) : Int).toNat ((((Int.tmod (bt a0 x10_2) 10) + 1) % 256) : Int).toNat).size ≤ 9223372036854775807 then (nameplatelaw01_LabelUnlike.l0 k2 a0 a1 t152 t154 ((((x9_2 ++ (⟨#[92]⟩ : ByteArray)) ++ ((⟨#[48, 49, 50, 51, 52, 53, 54, 55, 56, 57]⟩ : ByteArray).extract ((ji18) : Int).toNat ((((ji18) + 1) % 256) : Int).toNat)) ++ ((⟨#[48, 49, 50, 51, 52, 53, 54, 55, 56, 57]⟩ : ByteArray).extract ((ji25) : Int).toNat (((ji25) + 1) : Int).toNat)) ++ ((⟨#[48, 49, 50, 51, 52, 53, 54, 55, 56, 57]⟩ : ByteArray).extract ((Int.tmod (bt a0 x10_2) 10) : Int).toNat ((((Int.tmod (bt a0 x10_2) 10) + 1) % 256) : Int).toNat)) (wrap64 (x10_2 + 1))) else (none)) else (none)) else (none)) else (none)) else (none)) else (none)) else (none)) else (none)) = some r := by first | (rw [hji25] at H; exact H) | (simp only [hji25] at H ⊢; exact H)
                            by_cases c26 : 0 ≤ (ji25)
                            · rw [if_pos c26] at H
                              have c26b0 := eq_true c26
                              have c26b1 : decide (0 ≤ (ji25)) = true := decide_eq_true c26
                              clear c26
                              by_cases c27 : (ji25) ≤ ((ji25) + 1)
                              · rw [if_pos c27] at H
                                have c27b0 := eq_true c27
                                have c27b1 : decide ((ji25) ≤ ((ji25) + 1)) = true := decide_eq_true c27
                                by_cases c28 : ((ji25) + 1) ≤ 10
                                · rw [if_pos c28] at H
                                  have c28b0 := eq_true c28
                                  have c28b1 : decide (((ji25) + 1) ≤ 10) = true := decide_eq_true c28
                                  by_cases c29 : ((x9_2 ++ (⟨#[92]⟩ : ByteArray)) ++ ((⟨#[48, 49, 50, 51, 52, 53, 54, 55, 56, 57]⟩ : ByteArray).extract ((ji18) : Int).toNat ((((ji18) + 1) % 256) : Int).toNat)).size + ((⟨#[48, 49, 50, 51, 52, 53, 54, 55, 56, 57]⟩ : ByteArray).extract ((ji25) : Int).toNat (((ji25) + 1) : Int).toNat).size ≤ 9223372036854775807
                                  · rw [if_pos c29] at H
                                    have c29b0 := eq_true c29
                                    have c29b1 : decide (((x9_2 ++ (⟨#[92]⟩ : ByteArray)) ++ ((⟨#[48, 49, 50, 51, 52, 53, 54, 55, 56, 57]⟩ : ByteArray).extract ((ji18) : Int).toNat ((((ji18) + 1) % 256) : Int).toNat)).size + ((⟨#[48, 49, 50, 51, 52, 53, 54, 55, 56, 57]⟩ : ByteArray).extract ((ji25) : Int).toNat (((ji25) + 1) : Int).toNat).size ≤ 9223372036854775807) = true := decide_eq_true c29
                                    try have c29b2 : (9223372036854775807 < ((x9_2 ++ (⟨#[92]⟩ : ByteArray)) ++ ((⟨#[48, 49, 50, 51, 52, 53, 54, 55, 56, 57]⟩ : ByteArray).extract ((ji18) : Int).toNat ((((ji18) + 1) % 256) : Int).toNat)).size + ((⟨#[48, 49, 50, 51, 52, 53, 54, 55, 56, 57]⟩ : ByteArray).extract ((ji25) : Int).toNat (((ji25) + 1) : Int).toNat).size) = False := eq_false (Nat.not_lt.2 c29)
                                    obtain ⟨ji32, hji32⟩ : ∃ j_ : Int, (Int.tmod (bt a0 x10_2) 10) = j_ := ⟨_, rfl⟩
                                    replace H : (if 0 ≤ (ji32) then (if (ji32) ≤ (((ji32) + 1) % 256) then (if (((ji32) + 1) % 256) ≤ 10 then (if (((x9_2 ++ (⟨#[92]⟩ : ByteArray)) ++ ((⟨#[48, 49, 50, 51, 52, 53, 54, 55, 56, 57]⟩ : ByteArray).extract ((ji18) : Int).toNat ((((ji18) + 1) % 256) : Int).toNat)) ++ ((⟨#[48, 49, 50, 51, 52, 53, 54, 55, 56, 57]⟩ : ByteArray).extract ((ji25) : Int).toNat (((ji25) + 1) : Int).toNat)).size + ((⟨#[48, 49, 50, 51, 52, 53, 54, 55, 56, 57]⟩ : ByteArray).extract ((ji32) : Int).toNat ((((ji32) + 1) % 256) : Int).toNat).size ≤ 9223372036854775807 then (nameplatelaw01_LabelUnlike.l0 k2 a0 a1 t152 t154 ((((x9_2 ++ (⟨#[92]⟩ : ByteArray)) ++ ((⟨#[48, 49, 50, 51, 52, 53, 54, 55, 56, 57]⟩ : ByteArray).extract ((ji18) : Int).toNat ((((ji18) + 1) % 256) : Int).toNat)) ++ ((⟨#[48, 49, 50, 51, 52, 53, 54, 55, 56, 57]⟩ : ByteArray).extract ((ji25) : Int).toNat (((ji25) + 1) : Int).toNat)) ++ ((⟨#[48, 49, 50, 51, 52, 53, 54, 55, 56, 57]⟩ : ByteArray).extract ((ji32) : Int).toNat ((((ji32) + 1) % 256) : Int).toNat)) (wrap64 (x10_2 + 1))) else (none)) else (none)) else (none)) else (none)) = some r := by first | (rw [hji32] at H; exact H) | (simp only [hji32] at H ⊢; exact H)
                                    by_cases c33 : 0 ≤ (ji32)
                                    · rw [if_pos c33] at H
                                      have c33b0 := eq_true c33
                                      have c33b1 : decide (0 ≤ (ji32)) = true := decide_eq_true c33
                                      clear c33
                                      by_cases c34 : (ji32) ≤ (((ji32) + 1) % 256)
                                      · rw [if_pos c34] at H
                                        have c34b0 := eq_true c34
                                        have c34b1 : decide ((ji32) ≤ (((ji32) + 1) % 256)) = true := decide_eq_true c34
                                        by_cases c35 : (((ji32) + 1) % 256) ≤ 10
                                        · rw [if_pos c35] at H
                                          have c35b0 := eq_true c35
                                          have c35b1 : decide ((((ji32) + 1) % 256) ≤ 10) = true := decide_eq_true c35
                                          by_cases c36 : (((x9_2 ++ (⟨#[92]⟩ : ByteArray)) ++ ((⟨#[48, 49, 50, 51, 52, 53, 54, 55, 56, 57]⟩ : ByteArray).extract ((ji18) : Int).toNat ((((ji18) + 1) % 256) : Int).toNat)) ++ ((⟨#[48, 49, 50, 51, 52, 53, 54, 55, 56, 57]⟩ : ByteArray).extract ((ji25) : Int).toNat (((ji25) + 1) : Int).toNat)).size + ((⟨#[48, 49, 50, 51, 52, 53, 54, 55, 56, 57]⟩ : ByteArray).extract ((ji32) : Int).toNat ((((ji32) + 1) % 256) : Int).toNat).size ≤ 9223372036854775807
                                          · rw [if_pos c36] at H
                                            have c36b0 := eq_true c36
                                            have c36b1 : decide ((((x9_2 ++ (⟨#[92]⟩ : ByteArray)) ++ ((⟨#[48, 49, 50, 51, 52, 53, 54, 55, 56, 57]⟩ : ByteArray).extract ((ji18) : Int).toNat ((((ji18) + 1) % 256) : Int).toNat)) ++ ((⟨#[48, 49, 50, 51, 52, 53, 54, 55, 56, 57]⟩ : ByteArray).extract ((ji25) : Int).toNat (((ji25) + 1) : Int).toNat)).size + ((⟨#[48, 49, 50, 51, 52, 53, 54, 55, 56, 57]⟩ : ByteArray).extract ((ji32) : Int).toNat ((((ji32) + 1) % 256) : Int).toNat).size ≤ 9223372036854775807) = true := decide_eq_true c36
                                            try have c36b2 : (9223372036854775807 < (((x9_2 ++ (⟨#[92]⟩ : ByteArray)) ++ ((⟨#[48, 49, 50, 51, 52, 53, 54, 55, 56, 57]⟩ : ByteArray).extract ((ji18) : Int).toNat ((((ji18) + 1) % 256) : Int).toNat)) ++ ((⟨#[48, 49, 50, 51, 52, 53, 54, 55, 56, 57]⟩ : ByteArray).extract ((ji25) : Int).toNat (((ji25) + 1) : Int).toNat)).size + ((⟨#[48, 49, 50, 51, 52, 53, 54, 55, 56, 57]⟩ : ByteArray).extract ((ji32) : Int).toNat ((((ji32) + 1) % 256) : Int).toNat).size) = False := eq_false (Nat.not_lt.2 c36)
                                            have H' := Aside0.mk H
                                            clear H
                                            have hcb := bt_range a0 x10_2
                                            obtain ⟨hcb0, hcb1⟩ := hcb
                                            have hx16 := bt_at a0 x10_2
                                            have p16 : 0 ≤ (x10_2 : Int) := of_decide_eq_true (by first | (with_reducible assumption) | assumption)
                                            have q16 : x10_2 < (a0.size : Int) := of_decide_eq_true (by first | (with_reducible assumption) | assumption)
                                            replace p16 := eq_true p16
                                            replace q16 := eq_true q16
                                            generalize bt a0 x10_2 = c at *
                                            have e18 : ji18 = c / 100 := by rw [← hji18, Int.tdiv_eq_ediv_of_nonneg hcb0]; omega
                                            have e25 : ji25 = c / 10 % 10 := by rw [← hji25, Int.tdiv_eq_ediv_of_nonneg hcb0]; omega
                                            have e32 : ji32 = c % 10 := by rw [← hji32, Int.tmod_eq_emod_of_nonneg hcb0]
                                            obtain ⟨d, hd⟩ : ∃ d, d = c / 10 := ⟨_, rfl⟩
                                            have f1 : (ji18 + 1) % 256 = ji18 + 1 := by omega
                                            have f2 : (ji32 + 1) % 256 = ji32 + 1 := by omega
                                            simp only [f1] at c22b1 c29b1 c36b1 H'
                                            simp only [f2] at c36b1 H'
                                            clear f1 f2 hji18 hji25 hji32
                                            have w8 : ∀ x : Int, IntKind.u8.wrap x = x % 256 := fun _ => rfl
                                            have h1 : IntKind.u8.wrap (c.tdiv 100) = ji18 := by rw [w8, Int.tdiv_eq_ediv_of_nonneg hcb0]; omega
                                            have h2 : IntKind.u8.wrap (ji18 + 1) = ji18 + 1 := by rw [w8]; omega
                                            have h3 : IntKind.u8.wrap (c.tdiv 10) = d := by rw [w8, Int.tdiv_eq_ediv_of_nonneg hcb0]; omega
                                            have h4 : IntKind.u8.wrap (d.tmod 10) = ji25 := by rw [w8, Int.tmod_eq_emod_of_nonneg (by omega)]; omega
                                            have h4b : d.tmod 10 = ji25 := by rw [Int.tmod_eq_emod_of_nonneg (by omega)]; omega
                                            have h5 : IntKind.u8.wrap (ji25 + 1) = ji25 + 1 := by rw [w8]; omega
                                            have h6 : IntKind.u8.wrap (c.tmod 10) = ji32 := by rw [w8, Int.tmod_eq_emod_of_nonneg hcb0]; omega
                                            have h6b : c.tmod 10 = ji32 := by rw [Int.tmod_eq_emod_of_nonneg hcb0]; omega
                                            have h7 : IntKind.u8.wrap (ji32 + 1) = ji32 + 1 := by rw [w8]; omega
                                            have g1 : 0 ≤ ji18 := by omega
                                            have g2 : ji18 + 1 ≤ 10 := by omega
                                            have g3 : 0 ≤ ji25 := by omega
                                            have g4 : ji25 + 1 ≤ 10 := by omega
                                            have g5 : 0 ≤ ji32 := by omega
                                            have g6 : ji32 + 1 ≤ 10 := by omega
                                            have s1 : ∀ (W : World) (j : Int), 0 ≤ j → j + 1 ≤ 10 → (Instr.slice 9 (.string ⟨#[48, 49, 50, 51, 52, 53, 54, 55, 56, 57]⟩) (some (.int .u8 j)) (some (.int .u8 (j + 1))) none).run Try.prog W = .ok (.string ((⟨#[48, 49, 50, 51, 52, 53, 54, 55, 56, 57]⟩ : ByteArray).extract j.toNat (j + 1).toNat)) W := fun W j a b => run_slice_string W 9 _ .u8 .u8 j (j + 1) Try.underlying9 a (by omega) b
                                            have s2 := fun W => s1 W ji18 g1 g2
                                            have s3 := fun W => s1 W ji25 g3 g4
                                            have s4 := fun W => s1 W ji32 g5 g6
                                            generalize (⟨#[48, 49, 50, 51, 52, 53, 54, 55, 56, 57]⟩ : ByteArray).extract ji18.toNat (ji18 + 1).toNat = D1 at *
                                            generalize (⟨#[48, 49, 50, 51, 52, 53, 54, 55, 56, 57]⟩ : ByteArray).extract ji25.toNat (ji25 + 1).toNat = D2 at *
                                            generalize (⟨#[48, 49, 50, 51, 52, 53, 54, 55, 56, 57]⟩ : ByteArray).extract ji32.toNat (ji32 + 1).toNat = D3 at *
                                            have k1 := fun W => run_string_add_sum (P := Try.prog) W (x9_2 ++ (⟨#[92]⟩ : ByteArray)) D1 (of_decide_eq_true c22b1)
                                            have k2' := fun W => run_string_add_sum (P := Try.prog) W ((x9_2 ++ (⟨#[92]⟩ : ByteArray)) ++ D1) D2 (of_decide_eq_true c29b1)
                                            have k3 := fun W => run_string_add_sum (P := Try.prog) W (((x9_2 ++ (⟨#[92]⟩ : ByteArray)) ++ D1) ++ D2) D3 (of_decide_eq_true c36b1)
                                            clear c22b0 c22b1 c22b2 c29b0 c29b1 c29b2 c36b0 c36b1 c36b2 w8 e18 e25 e32 hd s1
                                            clear c19b0 c19b1 c20b0 c20b1 c21b0 c21b1 c26b0 c26b1 c27b0 c27b1 c28b0 c28b1 c33b0 c33b1 c34b0 c34b1 c35b0 c35b1
                                            go_wp2
                                            go_quiet (fail)
                                            go_wp2
                                            go_roundg k2
                                            case measure => have := HJ6.out; have := HK2.out; omega
                                            case rel => exact ⟨_, _, rfl, rfl, H', ⟨by have := HJ6.out; have := HK2.out; omega⟩, ⟨by repeat (first | (with_reducible first | exact HB.out | apply below_alloc | apply pw_below_drewN | apply below_drew1) | exact HB.out)⟩⟩
                                          · rw [if_neg c36] at H
                                            exact absurd H (by simp)
                                        · rw [if_neg c35] at H
                                          exact absurd H (by simp)
                                      · rw [if_neg c34] at H
                                        exact absurd H (by simp)
                                    · rw [if_neg c33] at H
                                      exact absurd H (by simp)
                                  · rw [if_neg c29] at H
                                    exact absurd H (by simp)
                                · rw [if_neg c28] at H
                                  exact absurd H (by simp)
                              · rw [if_neg c27] at H
                                exact absurd H (by simp)
                            · rw [if_neg c26] at H
                              exact absurd H (by simp)
                          · rw [if_neg c22] at H
                            exact absurd H (by simp)
                        · rw [if_neg c21] at H
                          exact absurd H (by simp)
                      · rw [if_neg c20] at H
                        exact absurd H (by simp)
                    · rw [if_neg c19] at H
                      exact absurd H (by simp)
                  · rw [if_neg c15] at H
                    exact absurd H (by simp)
                · rw [if_neg c14] at H
                  exact absurd H (by simp)
              · rw [if_neg c13] at H
                have c13b0 : decide (x10_2 < (a0.size : Int)) = false := decide_eq_false c13
                clear c13
                replace H := Option.bind_eq_some_iff.mp H
                obtain ⟨⟨t156, t157, t158⟩, A370, H⟩ := H
                replace H : (if ((t152.toList == t154.toList) == (a0.toList == a1.toList)) = true then (if t158 = 0 then (if t156.toList = a0.toList then (some (t157 == (x9_2.size : Int))) else (some false)) else (some false)) else (some false)) = some r := H
                have A37 := Aside0.mk A370
                clear A370
                by_cases c38 : ((t152.toList == t154.toList) == (a0.toList == a1.toList)) = true
                · rw [if_pos c38] at H
                  have c38b0 : ((t152.toList == t154.toList) == (a0.toList == a1.toList)) = true := c38
                  (try (have c38b1 : decide ((t152.toList == t154.toList) = (a0.toList == a1.toList)) = true := by simpa using c38))
                  (try (have c38b2 : ((t152.toList == t154.toList) == (a0.toList == a1.toList)) = true := by simpa using c38))
                  clear c38
                  by_cases c39 : t158 = 0
                  · rw [if_pos c39] at H
                    have c39b0 : (t158 == 0) = true := beq_iff_eq.mpr c39
                    have c39b1 : (t158 != 0) = false := bne_eq_false_iff_eq.mpr c39
                    clear c39
                    by_cases c40 : t156.toList = a0.toList
                    · rw [if_pos c40] at H
                      have c40b0 : (t156.toList == a0.toList) = true := beq_iff_eq.mpr c40
                      have c40b1 : (t156.toList != a0.toList) = false := bne_eq_false_iff_eq.mpr c40
                      clear c40
                      obtain rfl := Option.some.inj H
                      go_wp2_with (first | (go_at_call 12; (with_reducible refine (label_Read.calls k2 x9_2 0 t156 t157 t158 _ A37.out).mono ?_); rintro e w41 ⟨rfl, hb⟩; have n0_ := Aside0.mk (below_step (by repeat (first | (with_reducible first | exact HB.out | apply below_alloc | apply pw_below_drewN | apply below_drew1) | exact HB.out)) hb); clear HB; have HB := n0_; clear n0_; (try clear hb); (try clear hb2); (try clear hk); (try clear hi)))
                      repeat (go_quiet (first | (go_at_call 12; (with_reducible refine (label_Read.calls k2 x9_2 0 t156 t157 t158 _ A37.out).mono ?_); rintro e w41 ⟨rfl, hb⟩; have n0_ := Aside0.mk (below_step (by repeat (first | (with_reducible first | exact HB.out | apply below_alloc | apply pw_below_drewN | apply below_drew1) | exact HB.out)) hb); clear HB; have HB := n0_; clear n0_; (try clear hb); (try clear hb2); (try clear hk); (try clear hi))); try go_wp2_with (first | (go_at_call 12; (with_reducible refine (label_Read.calls k2 x9_2 0 t156 t157 t158 _ A37.out).mono ?_); rintro e w41 ⟨rfl, hb⟩; have n0_ := Aside0.mk (below_step (by repeat (first | (with_reducible first | exact HB.out | apply below_alloc | apply pw_below_drewN | apply below_drew1) | exact HB.out)) hb); clear HB; have HB := n0_; clear n0_; (try clear hb); (try clear hb2); (try clear hk); (try clear hi))))
                      go_ret
                      exact ⟨by first | rfl | (simp [errW_none, errW_some] <;> rfl) | (simp [*, errW_none, errW_some] <;> rfl), by repeat (first | (with_reducible first | exact HB.out | apply below_alloc | apply pw_below_drewN | apply below_drew1) | exact HB.out)⟩
                    · rw [if_neg c40] at H
                      have c40b0 : (t156.toList == a0.toList) = false := beq_eq_false_iff_ne.mpr c40
                      have c40b1 : (t156.toList != a0.toList) = true := bne_iff_ne.mpr c40
                      exact absurd ((Option.some.inj H).trans hr_.out) (by decide)
                  · rw [if_neg c39] at H
                    have c39b0 : (t158 == 0) = false := beq_eq_false_iff_ne.mpr c39
                    have c39b1 : (t158 != 0) = true := bne_iff_ne.mpr c39
                    exact absurd ((Option.some.inj H).trans hr_.out) (by decide)
                · rw [if_neg c38] at H
                  have c38b0 : ((t152.toList == t154.toList) == (a0.toList == a1.toList)) = false := by simpa using c38
                  (try (have c38b1 : decide ((t152.toList == t154.toList) = (a0.toList == a1.toList)) = false := by simpa using c38))
                  (try (have c38b2 : ((t152.toList == t154.toList) == (a0.toList == a1.toList)) = false := by simpa using c38))
                  (try (have c38b3 : ¬ ((t152.toList == t154.toList) = (a0.toList == a1.toList)) := by simpa using c38))
                  clear c38
                  exact absurd ((Option.some.inj H).trans hr_.out) (by decide)
  · replace c4 := Bool.eq_false_iff.mpr c4
    subst c4
    have H1 : (some false) = some r := by rw [if_neg (show ¬ (false = true) by decide)] at H; exact H
    clear H
    have H := H1
    clear H1
    exact absurd ((Option.some.inj H).trans hr_.out) (by decide)

/-- THE ONE PURE STATEMENT of nameplatelaw01_LabelUnlike: yours. -/
def nameplatelaw01_LabelUnlike.Pure : Prop := ∀ (a0 : ByteArray) (a1 : ByteArray), a0.size ≤ 140737488351232 → a1.size ≤ 140737488351232 → ∃ k, nameplatelaw01_LabelUnlike.f k a0 a1 = some true
theorem nameplatelaw01_LabelUnlike.walk (P : nameplatelaw01_LabelUnlike.Pure) (a0 : ByteArray) (a1 : ByteArray) (w : World) (w0 : a0.size ≤ 140737488351232) (w1 : a1.size ≤ 140737488351232) :
    Calls Try.prog 4 #[.string a0, .string a1] w fun e w' => e = .returned (.bool true) ∧ Below w.heap.size w w' := by
  obtain ⟨k, h⟩ := P a0 a1 w0 w1
  refine (nameplatelaw01_LabelUnlike.calls k a0 a1 true w ⟨rfl⟩ h).mono ?_
  rintro e w' ⟨rfl, hd⟩
  exact ⟨rfl, hd⟩

end Go.Proofs.Ytnbjogebdjjepac.OLabelUnlike

