/- This text proves, for each Go function named below, which plain Lean function its call computes, in whatever memory; a program of this session has written it. -/
import Derived.Test.YtilobbjnmnnmnaaDoorOMeetx0
import Derived.Test.YtilobbjnmnnmnaaDoorOMeetx3
import Derived.Test.YtilobbjnmnnmnaaDoorOMeetx4
import Derived.Test.YtilobbjnmnnmnaaDoorOMeetx5
import Derived.Test.YtilobbjnmnnmnaaDoorOMeetx6
import Derived.Test.YtilobbjnmnnmnaaDoorOMeetx7
namespace Go.Proofs.YtilobbjnmnnmnaaDoor.OMeet
open Go.RowKit Go.Proofs.YtilobbjnmnnmnaaDoorW.PrintWords Go.Proofs.YtilobbjnmnnmnaaDoorW.PrintLast Go.Proofs.YtilobbjnmnnmnaaDoorW.PrintMore
attribute [local go_sem] max2_int min2_int max_two min_two max_three min_three max_four min_four   -- for this text's walks alone
set_option linter.unusedVariables false
set_option linter.unusedSimpArgs false

/-! ### nameplatelaw05_RangesMeet: function 3 -/
mutual
def nameplatelaw05_RangesMeet.j0 : Nat → Int → Bool → Bool → Int → Int → Int → Bool → Int → Int → Int → Option (Bool)
  | 0, _, _, _, _, _, _, _, _, _, _ => none
  | k + 1, x2, x19, x188000, x188001, x188002, x188003, x189000, x189001, x189002, x189003 => if x19 = true then ((ranges_Meet.f x188000 x188001 x188002 x188003 x189000 x189001 x189002 x189003).bind fun t192 => (some (!t192))) else (if x188003 > x189003 then (nameplatelaw05_RangesMeet.j1 k x2 x189000 x189001 x189002 x189003 x188000 x188001 x188002 x188003) else (nameplatelaw05_RangesMeet.j1 k x2 x188000 x188001 x188002 x188003 x189000 x189001 x189002 x189003))
def nameplatelaw05_RangesMeet.j1 : Nat → Int → Bool → Int → Int → Int → Bool → Int → Int → Int → Option (Bool)
  | 0, _, _, _, _, _, _, _, _, _ => none
  | k + 1, x2, x188000, x188001, x188002, x188003, x189000, x189001, x189002, x189003 => (ranges_Meet.f x188000 x188001 x188002 x188003 x189000 x189001 x189002 x189003).bind fun t193 => ((ranges_Size.f x189000 x189001 x189002 x189003).bind fun t194 => ((nameplatekit_Pick.f x2 t194).bind fun t195 => ((ranges_At.f x189000 x189001 x189002 x189003 t195).bind fun bt196 => (if bt196.2.2.2 = true then ((ranges_Meet.f x189000 x189001 x189002 x189003 x188000 x188001 x188002 x188003).bind fun t201 => (if (t193 == t201) = true then ((ranges_Has.f x188000 x188001 x188002 x188003 x189000 x189001 x189002).bind fun t202 => (if (t193 == t202) = true then ((ranges_Has.f x188000 x188001 x188002 x188003 bt196.1 bt196.2.1 bt196.2.2.1).bind fun t203 => (if (t203 == t193) = true then ((ranges_Meet.f x188000 x188001 x188002 x188003 x188000 x188001 x188002 x188003).bind fun t204 => (some t204)) else (some false))) else (some false))) else (some false))) else (some false)))))
end
def nameplatelaw05_RangesMeet.f (k : Nat) (a0_0 : Bool) (a0_1 : Int) (a0_2 : Int) (a0_3 : Int) (a1_0 : Bool) (a1_1 : Int) (a1_2 : Int) (a1_3 : Int) (a2 : Int) : Option (Bool) := (nameplatelaw05_lives.f k).bind fun t189 => (if t189 = true then ((ranges_Check.f a0_0 a0_1 a0_2 a0_3).bind fun t190 => (if t190 = 0 then ((ranges_Check.f a1_0 a1_1 a1_2 a1_3).bind fun t191 => (nameplatelaw05_RangesMeet.j0 k a2 (t191 != 0) a0_0 a0_1 a0_2 a0_3 a1_0 a1_1 a1_2 a1_3)) else (nameplatelaw05_RangesMeet.j0 k a2 true a0_0 a0_1 a0_2 a0_3 a1_0 a1_1 a1_2 a1_3))) else (some false))
theorem nameplatelaw05_RangesMeet.mono_l : ∀ k, (∀ y0 y1 y2 y3 y4 y5 y6 y7 y8 y9, LeO (nameplatelaw05_RangesMeet.j0 k y0 y1 y2 y3 y4 y5 y6 y7 y8 y9) (nameplatelaw05_RangesMeet.j0 (k + 1) y0 y1 y2 y3 y4 y5 y6 y7 y8 y9)) ∧ (∀ y0 y1 y2 y3 y4 y5 y6 y7 y8, LeO (nameplatelaw05_RangesMeet.j1 k y0 y1 y2 y3 y4 y5 y6 y7 y8) (nameplatelaw05_RangesMeet.j1 (k + 1) y0 y1 y2 y3 y4 y5 y6 y7 y8))
  | 0 => ⟨fun _ _ _ _ _ _ _ _ _ _ r h => by simp [nameplatelaw05_RangesMeet.j0] at h, fun _ _ _ _ _ _ _ _ _ r h => by simp [nameplatelaw05_RangesMeet.j1] at h⟩
  | k + 1 => by
    obtain ⟨ih0, ih1⟩ := nameplatelaw05_RangesMeet.mono_l k
    refine ⟨?_, ?_⟩
    · intro y0 y1 y2 y3 y4 y5 y6 y7 y8 y9
      unfold nameplatelaw05_RangesMeet.j0
      repeat' first
      | (with_reducible exact ih0 _ _ _ _ _ _ _ _ _ _)
      | (with_reducible exact ih1 _ _ _ _ _ _ _ _ _)
      | (with_reducible exact nameplatelaw05_lives.mono _)
      | (with_reducible exact LeO.refl _)
      | (with_reducible exact LeO.none _)
      | (with_reducible refine LeO.ite ?_ ?_)
      | (with_reducible refine LeO.bind ?_ (fun _ => ?_))
      | exact ih0 _ _ _ _ _ _ _ _ _ _
      | exact ih1 _ _ _ _ _ _ _ _ _
      | exact nameplatelaw05_lives.mono _
      | exact LeO.none _
      | refine LeO.ite ?_ ?_
      | refine LeO.bind ?_ (fun _ => ?_)
    · intro y0 y1 y2 y3 y4 y5 y6 y7 y8
      unfold nameplatelaw05_RangesMeet.j1
      repeat' first
      | (with_reducible exact ih0 _ _ _ _ _ _ _ _ _ _)
      | (with_reducible exact ih1 _ _ _ _ _ _ _ _ _)
      | (with_reducible exact nameplatelaw05_lives.mono _)
      | (with_reducible exact LeO.refl _)
      | (with_reducible exact LeO.none _)
      | (with_reducible refine LeO.ite ?_ ?_)
      | (with_reducible refine LeO.bind ?_ (fun _ => ?_))
      | exact ih0 _ _ _ _ _ _ _ _ _ _
      | exact ih1 _ _ _ _ _ _ _ _ _
      | exact nameplatelaw05_lives.mono _
      | exact LeO.none _
      | refine LeO.ite ?_ ?_
      | refine LeO.bind ?_ (fun _ => ?_)
theorem nameplatelaw05_RangesMeet.mono : ∀ a0 a1 a2 a3 a4 a5 a6 a7 a8 k, LeO (nameplatelaw05_RangesMeet.f k a0 a1 a2 a3 a4 a5 a6 a7 a8) (nameplatelaw05_RangesMeet.f (k + 1) a0 a1 a2 a3 a4 a5 a6 a7 a8) := by
  intro a0 a1 a2 a3 a4 a5 a6 a7 a8 k
  obtain ⟨ih0, ih1⟩ := nameplatelaw05_RangesMeet.mono_l k
  unfold nameplatelaw05_RangesMeet.f
  repeat' first
      | (with_reducible exact ih0 _ _ _ _ _ _ _ _ _ _)
      | (with_reducible exact ih1 _ _ _ _ _ _ _ _ _)
      | (with_reducible exact nameplatelaw05_lives.mono _)
      | (with_reducible exact LeO.refl _)
      | (with_reducible exact LeO.none _)
      | (with_reducible refine LeO.ite ?_ ?_)
      | (with_reducible refine LeO.bind ?_ (fun _ => ?_))
      | exact ih0 _ _ _ _ _ _ _ _ _ _
      | exact ih1 _ _ _ _ _ _ _ _ _
      | exact nameplatelaw05_lives.mono _
      | exact LeO.none _
      | refine LeO.ite ?_ ?_
      | refine LeO.bind ?_ (fun _ => ?_)
def nameplatelaw05_RangesMeet.T8 : Bool × List (List Nat × List Nat) := (true, [([], []), ([], []), ([], []), ([2], [2]), ([1, 3, 3], [1, 3]), ([0, 4, 4], [0, 4]), ([5], [5]), ([6], [6]), ([6], [6]), ([], []), ([9, 7, 5, 0, 1, 2, 3, 4, 5, 6, 7, 9], [7, 9]), ([8, 10, 0, 1, 2, 3, 4, 5, 6, 7, 8, 9, 10], [8])])
def nameplatelaw05_RangesMeet.B8 : List Nat := [0, 0, 0, 4, 14, 31, 63, 127, 127, 0, 767, 2047]
theorem nameplatelaw05_RangesMeet.tab8 : rtab .any (opsOf Tryd.f3 8) = nameplatelaw05_RangesMeet.T8 := by kernel_rfl
theorem nameplatelaw05_RangesMeet.bits8 : waitsOk nameplatelaw05_RangesMeet.T8.2 nameplatelaw05_RangesMeet.B8 = true := by kernel_rfl
set_option maxHeartbeats 8000000 in
set_option maxRecDepth 100000 in
theorem nameplatelaw05_RangesMeet.calls (k : Nat) (a0_0 : Bool) (a0_1 : Int) (a0_2 : Int) (a0_3 : Int) (a1_0 : Bool) (a1_1 : Int) (a1_2 : Int) (a1_3 : Int) (a2 : Int) (r : Bool) (w : World) (hr_ : Aside0 (r = true)) (h : nameplatelaw05_RangesMeet.f k a0_0 a0_1 a0_2 a0_3 a1_0 a1_1 a1_2 a1_3 a2 = some r) :
    Calls Tryd.prog 3 #[.agg #[.bool a0_0, .int .u64 a0_1, .int .u64 a0_2, .int .i64 a0_3], .agg #[.bool a1_0, .int .u64 a1_1, .int .u64 a1_2, .int .i64 a1_3], .int .i64 a2] w fun e w' => e = .returned (.bool r) ∧ Below w.heap.size w w' := by
  have hu26 := Tryd.underlying26
  have hu24 := Tryd.underlying24
  have HB := Aside0.mk (Below.refl w.heap.size w)
  have H : ((nameplatelaw05_lives.f k).bind fun t189 => (if t189 = true then ((ranges_Check.f a0_0 a0_1 a0_2 a0_3).bind fun t190 => (if t190 = 0 then ((ranges_Check.f a1_0 a1_1 a1_2 a1_3).bind fun t191 => (nameplatelaw05_RangesMeet.j0 k a2 (t191 != 0) a0_0 a0_1 a0_2 a0_3 a1_0 a1_1 a1_2 a1_3)) else (nameplatelaw05_RangesMeet.j0 k a2 true a0_0 a0_1 a0_2 a0_3 a1_0 a1_1 a1_2 a1_3))) else (some false))) = some r := h
  clear h
  replace H := Option.bind_eq_some_iff.mp H
  obtain ⟨t189, A40, H⟩ := H
  replace H : (if t189 = true then ((ranges_Check.f a0_0 a0_1 a0_2 a0_3).bind fun t190 => (if t190 = 0 then ((ranges_Check.f a1_0 a1_1 a1_2 a1_3).bind fun t191 => (nameplatelaw05_RangesMeet.j0 k a2 (t191 != 0) a0_0 a0_1 a0_2 a0_3 a1_0 a1_1 a1_2 a1_3)) else (nameplatelaw05_RangesMeet.j0 k a2 true a0_0 a0_1 a0_2 a0_3 a1_0 a1_1 a1_2 a1_3))) else (some false)) = some r := H
  have A4 := Aside0.mk A40
  clear A40
  by_cases c5 : t189 = true
  · subst c5
    have H1 : ((ranges_Check.f a0_0 a0_1 a0_2 a0_3).bind fun t190 => (if t190 = 0 then ((ranges_Check.f a1_0 a1_1 a1_2 a1_3).bind fun t191 => (nameplatelaw05_RangesMeet.j0 k a2 (t191 != 0) a0_0 a0_1 a0_2 a0_3 a1_0 a1_1 a1_2 a1_3)) else (nameplatelaw05_RangesMeet.j0 k a2 true a0_0 a0_1 a0_2 a0_3 a1_0 a1_1 a1_2 a1_3))) = some r := by rw [if_pos rfl] at H; exact H
    clear H
    have H := H1
    clear H1
    have HC6 := Aside0.mk H
    clear H
    go_enter Tryd.func3, Tryd.ntmps3
    go_upto_region 3 with (first | ((with_reducible refine gate_dst (N := 3) rfl ?_); refine box_event ?hg (N := 3) ?hd (cs := #[.bool a0_0, .int .u64 a0_1, .int .u64 a0_2, .int .i64 a0_3]) (t := 26) ?hr ?_; (case hd => rfl); (case hg => rfl); (case hr => first | (go_simp; done) | (go_simp; rfl)); intro gb187 hg w7 hbox hb; have n0_ := Aside0.mk (below_step (by repeat (first | (with_reducible first | exact HB.out | apply below_alloc | apply pw_below_drewN | apply below_drew1) | exact HB.out)) hb); have n1_ := Aside0.mk (hbox); have n2_ := Aside0.mk ((by rw [hg]; exact (below_size (by repeat (first | (with_reducible first | exact HB.out | apply below_alloc | apply pw_below_drewN | apply below_drew1) | exact HB.out))) : w.heap.size ≤ gb187)); have n3_ := Aside0.mk ((by rw [hg]; exact (below_size (by repeat (first | (with_reducible first | exact HB.out | apply below_alloc | apply pw_below_drewN | apply below_drew1) | exact HB.out))) : w.heap.size ≤ gb187)); clear HB; have HB := n0_; have BK187 := n1_; have GW187 := n2_; have GE187 := n3_; clear n0_ n1_ n2_ n3_; clear hb hbox hg) | ((with_reducible refine gate_dst (N := 4) rfl ?_); refine box_event ?hg (N := 4) ?hd (cs := #[.bool a1_0, .int .u64 a1_1, .int .u64 a1_2, .int .i64 a1_3]) (t := 26) ?hr ?_; (case hd => rfl); (case hg => rfl); (case hr => first | (go_simp; done) | (go_simp; rfl)); intro gb188 hg w8 hbox hb; have n0_ := Aside0.mk (blk_below (g := gb187) (o := .cells #[.bool a0_0, .int .u64 a0_1, .int .u64 a0_2, .int .i64 a0_3] 26 (0, 0)) (by (with_reducible repeat (first | refine blk_drewN ?_ _ | refine blk_drew ?_ | refine blk_alloc ?_ _)); exact BK187.out) hb); have n1_ := Aside0.mk (below_step (by repeat (first | (with_reducible first | exact HB.out | apply below_alloc | apply pw_below_drewN | apply below_drew1 | refine below_set ?_ GE187.out) | exact HB.out)) hb); have n2_ := Aside0.mk (hbox); have n3_ := Aside0.mk ((by rw [hg]; exact (below_size (by repeat (first | (with_reducible first | exact HB.out | apply below_alloc | apply pw_below_drewN | apply below_drew1 | refine below_set ?_ GE187.out) | exact HB.out))) : w.heap.size ≤ gb188)); have n4_ := Aside0.mk ((by rw [hg]; exact (below_size (by repeat (first | (with_reducible first | exact HB.out | apply below_alloc | apply pw_below_drewN | apply below_drew1 | refine below_set ?_ GE187.out) | exact HB.out))) : w.heap.size ≤ gb188)); have n5_ := Aside0.mk ((by rw [hg]; exact Nat.ne_of_lt (blk_lt (g := gb187) (o := .cells #[.bool a0_0, .int .u64 a0_1, .int .u64 a0_2, .int .i64 a0_3] 26 (0, 0)) (by (with_reducible repeat (first | refine blk_drewN ?_ _ | refine blk_drew ?_ | refine blk_alloc ?_ _)); exact BK187.out)) : gb187 ≠ gb188)); have n6_ := Aside0.mk ((by rw [hg]; exact Nat.ne_of_gt (blk_lt (g := gb187) (o := .cells #[.bool a0_0, .int .u64 a0_1, .int .u64 a0_2, .int .i64 a0_3] 26 (0, 0)) (by (with_reducible repeat (first | refine blk_drewN ?_ _ | refine blk_drew ?_ | refine blk_alloc ?_ _)); exact BK187.out)) : gb188 ≠ gb187)); clear BK187; clear HB; have BK187 := n0_; have HB := n1_; have BK188 := n2_; have GW188 := n3_; have GE188 := n4_; have NB187_188 := n5_; have NB188_187 := n6_; clear n0_ n1_ n2_ n3_ n4_ n5_ n6_; clear hb hbox hg) | ((with_reducible refine gate_callee (f := 6) rfl ?_); refine goesL_ (some 10) rfl rfl Tryd.func6 (by kernel_rfl) rfl #[] rfl (by (try simp only [List.map_toArray, List.map_cons, List.map_nil]); first | done | rfl | (simp only [List.length_drop, List.length_take]; rfl)) ?_; (with_reducible refine (nameplatelaw05_lives.calls k  true _ A4.out).mono ?_); rintro e w9 ⟨rfl, hb⟩; refine ⟨_, rfl, ?_⟩; have n0_ := Aside0.mk (blk_below (g := gb187) (o := .cells #[.bool a0_0, .int .u64 a0_1, .int .u64 a0_2, .int .i64 a0_3] 26 (0, 0)) (by (with_reducible repeat (first | refine blk_drewN ?_ _ | refine blk_drew ?_ | refine blk_alloc ?_ _)); exact BK187.out) hb); have n1_ := Aside0.mk (blk_below (g := gb188) (o := .cells #[.bool a1_0, .int .u64 a1_1, .int .u64 a1_2, .int .i64 a1_3] 26 (0, 0)) (by (with_reducible repeat (first | refine blk_drewN ?_ _ | refine blk_drew ?_ | refine blk_alloc ?_ _)); exact BK188.out) hb); have n2_ := Aside0.mk (below_step (by repeat (first | (with_reducible first | exact HB.out | apply below_alloc | apply pw_below_drewN | apply below_drew1 | refine below_set ?_ GE187.out | refine below_set ?_ GE188.out) | exact HB.out)) hb); clear BK187; clear BK188; clear HB; have BK187 := n0_; have BK188 := n1_; have HB := n2_; clear n0_ n1_ n2_; (try clear hb); (try clear hb2); (try clear hk); (try clear hi)))
    (try simp only [Act.put, List.setIfInBounds_toArray, List.set_cons_zero, List.set_cons_succ])
    go_cut [19] (fun v19 wc => ∃ (kq : Nat) (x19_5 : Bool), v19 = .bool x19_5 ∧ Aside0 (nameplatelaw05_RangesMeet.j0 kq a2 x19_5 a0_0 a0_1 a0_2 a0_3 a1_0 a1_1 a1_2 a1_3 = some r) ∧ Aside0 (kq ≤ k) ∧ Aside0 (wc.heap[gb187]? = some (.cells #[.bool a0_0, .int .u64 a0_1, .int .u64 a0_2, .int .i64 a0_3] 26 (0, 0))) ∧ Aside0 (wc.heap[gb188]? = some (.cells #[.bool a1_0, .int .u64 a1_1, .int .u64 a1_2, .int .i64 a1_3] 26 (0, 0))) ∧ Aside0 (Below w.heap.size w wc))
    case first =>
      have H := HC6.out
      clear HC6
      replace H := Option.bind_eq_some_iff.mp H
      obtain ⟨t190, A100, H⟩ := H
      replace H : (if t190 = 0 then ((ranges_Check.f a1_0 a1_1 a1_2 a1_3).bind fun t191 => (nameplatelaw05_RangesMeet.j0 k a2 (t191 != 0) a0_0 a0_1 a0_2 a0_3 a1_0 a1_1 a1_2 a1_3)) else (nameplatelaw05_RangesMeet.j0 k a2 true a0_0 a0_1 a0_2 a0_3 a1_0 a1_1 a1_2 a1_3)) = some r := H
      have A10 := Aside0.mk A100
      clear A100
      by_cases c11 : t190 = 0
      · rw [if_pos c11] at H
        have c11b0 : (t190 == 0) = true := beq_iff_eq.mpr c11
        have c11b1 : (t190 != 0) = false := bne_eq_false_iff_eq.mpr c11
        clear c11
        (first | rw [c11b0] | (simp only [i64_w, i32_w]; rw [c11b0]) | skip)
        replace H := Option.bind_eq_some_iff.mp H
        obtain ⟨t191, A120, H⟩ := H
        replace H : (nameplatelaw05_RangesMeet.j0 k a2 (t191 != 0) a0_0 a0_1 a0_2 a0_3 a1_0 a1_1 a1_2 a1_3) = some r := H
        have A12 := Aside0.mk A120
        clear A120
        have H' := Aside0.mk H
        clear H
        have hnb13 := NB187_188.out
        have hnc13 := NB188_187.out
        have hcz14_0 : w9.cell? ⟨gb187, 0, none⟩ = some (.bool a0_0) := (blk_cell BK187.out 0).trans rfl
        have hcz14_1 : w9.cell? ⟨gb187, 1, none⟩ = some (.int .u64 a0_1) := (blk_cell BK187.out 1).trans rfl
        have hcz14_2 : w9.cell? ⟨gb187, 2, none⟩ = some (.int .u64 a0_2) := (blk_cell BK187.out 2).trans rfl
        have hcz14_3 : w9.cell? ⟨gb187, 3, none⟩ = some (.int .i64 a0_3) := (blk_cell BK187.out 3).trans rfl
        have hfz14_0 := blk_frozen BK187.out 0
        have hfz14_1 := blk_frozen BK187.out 1
        have hfz14_2 := blk_frozen BK187.out 2
        have hfz14_3 := blk_frozen BK187.out 3
        go_wp2_with (first | ((with_reducible refine gate_callee (f := 7) rfl ?_); refine goesL_ (some 13) rfl rfl Tryd.func7 (by kernel_rfl) rfl #[.agg #[.bool a0_0, .int .u64 a0_1, .int .u64 a0_2, .int .i64 a0_3]] rfl (by (try simp only [List.map_toArray, List.map_cons, List.map_nil]); first | done | rfl | (simp only [List.length_drop, List.length_take]; rfl)) ?_; (with_reducible refine (ranges_Check.calls a0_0 a0_1 a0_2 a0_3 t190 _ A10.out).mono ?_); rintro e w15 ⟨rfl, hb⟩; refine ⟨_, rfl, ?_⟩; have n0_ := Aside0.mk (blk_below (g := gb187) (o := .cells #[.bool a0_0, .int .u64 a0_1, .int .u64 a0_2, .int .i64 a0_3] 26 (0, 0)) (by (with_reducible repeat (first | refine blk_drewN ?_ _ | refine blk_drew ?_ | refine blk_alloc ?_ _)); exact BK187.out) hb); have n1_ := Aside0.mk (blk_below (g := gb188) (o := .cells #[.bool a1_0, .int .u64 a1_1, .int .u64 a1_2, .int .i64 a1_3] 26 (0, 0)) (by (with_reducible repeat (first | refine blk_drewN ?_ _ | refine blk_drew ?_ | refine blk_alloc ?_ _)); exact BK188.out) hb); have n2_ := Aside0.mk (below_step (by repeat (first | (with_reducible first | exact HB.out | apply below_alloc | apply pw_below_drewN | apply below_drew1 | refine below_set ?_ GE187.out | refine below_set ?_ GE188.out) | exact HB.out)) hb); clear BK187; clear BK188; clear HB; have BK187 := n0_; have BK188 := n1_; have HB := n2_; clear n0_ n1_ n2_; (try clear hb); (try clear hb2); (try clear hk); (try clear hi); have hcz16_0 : w15.cell? ⟨gb188, 0, none⟩ = some (.bool a1_0) := (blk_cell BK188.out 0).trans rfl; have hcz16_1 : w15.cell? ⟨gb188, 1, none⟩ = some (.int .u64 a1_1) := (blk_cell BK188.out 1).trans rfl; have hcz16_2 : w15.cell? ⟨gb188, 2, none⟩ = some (.int .u64 a1_2) := (blk_cell BK188.out 2).trans rfl; have hcz16_3 : w15.cell? ⟨gb188, 3, none⟩ = some (.int .i64 a1_3) := (blk_cell BK188.out 3).trans rfl; have hfz16_0 := blk_frozen BK188.out 0; have hfz16_1 := blk_frozen BK188.out 1; have hfz16_2 := blk_frozen BK188.out 2; have hfz16_3 := blk_frozen BK188.out 3) | (go_at_call 7; (with_reducible refine (ranges_Check.calls a1_0 a1_1 a1_2 a1_3 t191 _ A12.out).mono ?_); rintro e w17 ⟨rfl, hb⟩; have n0_ := Aside0.mk (blk_below (g := gb187) (o := .cells #[.bool a0_0, .int .u64 a0_1, .int .u64 a0_2, .int .i64 a0_3] 26 (0, 0)) (by (with_reducible repeat (first | refine blk_drewN ?_ _ | refine blk_drew ?_ | refine blk_alloc ?_ _)); exact BK187.out) hb); have n1_ := Aside0.mk (blk_below (g := gb188) (o := .cells #[.bool a1_0, .int .u64 a1_1, .int .u64 a1_2, .int .i64 a1_3] 26 (0, 0)) (by (with_reducible repeat (first | refine blk_drewN ?_ _ | refine blk_drew ?_ | refine blk_alloc ?_ _)); exact BK188.out) hb); have n2_ := Aside0.mk (below_step (by repeat (first | (with_reducible first | exact HB.out | apply below_alloc | apply pw_below_drewN | apply below_drew1 | refine below_set ?_ GE187.out | refine below_set ?_ GE188.out) | exact HB.out)) hb); clear BK187; clear BK188; clear HB; have BK187 := n0_; have BK188 := n1_; have HB := n2_; clear n0_ n1_ n2_; (try clear hb); (try clear hb2); (try clear hk); (try clear hi)))
        go_meet
        case rel => exact ⟨_, ((t191 != 0)), (by first | rfl | (simp; done) | (simp [*]; done)), H', ⟨by first | omega | exact Nat.le_refl _⟩, ⟨by (with_reducible repeat (first | refine blk_drewN ?_ _ | refine blk_drew ?_ | refine blk_alloc ?_ _)); exact BK187.out⟩, ⟨by (with_reducible repeat (first | refine blk_drewN ?_ _ | refine blk_drew ?_ | refine blk_alloc ?_ _)); exact BK188.out⟩, ⟨by repeat (first | (with_reducible first | exact HB.out | apply below_alloc | apply pw_below_drewN | apply below_drew1 | refine below_set ?_ GE187.out | refine below_set ?_ GE188.out) | exact HB.out)⟩⟩
      · rw [if_neg c11] at H
        have c11b0 : (t190 == 0) = false := beq_eq_false_iff_ne.mpr c11
        have c11b1 : (t190 != 0) = true := bne_iff_ne.mpr c11
        (first | rw [c11b0] | (simp only [i64_w, i32_w]; rw [c11b0]) | skip)
        have H' := Aside0.mk H
        clear H
        have hnb18 := NB187_188.out
        have hnc18 := NB188_187.out
        have hcz19_0 : w9.cell? ⟨gb187, 0, none⟩ = some (.bool a0_0) := (blk_cell BK187.out 0).trans rfl
        have hcz19_1 : w9.cell? ⟨gb187, 1, none⟩ = some (.int .u64 a0_1) := (blk_cell BK187.out 1).trans rfl
        have hcz19_2 : w9.cell? ⟨gb187, 2, none⟩ = some (.int .u64 a0_2) := (blk_cell BK187.out 2).trans rfl
        have hcz19_3 : w9.cell? ⟨gb187, 3, none⟩ = some (.int .i64 a0_3) := (blk_cell BK187.out 3).trans rfl
        have hfz19_0 := blk_frozen BK187.out 0
        have hfz19_1 := blk_frozen BK187.out 1
        have hfz19_2 := blk_frozen BK187.out 2
        have hfz19_3 := blk_frozen BK187.out 3
        go_wp2_with (first | ((with_reducible refine gate_callee (f := 7) rfl ?_); refine goesL_ (some 13) rfl rfl Tryd.func7 (by kernel_rfl) rfl #[.agg #[.bool a0_0, .int .u64 a0_1, .int .u64 a0_2, .int .i64 a0_3]] rfl (by (try simp only [List.map_toArray, List.map_cons, List.map_nil]); first | done | rfl | (simp only [List.length_drop, List.length_take]; rfl)) ?_; (with_reducible refine (ranges_Check.calls a0_0 a0_1 a0_2 a0_3 t190 _ A10.out).mono ?_); rintro e w20 ⟨rfl, hb⟩; refine ⟨_, rfl, ?_⟩; have n0_ := Aside0.mk (blk_below (g := gb187) (o := .cells #[.bool a0_0, .int .u64 a0_1, .int .u64 a0_2, .int .i64 a0_3] 26 (0, 0)) (by (with_reducible repeat (first | refine blk_drewN ?_ _ | refine blk_drew ?_ | refine blk_alloc ?_ _)); exact BK187.out) hb); have n1_ := Aside0.mk (blk_below (g := gb188) (o := .cells #[.bool a1_0, .int .u64 a1_1, .int .u64 a1_2, .int .i64 a1_3] 26 (0, 0)) (by (with_reducible repeat (first | refine blk_drewN ?_ _ | refine blk_drew ?_ | refine blk_alloc ?_ _)); exact BK188.out) hb); have n2_ := Aside0.mk (below_step (by repeat (first | (with_reducible first | exact HB.out | apply below_alloc | apply pw_below_drewN | apply below_drew1 | refine below_set ?_ GE187.out | refine below_set ?_ GE188.out) | exact HB.out)) hb); clear BK187; clear BK188; clear HB; have BK187 := n0_; have BK188 := n1_; have HB := n2_; clear n0_ n1_ n2_; (try clear hb); (try clear hb2); (try clear hk); (try clear hi)))
        go_meet
        case rel => exact ⟨_, (true), (by first | rfl | (simp; done) | (simp [*]; done)), H', ⟨by first | omega | exact Nat.le_refl _⟩, ⟨by (with_reducible repeat (first | refine blk_drewN ?_ _ | refine blk_drew ?_ | refine blk_alloc ?_ _)); exact BK187.out⟩, ⟨by (with_reducible repeat (first | refine blk_drewN ?_ _ | refine blk_drew ?_ | refine blk_alloc ?_ _)); exact BK188.out⟩, ⟨by repeat (first | (with_reducible first | exact HB.out | apply below_alloc | apply pw_below_drewN | apply below_drew1 | refine below_set ?_ GE187.out | refine below_set ?_ GE188.out) | exact HB.out)⟩⟩
    case rest =>
      clear HC6
      try clear c1
      try clear p2
      try clear c3
      try clear c5
      try clear c6
      try clear c7
      try clear c11
      try clear c11b0
      try clear c11b1
      try clear c13
      try clear c18
      try clear hcz14_0
      try clear hcz14_1
      try clear hcz14_2
      try clear hcz14_3
      try clear hcz16_0
      try clear hcz16_1
      try clear hcz16_2
      try clear hcz16_3
      try clear hcz19_0
      try clear hcz19_1
      try clear hcz19_2
      try clear hcz19_3
      try clear hfz14_0
      try clear hfz14_1
      try clear hfz14_2
      try clear hfz14_3
      try clear hfz16_0
      try clear hfz16_1
      try clear hfz16_2
      try clear hfz16_3
      try clear hfz19_0
      try clear hfz19_1
      try clear hfz19_2
      try clear hfz19_3
      obtain ⟨kq, x19_5, rfl, HA, HJ5, BK187, BK188, HB⟩ := hcut
      cases kq with
      | zero => exact absurd HA.out (by simp [nameplatelaw05_RangesMeet.j0])
      | succ kj5 =>
        have H := HA.out
        clear HA
        simp only [nameplatelaw05_RangesMeet.j0] at H
        by_cases c21 : x19_5 = true
        · subst c21
          have H1 : ((ranges_Meet.f a0_0 a0_1 a0_2 a0_3 a1_0 a1_1 a1_2 a1_3).bind fun t192 => (some (!t192))) = some r := by rw [if_pos rfl] at H; exact H
          clear H
          have H := H1
          clear H1
          replace H := Option.bind_eq_some_iff.mp H
          obtain ⟨t192, A220, H⟩ := H
          replace H : (some (!t192)) = some r := H
          have A22 := Aside0.mk A220
          clear A220
          obtain rfl := Option.some.inj H
          have hnb23 := NB187_188.out
          have hnc23 := NB188_187.out
          have hcz24_0 : wc.cell? ⟨gb187, 0, none⟩ = some (.bool a0_0) := (blk_cell BK187.out 0).trans rfl
          have hcz24_1 : wc.cell? ⟨gb187, 1, none⟩ = some (.int .u64 a0_1) := (blk_cell BK187.out 1).trans rfl
          have hcz24_2 : wc.cell? ⟨gb187, 2, none⟩ = some (.int .u64 a0_2) := (blk_cell BK187.out 2).trans rfl
          have hcz24_3 : wc.cell? ⟨gb187, 3, none⟩ = some (.int .i64 a0_3) := (blk_cell BK187.out 3).trans rfl
          have hfz24_0 := blk_frozen BK187.out 0
          have hfz24_1 := blk_frozen BK187.out 1
          have hfz24_2 := blk_frozen BK187.out 2
          have hfz24_3 := blk_frozen BK187.out 3
          have hcz25_0 : wc.cell? ⟨gb188, 0, none⟩ = some (.bool a1_0) := (blk_cell BK188.out 0).trans rfl
          have hcz25_1 : wc.cell? ⟨gb188, 1, none⟩ = some (.int .u64 a1_1) := (blk_cell BK188.out 1).trans rfl
          have hcz25_2 : wc.cell? ⟨gb188, 2, none⟩ = some (.int .u64 a1_2) := (blk_cell BK188.out 2).trans rfl
          have hcz25_3 : wc.cell? ⟨gb188, 3, none⟩ = some (.int .i64 a1_3) := (blk_cell BK188.out 3).trans rfl
          have hfz25_0 := blk_frozen BK188.out 0
          have hfz25_1 := blk_frozen BK188.out 1
          have hfz25_2 := blk_frozen BK188.out 2
          have hfz25_3 := blk_frozen BK188.out 3
          go_wp2_with (first | ((with_reducible refine gate_callee (f := 8) rfl ?_); refine goesL_ (some 22) rfl rfl Tryd.func8 (by kernel_rfl) rfl #[.agg #[.bool a0_0, .int .u64 a0_1, .int .u64 a0_2, .int .i64 a0_3], .agg #[.bool a1_0, .int .u64 a1_1, .int .u64 a1_2, .int .i64 a1_3]] rfl (by (try simp only [List.map_toArray, List.map_cons, List.map_nil]); first | done | rfl | (simp only [List.length_drop, List.length_take]; rfl)) ?_; (with_reducible refine (ranges_Meet.calls a0_0 a0_1 a0_2 a0_3 a1_0 a1_1 a1_2 a1_3 t192 _ A22.out).mono ?_); rintro e w26 ⟨rfl, hb⟩; refine ⟨_, rfl, ?_⟩; have n0_ := Aside0.mk (blk_below (g := gb187) (o := .cells #[.bool a0_0, .int .u64 a0_1, .int .u64 a0_2, .int .i64 a0_3] 26 (0, 0)) (by (with_reducible repeat (first | refine blk_drewN ?_ _ | refine blk_drew ?_ | refine blk_alloc ?_ _)); exact BK187.out) hb); have n1_ := Aside0.mk (blk_below (g := gb188) (o := .cells #[.bool a1_0, .int .u64 a1_1, .int .u64 a1_2, .int .i64 a1_3] 26 (0, 0)) (by (with_reducible repeat (first | refine blk_drewN ?_ _ | refine blk_drew ?_ | refine blk_alloc ?_ _)); exact BK188.out) hb); have n2_ := Aside0.mk (below_step (by repeat (first | (with_reducible first | exact HB.out | apply below_alloc | apply pw_below_drewN | apply below_drew1 | refine below_set ?_ GE187.out | refine below_set ?_ GE188.out) | exact HB.out)) hb); clear BK187; clear BK188; clear HB; have BK187 := n0_; have BK188 := n1_; have HB := n2_; clear n0_ n1_ n2_; (try clear hb); (try clear hb2); (try clear hk); (try clear hi)))
          go_ret
          exact ⟨by first | rfl | (simp [errW_none, errW_some] <;> rfl) | (simp [*, errW_none, errW_some] <;> rfl), by repeat (first | (with_reducible first | exact HB.out | apply below_alloc | apply pw_below_drewN | apply below_drew1 | refine below_set ?_ GE187.out | refine below_set ?_ GE188.out) | exact HB.out)⟩
        · replace c21 := Bool.eq_false_iff.mpr c21
          subst c21
          have H1 : (if a0_3 > a1_3 then (nameplatelaw05_RangesMeet.j1 kj5 a2 a1_0 a1_1 a1_2 a1_3 a0_0 a0_1 a0_2 a0_3) else (nameplatelaw05_RangesMeet.j1 kj5 a2 a0_0 a0_1 a0_2 a0_3 a1_0 a1_1 a1_2 a1_3)) = some r := by rw [if_neg (show ¬ (false = true) by decide)] at H; exact H
          clear H
          have H := H1
          clear H1
          have HC27 := Aside0.mk H
          clear H
          have hnb28 := NB187_188.out
          have hnc28 := NB188_187.out
          have hcz29_0 : wc.cell? ⟨gb187, 0, none⟩ = some (.bool a0_0) := (blk_cell BK187.out 0).trans rfl
          have hcz29_1 : wc.cell? ⟨gb187, 1, none⟩ = some (.int .u64 a0_1) := (blk_cell BK187.out 1).trans rfl
          have hcz29_2 : wc.cell? ⟨gb187, 2, none⟩ = some (.int .u64 a0_2) := (blk_cell BK187.out 2).trans rfl
          have hcz29_3 : wc.cell? ⟨gb187, 3, none⟩ = some (.int .i64 a0_3) := (blk_cell BK187.out 3).trans rfl
          have hfz29_0 := blk_frozen BK187.out 0
          have hfz29_1 := blk_frozen BK187.out 1
          have hfz29_2 := blk_frozen BK187.out 2
          have hfz29_3 := blk_frozen BK187.out 3
          have hcz30_0 : wc.cell? ⟨gb188, 0, none⟩ = some (.bool a1_0) := (blk_cell BK188.out 0).trans rfl
          have hcz30_1 : wc.cell? ⟨gb188, 1, none⟩ = some (.int .u64 a1_1) := (blk_cell BK188.out 1).trans rfl
          have hcz30_2 : wc.cell? ⟨gb188, 2, none⟩ = some (.int .u64 a1_2) := (blk_cell BK188.out 2).trans rfl
          have hcz30_3 : wc.cell? ⟨gb188, 3, none⟩ = some (.int .i64 a1_3) := (blk_cell BK188.out 3).trans rfl
          have hfz30_0 := blk_frozen BK188.out 0
          have hfz30_1 := blk_frozen BK188.out 1
          have hfz30_2 := blk_frozen BK188.out 2
          have hfz30_3 := blk_frozen BK188.out 3
          go_upto_if 28 with (fail)
          go_cut [] (fun wc => ∃ (kq : Nat) (x188000_26 : Bool) (x188001_26 : Int) (x188002_26 : Int) (x188003_26 : Int) (x189000_26 : Bool) (x189001_26 : Int) (x189002_26 : Int) (x189003_26 : Int), Aside0 (nameplatelaw05_RangesMeet.j1 kq a2 x188000_26 x188001_26 x188002_26 x188003_26 x189000_26 x189001_26 x189002_26 x189003_26 = some r) ∧ Aside0 (kq ≤ kj5) ∧ Aside0 (wc.heap[gb187]? = some (.cells #[.bool x188000_26, .int .u64 x188001_26, .int .u64 x188002_26, .int .i64 x188003_26] 26 (0, 0))) ∧ Aside0 (wc.heap[gb188]? = some (.cells #[.bool x189000_26, .int .u64 x189001_26, .int .u64 x189002_26, .int .i64 x189003_26] 26 (0, 0))) ∧ Aside0 (Below w.heap.size w wc))
          case first =>
            have H := HC27.out
            clear HC27
            by_cases c31 : a0_3 > a1_3
            · rw [if_pos c31] at H
              have c31b0 : decide (a1_3 < a0_3) = true := decide_eq_true c31
              clear c31
              (first | rw [c31b0] | (simp only [i64_w, i32_w]; rw [c31b0]) | skip)
              have H' := Aside0.mk H
              clear H
              have hnb32 := NB188_187.out
              have hnc32 := NB187_188.out
              have hcz33_0 : wc.cell? ⟨gb188, 0, none⟩ = some (.bool a1_0) := (blk_cell BK188.out 0).trans rfl
              have hcz33_1 : wc.cell? ⟨gb188, 1, none⟩ = some (.int .u64 a1_1) := (blk_cell BK188.out 1).trans rfl
              have hcz33_2 : wc.cell? ⟨gb188, 2, none⟩ = some (.int .u64 a1_2) := (blk_cell BK188.out 2).trans rfl
              have hcz33_3 : wc.cell? ⟨gb188, 3, none⟩ = some (.int .i64 a1_3) := (blk_cell BK188.out 3).trans rfl
              have hfz33_0 := blk_frozen BK188.out 0
              have hfz33_1 := blk_frozen BK188.out 1
              have hfz33_2 := blk_frozen BK188.out 2
              have hfz33_3 := blk_frozen BK188.out 3
              have hcz34_0 : wc.cell? ⟨gb187, 0, none⟩ = some (.bool a0_0) := (blk_cell BK187.out 0).trans rfl
              have hcz34_1 : wc.cell? ⟨gb187, 1, none⟩ = some (.int .u64 a0_1) := (blk_cell BK187.out 1).trans rfl
              have hcz34_2 : wc.cell? ⟨gb187, 2, none⟩ = some (.int .u64 a0_2) := (blk_cell BK187.out 2).trans rfl
              have hcz34_3 : wc.cell? ⟨gb187, 3, none⟩ = some (.int .i64 a0_3) := (blk_cell BK187.out 3).trans rfl
              have hfz34_0 := blk_frozen BK187.out 0
              have hfz34_1 := blk_frozen BK187.out 1
              have hfz34_2 := blk_frozen BK187.out 2
              have hfz34_3 := blk_frozen BK187.out 3
              go_wp2
              go_meet
              case rel => exact ⟨_, (a1_0), (a1_1), (a1_2), (a1_3), (a0_0), (a0_1), (a0_2), (a0_3), H', ⟨by have := HJ5.out; first | omega | exact Nat.le_refl _⟩, ⟨by (with_reducible repeat (first | refine blk_drewN ?_ _ | refine blk_drew ?_ | refine blk_alloc ?_ _)); refine blk_far ?_ NB187_188.out _; (with_reducible repeat (first | refine blk_drewN ?_ _ | refine blk_drew ?_ | refine blk_alloc ?_ _)); refine blk_far ?_ NB187_188.out _; (with_reducible repeat (first | refine blk_drewN ?_ _ | refine blk_drew ?_ | refine blk_alloc ?_ _)); refine blk_far ?_ NB187_188.out _; (with_reducible repeat (first | refine blk_drewN ?_ _ | refine blk_drew ?_ | refine blk_alloc ?_ _)); refine blk_far ?_ NB187_188.out _; (with_reducible repeat (first | refine blk_drewN ?_ _ | refine blk_drew ?_ | refine blk_alloc ?_ _)); refine blk_put (cs := #[.bool a1_0, .int .u64 a1_1, .int .u64 a1_2, .int .i64 a0_3]) ?_ 3 _ rfl; (with_reducible repeat (first | refine blk_drewN ?_ _ | refine blk_drew ?_ | refine blk_alloc ?_ _)); refine blk_put (cs := #[.bool a1_0, .int .u64 a1_1, .int .u64 a0_2, .int .i64 a0_3]) ?_ 2 _ rfl; (with_reducible repeat (first | refine blk_drewN ?_ _ | refine blk_drew ?_ | refine blk_alloc ?_ _)); refine blk_put (cs := #[.bool a1_0, .int .u64 a0_1, .int .u64 a0_2, .int .i64 a0_3]) ?_ 1 _ rfl; (with_reducible repeat (first | refine blk_drewN ?_ _ | refine blk_drew ?_ | refine blk_alloc ?_ _)); refine blk_put (cs := #[.bool a0_0, .int .u64 a0_1, .int .u64 a0_2, .int .i64 a0_3]) ?_ 0 _ rfl; (with_reducible repeat (first | refine blk_drewN ?_ _ | refine blk_drew ?_ | refine blk_alloc ?_ _)); exact BK187.out⟩, ⟨by (with_reducible repeat (first | refine blk_drewN ?_ _ | refine blk_drew ?_ | refine blk_alloc ?_ _)); refine blk_put (cs := #[.bool a0_0, .int .u64 a0_1, .int .u64 a0_2, .int .i64 a1_3]) ?_ 3 _ rfl; (with_reducible repeat (first | refine blk_drewN ?_ _ | refine blk_drew ?_ | refine blk_alloc ?_ _)); refine blk_put (cs := #[.bool a0_0, .int .u64 a0_1, .int .u64 a1_2, .int .i64 a1_3]) ?_ 2 _ rfl; (with_reducible repeat (first | refine blk_drewN ?_ _ | refine blk_drew ?_ | refine blk_alloc ?_ _)); refine blk_put (cs := #[.bool a0_0, .int .u64 a1_1, .int .u64 a1_2, .int .i64 a1_3]) ?_ 1 _ rfl; (with_reducible repeat (first | refine blk_drewN ?_ _ | refine blk_drew ?_ | refine blk_alloc ?_ _)); refine blk_put (cs := #[.bool a1_0, .int .u64 a1_1, .int .u64 a1_2, .int .i64 a1_3]) ?_ 0 _ rfl; (with_reducible repeat (first | refine blk_drewN ?_ _ | refine blk_drew ?_ | refine blk_alloc ?_ _)); refine blk_far ?_ NB188_187.out _; (with_reducible repeat (first | refine blk_drewN ?_ _ | refine blk_drew ?_ | refine blk_alloc ?_ _)); refine blk_far ?_ NB188_187.out _; (with_reducible repeat (first | refine blk_drewN ?_ _ | refine blk_drew ?_ | refine blk_alloc ?_ _)); refine blk_far ?_ NB188_187.out _; (with_reducible repeat (first | refine blk_drewN ?_ _ | refine blk_drew ?_ | refine blk_alloc ?_ _)); refine blk_far ?_ NB188_187.out _; (with_reducible repeat (first | refine blk_drewN ?_ _ | refine blk_drew ?_ | refine blk_alloc ?_ _)); exact BK188.out⟩, ⟨by repeat (first | (with_reducible first | exact HB.out | apply below_alloc | apply pw_below_drewN | apply below_drew1 | refine below_set ?_ GE187.out | refine below_set ?_ GE188.out) | exact HB.out)⟩⟩
            · rw [if_neg c31] at H
              have c31b0 : decide (a1_3 < a0_3) = false := decide_eq_false c31
              clear c31
              (first | rw [c31b0] | (simp only [i64_w, i32_w]; rw [c31b0]) | skip)
              have H' := Aside0.mk H
              clear H
              go_wp2
              go_meet
              case rel => exact ⟨_, (a0_0), (a0_1), (a0_2), (a0_3), (a1_0), (a1_1), (a1_2), (a1_3), H', ⟨by have := HJ5.out; first | omega | exact Nat.le_refl _⟩, ⟨by (with_reducible repeat (first | refine blk_drewN ?_ _ | refine blk_drew ?_ | refine blk_alloc ?_ _)); exact BK187.out⟩, ⟨by (with_reducible repeat (first | refine blk_drewN ?_ _ | refine blk_drew ?_ | refine blk_alloc ?_ _)); exact BK188.out⟩, ⟨by repeat (first | (with_reducible first | exact HB.out | apply below_alloc | apply pw_below_drewN | apply below_drew1 | refine below_set ?_ GE187.out | refine below_set ?_ GE188.out) | exact HB.out)⟩⟩
          case rest =>
            clear HC27
            try clear c1
            try clear c2
            try clear p2
            try clear c3
            try clear c5
            try clear c6
            try clear c7
            try clear c8
            try clear c11
            try clear c11b0
            try clear c11b1
            try clear c13
            try clear c18
            try clear c21
            try clear c23
            try clear c28
            try clear c31
            try clear c31b0
            try clear c32
            try clear hcz14_0
            try clear hcz14_1
            try clear hcz14_2
            try clear hcz14_3
            try clear hcz16_0
            try clear hcz16_1
            try clear hcz16_2
            try clear hcz16_3
            try clear hcz19_0
            try clear hcz19_1
            try clear hcz19_2
            try clear hcz19_3
            try clear hcz24_0
            try clear hcz24_1
            try clear hcz24_2
            try clear hcz24_3
            try clear hcz25_0
            try clear hcz25_1
            try clear hcz25_2
            try clear hcz25_3
            try clear hcz29_0
            try clear hcz29_1
            try clear hcz29_2
            try clear hcz29_3
            try clear hcz30_0
            try clear hcz30_1
            try clear hcz30_2
            try clear hcz30_3
            try clear hcz33_0
            try clear hcz33_1
            try clear hcz33_2
            try clear hcz33_3
            try clear hcz34_0
            try clear hcz34_1
            try clear hcz34_2
            try clear hcz34_3
            try clear hfz14_0
            try clear hfz14_1
            try clear hfz14_2
            try clear hfz14_3
            try clear hfz16_0
            try clear hfz16_1
            try clear hfz16_2
            try clear hfz16_3
            try clear hfz19_0
            try clear hfz19_1
            try clear hfz19_2
            try clear hfz19_3
            try clear hfz24_0
            try clear hfz24_1
            try clear hfz24_2
            try clear hfz24_3
            try clear hfz25_0
            try clear hfz25_1
            try clear hfz25_2
            try clear hfz25_3
            try clear hfz29_0
            try clear hfz29_1
            try clear hfz29_2
            try clear hfz29_3
            try clear hfz30_0
            try clear hfz30_1
            try clear hfz30_2
            try clear hfz30_3
            try clear hfz33_0
            try clear hfz33_1
            try clear hfz33_2
            try clear hfz33_3
            try clear hfz34_0
            try clear hfz34_1
            try clear hfz34_2
            try clear hfz34_3
            try clear p2
            obtain ⟨kq, x188000_26, x188001_26, x188002_26, x188003_26, x189000_26, x189001_26, x189002_26, x189003_26, HA, HJ26, BK187, BK188, HB⟩ := hcut
            cases kq with
            | zero => exact absurd HA.out (by simp [nameplatelaw05_RangesMeet.j1])
            | succ kj26 =>
              have H := HA.out
              clear HA
              simp only [nameplatelaw05_RangesMeet.j1] at H
              replace H := Option.bind_eq_some_iff.mp H
              obtain ⟨t193, A350, H⟩ := H
              replace H : ((ranges_Size.f x189000_26 x189001_26 x189002_26 x189003_26).bind fun t194 => ((nameplatekit_Pick.f a2 t194).bind fun t195 => ((ranges_At.f x189000_26 x189001_26 x189002_26 x189003_26 t195).bind fun bt196 => (if bt196.2.2.2 = true then ((ranges_Meet.f x189000_26 x189001_26 x189002_26 x189003_26 x188000_26 x188001_26 x188002_26 x188003_26).bind fun t201 => (if (t193 == t201) = true then ((ranges_Has.f x188000_26 x188001_26 x188002_26 x188003_26 x189000_26 x189001_26 x189002_26).bind fun t202 => (if (t193 == t202) = true then ((ranges_Has.f x188000_26 x188001_26 x188002_26 x188003_26 bt196.1 bt196.2.1 bt196.2.2.1).bind fun t203 => (if (t203 == t193) = true then ((ranges_Meet.f x188000_26 x188001_26 x188002_26 x188003_26 x188000_26 x188001_26 x188002_26 x188003_26).bind fun t204 => (some t204)) else (some false))) else (some false))) else (some false))) else (some false))))) = some r := H
              have A35 := Aside0.mk A350
              clear A350
              replace H := Option.bind_eq_some_iff.mp H
              obtain ⟨t194, A360, H⟩ := H
              replace H : ((nameplatekit_Pick.f a2 t194).bind fun t195 => ((ranges_At.f x189000_26 x189001_26 x189002_26 x189003_26 t195).bind fun bt196 => (if bt196.2.2.2 = true then ((ranges_Meet.f x189000_26 x189001_26 x189002_26 x189003_26 x188000_26 x188001_26 x188002_26 x188003_26).bind fun t201 => (if (t193 == t201) = true then ((ranges_Has.f x188000_26 x188001_26 x188002_26 x188003_26 x189000_26 x189001_26 x189002_26).bind fun t202 => (if (t193 == t202) = true then ((ranges_Has.f x188000_26 x188001_26 x188002_26 x188003_26 bt196.1 bt196.2.1 bt196.2.2.1).bind fun t203 => (if (t203 == t193) = true then ((ranges_Meet.f x188000_26 x188001_26 x188002_26 x188003_26 x188000_26 x188001_26 x188002_26 x188003_26).bind fun t204 => (some t204)) else (some false))) else (some false))) else (some false))) else (some false)))) = some r := H
              have A36 := Aside0.mk A360
              clear A360
              replace H := Option.bind_eq_some_iff.mp H
              obtain ⟨t195, A370, H⟩ := H
              replace H : ((ranges_At.f x189000_26 x189001_26 x189002_26 x189003_26 t195).bind fun bt196 => (if bt196.2.2.2 = true then ((ranges_Meet.f x189000_26 x189001_26 x189002_26 x189003_26 x188000_26 x188001_26 x188002_26 x188003_26).bind fun t201 => (if (t193 == t201) = true then ((ranges_Has.f x188000_26 x188001_26 x188002_26 x188003_26 x189000_26 x189001_26 x189002_26).bind fun t202 => (if (t193 == t202) = true then ((ranges_Has.f x188000_26 x188001_26 x188002_26 x188003_26 bt196.1 bt196.2.1 bt196.2.2.1).bind fun t203 => (if (t203 == t193) = true then ((ranges_Meet.f x188000_26 x188001_26 x188002_26 x188003_26 x188000_26 x188001_26 x188002_26 x188003_26).bind fun t204 => (some t204)) else (some false))) else (some false))) else (some false))) else (some false))) = some r := H
              have A37 := Aside0.mk A370
              clear A370
              replace H := Option.bind_eq_some_iff.mp H
              obtain ⟨⟨t196, t197, t198, t199⟩, A380, H⟩ := H
              replace H : (if t199 = true then ((ranges_Meet.f x189000_26 x189001_26 x189002_26 x189003_26 x188000_26 x188001_26 x188002_26 x188003_26).bind fun t201 => (if (t193 == t201) = true then ((ranges_Has.f x188000_26 x188001_26 x188002_26 x188003_26 x189000_26 x189001_26 x189002_26).bind fun t202 => (if (t193 == t202) = true then ((ranges_Has.f x188000_26 x188001_26 x188002_26 x188003_26 t196 t197 t198).bind fun t203 => (if (t203 == t193) = true then ((ranges_Meet.f x188000_26 x188001_26 x188002_26 x188003_26 x188000_26 x188001_26 x188002_26 x188003_26).bind fun t204 => (some t204)) else (some false))) else (some false))) else (some false))) else (some false)) = some r := H
              have A38 := Aside0.mk A380
              clear A380
              by_cases c39 : t199 = true
              · subst c39
                have H1 : ((ranges_Meet.f x189000_26 x189001_26 x189002_26 x189003_26 x188000_26 x188001_26 x188002_26 x188003_26).bind fun t201 => (if (t193 == t201) = true then ((ranges_Has.f x188000_26 x188001_26 x188002_26 x188003_26 x189000_26 x189001_26 x189002_26).bind fun t202 => (if (t193 == t202) = true then ((ranges_Has.f x188000_26 x188001_26 x188002_26 x188003_26 t196 t197 t198).bind fun t203 => (if (t203 == t193) = true then ((ranges_Meet.f x188000_26 x188001_26 x188002_26 x188003_26 x188000_26 x188001_26 x188002_26 x188003_26).bind fun t204 => (some t204)) else (some false))) else (some false))) else (some false))) = some r := by rw [if_pos rfl] at H; exact H
                clear H
                have H := H1
                clear H1
                replace H := Option.bind_eq_some_iff.mp H
                obtain ⟨t201, A400, H⟩ := H
                replace H : (if (t193 == t201) = true then ((ranges_Has.f x188000_26 x188001_26 x188002_26 x188003_26 x189000_26 x189001_26 x189002_26).bind fun t202 => (if (t193 == t202) = true then ((ranges_Has.f x188000_26 x188001_26 x188002_26 x188003_26 t196 t197 t198).bind fun t203 => (if (t203 == t193) = true then ((ranges_Meet.f x188000_26 x188001_26 x188002_26 x188003_26 x188000_26 x188001_26 x188002_26 x188003_26).bind fun t204 => (some t204)) else (some false))) else (some false))) else (some false)) = some r := H
                have A40 := Aside0.mk A400
                clear A400
                by_cases c41 : (t193 == t201) = true
                · rw [if_pos c41] at H
                  have c41b0 : (t193 == t201) = true := c41
                  (try (have c41b1 : decide (t193 = t201) = true := by simpa using c41))
                  (try (have c41b2 : (t193 == t201) = true := by simpa using c41))
                  clear c41
                  replace H := Option.bind_eq_some_iff.mp H
                  obtain ⟨t202, A420, H⟩ := H
                  replace H : (if (t193 == t202) = true then ((ranges_Has.f x188000_26 x188001_26 x188002_26 x188003_26 t196 t197 t198).bind fun t203 => (if (t203 == t193) = true then ((ranges_Meet.f x188000_26 x188001_26 x188002_26 x188003_26 x188000_26 x188001_26 x188002_26 x188003_26).bind fun t204 => (some t204)) else (some false))) else (some false)) = some r := H
                  have A42 := Aside0.mk A420
                  clear A420
                  by_cases c43 : (t193 == t202) = true
                  · rw [if_pos c43] at H
                    have c43b0 : (t193 == t202) = true := c43
                    (try (have c43b1 : decide (t193 = t202) = true := by simpa using c43))
                    (try (have c43b2 : (t193 == t202) = true := by simpa using c43))
                    clear c43
                    replace H := Option.bind_eq_some_iff.mp H
                    obtain ⟨t203, A440, H⟩ := H
                    replace H : (if (t203 == t193) = true then ((ranges_Meet.f x188000_26 x188001_26 x188002_26 x188003_26 x188000_26 x188001_26 x188002_26 x188003_26).bind fun t204 => (some t204)) else (some false)) = some r := H
                    have A44 := Aside0.mk A440
                    clear A440
                    by_cases c45 : (t203 == t193) = true
                    · rw [if_pos c45] at H
                      have c45b0 : (t203 == t193) = true := c45
                      (try (have c45b1 : decide (t203 = t193) = true := by simpa using c45))
                      (try (have c45b2 : (t203 == t193) = true := by simpa using c45))
                      clear c45
                      replace H := Option.bind_eq_some_iff.mp H
                      obtain ⟨t204, A460, H⟩ := H
                      replace H : (some t204) = some r := H
                      have A46 := Aside0.mk A460
                      clear A460
                      obtain rfl := Option.some.inj H
                      have hnb47 := NB187_188.out
                      have hnc47 := NB188_187.out
                      have hcz48_0 : wc.cell? ⟨gb187, 0, none⟩ = some (.bool x188000_26) := (blk_cell BK187.out 0).trans rfl
                      have hcz48_1 : wc.cell? ⟨gb187, 1, none⟩ = some (.int .u64 x188001_26) := (blk_cell BK187.out 1).trans rfl
                      have hcz48_2 : wc.cell? ⟨gb187, 2, none⟩ = some (.int .u64 x188002_26) := (blk_cell BK187.out 2).trans rfl
                      have hcz48_3 : wc.cell? ⟨gb187, 3, none⟩ = some (.int .i64 x188003_26) := (blk_cell BK187.out 3).trans rfl
                      have hfz48_0 := blk_frozen BK187.out 0
                      have hfz48_1 := blk_frozen BK187.out 1
                      have hfz48_2 := blk_frozen BK187.out 2
                      have hfz48_3 := blk_frozen BK187.out 3
                      have hcz49_0 : wc.cell? ⟨gb188, 0, none⟩ = some (.bool x189000_26) := (blk_cell BK188.out 0).trans rfl
                      have hcz49_1 : wc.cell? ⟨gb188, 1, none⟩ = some (.int .u64 x189001_26) := (blk_cell BK188.out 1).trans rfl
                      have hcz49_2 : wc.cell? ⟨gb188, 2, none⟩ = some (.int .u64 x189002_26) := (blk_cell BK188.out 2).trans rfl
                      have hcz49_3 : wc.cell? ⟨gb188, 3, none⟩ = some (.int .i64 x189003_26) := (blk_cell BK188.out 3).trans rfl
                      have hfz49_0 := blk_frozen BK188.out 0
                      have hfz49_1 := blk_frozen BK188.out 1
                      have hfz49_2 := blk_frozen BK188.out 2
                      have hfz49_3 := blk_frozen BK188.out 3
                      try go_wp2_with (first | ((with_reducible refine gate_callee (f := 8) rfl ?_); refine goesL_ (some 33) rfl rfl Tryd.func8 (by kernel_rfl) rfl #[.agg #[.bool x188000_26, .int .u64 x188001_26, .int .u64 x188002_26, .int .i64 x188003_26], .agg #[.bool x189000_26, .int .u64 x189001_26, .int .u64 x189002_26, .int .i64 x189003_26]] rfl (by (try simp only [List.map_toArray, List.map_cons, List.map_nil]); first | done | rfl | (simp only [List.length_drop, List.length_take]; rfl)) ?_; (with_reducible refine (ranges_Meet.calls x188000_26 x188001_26 x188002_26 x188003_26 x189000_26 x189001_26 x189002_26 x189003_26 t193 _ A35.out).mono ?_); rintro e w50 ⟨rfl, hb⟩; refine ⟨_, rfl, ?_⟩; have n0_ := Aside0.mk (blk_below (g := gb187) (o := .cells #[.bool x188000_26, .int .u64 x188001_26, .int .u64 x188002_26, .int .i64 x188003_26] 26 (0, 0)) (by (with_reducible repeat (first | refine blk_drewN ?_ _ | refine blk_drew ?_ | refine blk_alloc ?_ _)); exact BK187.out) hb); have n1_ := Aside0.mk (blk_below (g := gb188) (o := .cells #[.bool x189000_26, .int .u64 x189001_26, .int .u64 x189002_26, .int .i64 x189003_26] 26 (0, 0)) (by (with_reducible repeat (first | refine blk_drewN ?_ _ | refine blk_drew ?_ | refine blk_alloc ?_ _)); exact BK188.out) hb); have n2_ := Aside0.mk (below_step (by repeat (first | (with_reducible first | exact HB.out | apply below_alloc | apply pw_below_drewN | apply below_drew1 | refine below_set ?_ GE187.out | refine below_set ?_ GE188.out) | exact HB.out)) hb); clear BK187; clear BK188; clear HB; have BK187 := n0_; have BK188 := n1_; have HB := n2_; clear n0_ n1_ n2_; (try clear hb); (try clear hb2); (try clear hk); (try clear hi)))
                      have n0_ := Aside0.mk (blk_drew BK187.out)
                      have n1_ := Aside0.mk (blk_drew BK188.out)
                      have n2_ := Aside0.mk (below_drew1 HB.out)
                      clear BK187
                      clear BK188
                      clear HB
                      have BK187 := n0_
                      have BK188 := n1_
                      have HB := n2_
                      clear n0_ n1_ n2_
                      refine start_ (n := 12) (S := fun w' => w'.cell? ⟨gb188, 0, none⟩ = some (.bool x189000_26) ∧ w'.cell? ⟨gb188, 1, none⟩ = some (.int .u64 x189001_26) ∧ w'.cell? ⟨gb188, 2, none⟩ = some (.int .u64 x189002_26) ∧ w'.cell? ⟨gb188, 3, none⟩ = some (.int .i64 x189003_26)) (ds := []) #[false, false, false, false, false, false, false, false, false, false, false, false] (by kernel_rfl) rfl rfl ⟨(blk_cell BK188.out 0).trans rfl, (blk_cell BK188.out 1).trans rfl, (blk_cell BK188.out 2).trans rfl, (blk_cell BK188.out 3).trans rfl⟩ (fun hHeld => ?_); refine with_tabW nameplatelaw05_RangesMeet.tab8 nameplatelaw05_RangesMeet.bits8 (fun HT_ HW_ => ?_)
                      generalize w50.drew = w51 at BK187 BK188 HB hHeld ⊢
                      refine pure_ (i := 1) (N := some 36) (v := ?_) (a' := ?_) #[false, true, false, false, false, false, false, false, false, false, false, false] rfl rfl (any_of HT_.out (by kernel_rfl)) (fun _ _ _ h => h) (Or.inl ⟨by rfl, ?_⟩) ?_ ?_
                      rotate_left
                      · intro w'
                        go_simp
                        with_reducible rfl
                      rotate_left
                      · simp only [Act.put, List.setIfInBounds_toArray, List.set_cons_zero, List.set_cons_succ, i64_w, i32_w]
                        rfl
                      refine take_ (i := 0) (N := some 35) (v := ?_) (a' := ?_) #[true, true, false, false, false, false, false, false, false, false, false, false] rfl rfl (take_ofW HT_.out HW_.out (by kernel_rfl)) (fun _ _ _ h => h) (Or.inl ⟨by rfl, ?_⟩) hHeld ?_ ?_
                      rotate_left
                      · rintro w' ⟨s0, s1, s2, s3⟩
                        go_simp
                        with_reducible rfl
                      rotate_left
                      · simp only [Act.put, List.setIfInBounds_toArray, List.set_cons_zero, List.set_cons_succ, i64_w, i32_w]
                        rfl
                      refine take_ (i := 2) (N := some 37) (v := ?_) (a' := ?_) #[true, true, true, false, false, false, false, false, false, false, false, false] rfl rfl (take_ofW HT_.out HW_.out (by kernel_rfl)) (fun _ _ _ h => h) (Or.inl ⟨by rfl, ?_⟩) hHeld ?_ ?_
                      rotate_left
                      · rintro w' ⟨s0, s1, s2, s3⟩
                        go_simp
                        with_reducible rfl
                      rotate_left
                      · simp only [Act.put, List.setIfInBounds_toArray, List.set_cons_zero, List.set_cons_succ, i64_w, i32_w]
                        rfl
                      refine join_ (σ := Nat) 2 #[true, true, true, true, true, true, true, true, true, true, false, false] (fun s_ => [(38, .int .i64 t194), (39, .int .i64 t195), (40, .tuple #[.agg #[.bool t196, .int .u64 t197, .int .u64 t198], .bool true]), (8, .pointer (some ⟨s_, 0, none⟩)), (34, .tuple #[.agg #[.bool t196, .int .u64 t197, .int .u64 t198], .bool true]), (41, .agg #[.bool t196, .int .u64 t197, .int .u64 t198]), (42, .bool true)]) (fun s_ w' => (w'.cell? ⟨gb188, 0, none⟩ = some (.bool x189000_26) ∧ w'.cell? ⟨gb188, 1, none⟩ = some (.int .u64 x189001_26) ∧ w'.cell? ⟨gb188, 2, none⟩ = some (.int .u64 x189002_26) ∧ w'.cell? ⟨gb188, 3, none⟩ = some (.int .i64 x189003_26)) ∧ (w'.heap[gb187]? = some (.cells #[.bool x188000_26, .int .u64 x188001_26, .int .u64 x188002_26, .int .i64 x188003_26] 26 (0, 0))) ∧ (w'.heap[gb188]? = some (.cells #[.bool x189000_26, .int .u64 x189001_26, .int .u64 x189002_26, .int .i64 x189003_26] 26 (0, 0))) ∧ (w'.heap[s_]? = some (.cells #[.bool false, .int .u64 0, .int .u64 0] 24 (0, 0))) ∧ (w.heap.size ≤ s_) ∧ (w.heap.size ≤ s_) ∧ (gb187 ≠ s_) ∧ (s_ ≠ gb187) ∧ (gb188 ≠ s_) ∧ (s_ ≠ gb188) ∧ (Below w.heap.size w w')) ?_ ?_
                      rotate_left
                      · intro hCont
                        refine two_ (i := 3) (j := 9) (Ni := some 38) (Nj := some 8) #[true, true, true, true, false, false, false, false, false, false, false, false] #[true, true, true, false, false, false, false, false, false, true, false, false] rfl rfl rfl rfl (two_of HT_.out (by kernel_rfl)) (by decide) (by decide) (fun K hK => ?_) (fun K hK => ?_)
                        · skip
                          refine goes_ Tryd.func11 (by kernel_rfl) rfl #[.agg #[.bool x189000_26, .int .u64 x189001_26, .int .u64 x189002_26, .int .i64 x189003_26]] (by rfl) rfl rfl (by (try simp only [List.map_toArray, List.map_cons, List.map_nil]); first | done | rfl | (simp only [List.length_drop, List.length_take]; rfl)) ?_
                          with_reducible refine (ranges_Size.calls x189000_26 x189001_26 x189002_26 x189003_26 t194 _ A36.out).mono ?_
                          rintro e w52 ⟨rfl, hb⟩
                          refine ⟨_, rfl, ?_⟩
                          have n0_ := Aside0.mk (blk_below (g := gb187) (o := .cells #[.bool x188000_26, .int .u64 x188001_26, .int .u64 x188002_26, .int .i64 x188003_26] 26 (0, 0)) (by (with_reducible repeat (first | refine blk_drewN ?_ _ | refine blk_drew ?_ | refine blk_alloc ?_ _)); exact BK187.out) hb)
                          have n1_ := Aside0.mk (blk_below (g := gb188) (o := .cells #[.bool x189000_26, .int .u64 x189001_26, .int .u64 x189002_26, .int .i64 x189003_26] 26 (0, 0)) (by (with_reducible repeat (first | refine blk_drewN ?_ _ | refine blk_drew ?_ | refine blk_alloc ?_ _)); exact BK188.out) hb)
                          have n2_ := Aside0.mk (below_step (by repeat (first | (with_reducible first | exact HB.out | apply below_alloc | apply pw_below_drewN | apply below_drew1 | refine below_set ?_ GE187.out | refine below_set ?_ GE188.out) | exact HB.out)) hb)
                          clear BK187
                          clear BK188
                          clear HB
                          have BK187 := n0_
                          have BK188 := n1_
                          have HB := n2_
                          clear n0_ n1_ n2_
                          (try clear hb)
                          (try clear hb2)
                          (try clear hk)
                          (try clear hi)
                          refine hK.out _ _ ⟨(blk_cell BK188.out 0).trans rfl, (blk_cell BK188.out 1).trans rfl, (blk_cell BK188.out 2).trans rfl, (blk_cell BK188.out 3).trans rfl⟩ (fun hHeld => ?_)
                          clear hK K
                          refine norm_ (a' := ?_) ?_ ?_
                          rotate_left
                          · show Act.put _ (some 38) _ = _
                            simp only [Act.put, List.setIfInBounds_toArray, List.set_cons_zero, List.set_cons_succ, i64_w, i32_w]
                            rfl
                          refine two_ (i := 4) (j := 9) (Ni := some 39) (Nj := some 8) #[true, true, true, true, true, false, false, false, false, false, false, false] #[true, true, true, true, false, false, false, false, false, true, false, false] rfl rfl rfl rfl (two_of HT_.out (by kernel_rfl)) (by decide) (by decide) (fun K hK => ?_) (fun K hK => ?_)
                          · skip
                            refine goes_ Tryd.func10 (by kernel_rfl) rfl #[.int .i64 a2, .int .i64 t194] (by rfl) rfl rfl (by (try simp only [List.map_toArray, List.map_cons, List.map_nil]); first | done | rfl | (simp only [List.length_drop, List.length_take]; rfl)) ?_
                            with_reducible refine (nameplatekit_Pick.calls a2 t194 t195 _ A37.out).mono ?_
                            rintro e w' ⟨rfl, ⟨nd, rfl⟩⟩
                            refine ⟨_, rfl, ?_⟩
                            refine hK.out _ _ ⟨(blk_cell BK188.out 0).trans rfl, (blk_cell BK188.out 1).trans rfl, (blk_cell BK188.out 2).trans rfl, (blk_cell BK188.out 3).trans rfl⟩ (fun hHeld => ?_)
                            clear hK K
                            refine norm_ (a' := ?_) ?_ ?_
                            rotate_left
                            · show Act.put _ (some 39) _ = _
                              simp only [Act.put, List.setIfInBounds_toArray, List.set_cons_zero, List.set_cons_succ, i64_w, i32_w]
                              rfl
                            refine two_ (i := 5) (j := 9) (Ni := some 40) (Nj := some 8) #[true, true, true, true, true, true, false, false, false, false, false, false] #[true, true, true, true, true, false, false, false, false, true, false, false] rfl rfl rfl rfl (two_of HT_.out (by kernel_rfl)) (by decide) (by decide) (fun K hK => ?_) (fun K hK => ?_)
                            · skip
                              refine goes_ Tryd.func9 (by kernel_rfl) rfl #[.agg #[.bool x189000_26, .int .u64 x189001_26, .int .u64 x189002_26, .int .i64 x189003_26], .int .i64 t195] (by rfl) rfl rfl (by (try simp only [List.map_toArray, List.map_cons, List.map_nil]); first | done | rfl | (simp only [List.length_drop, List.length_take]; rfl)) ?_
                              with_reducible refine (ranges_At.calls x189000_26 x189001_26 x189002_26 x189003_26 t195 t196 t197 t198 true _ A38.out).mono ?_
                              rintro e w53 ⟨rfl, hb⟩
                              refine ⟨_, rfl, ?_⟩
                              have n0_ := Aside0.mk (blk_below (g := gb187) (o := .cells #[.bool x188000_26, .int .u64 x188001_26, .int .u64 x188002_26, .int .i64 x188003_26] 26 (0, 0)) (by (with_reducible repeat (first | refine blk_drewN ?_ _ | refine blk_drew ?_ | refine blk_alloc ?_ _)); exact BK187.out) hb)
                              have n1_ := Aside0.mk (blk_below (g := gb188) (o := .cells #[.bool x189000_26, .int .u64 x189001_26, .int .u64 x189002_26, .int .i64 x189003_26] 26 (0, 0)) (by (with_reducible repeat (first | refine blk_drewN ?_ _ | refine blk_drew ?_ | refine blk_alloc ?_ _)); exact BK188.out) hb)
                              have n2_ := Aside0.mk (below_step (by repeat (first | (with_reducible first | exact HB.out | apply below_alloc | apply pw_below_drewN | apply below_drew1 | refine below_set ?_ GE187.out | refine below_set ?_ GE188.out) | exact HB.out)) hb)
                              clear BK187
                              clear BK188
                              clear HB
                              have BK187 := n0_
                              have BK188 := n1_
                              have HB := n2_
                              clear n0_ n1_ n2_
                              (try clear hb)
                              (try clear hb2)
                              (try clear hk)
                              (try clear hi)
                              refine hK.out _ _ ⟨(blk_cell BK188.out 0).trans rfl, (blk_cell BK188.out 1).trans rfl, (blk_cell BK188.out 2).trans rfl, (blk_cell BK188.out 3).trans rfl⟩ (fun hHeld => ?_)
                              clear hK K
                              refine norm_ (a' := ?_) ?_ ?_
                              rotate_left
                              · show Act.put _ (some 40) _ = _
                                simp only [Act.put, List.setIfInBounds_toArray, List.set_cons_zero, List.set_cons_succ, i64_w, i32_w]
                                rfl
                              refine pure_ (i := 6) (N := some 34) (v := ?_) (a' := ?_) #[true, true, true, true, true, true, true, false, false, false, false, false] rfl rfl (any_of HT_.out (by kernel_rfl)) (fun _ _ _ h => h) (Or.inl ⟨by rfl, ?_⟩) ?_ ?_
                              rotate_left
                              · intro w'
                                go_simp
                                with_reducible rfl
                              rotate_left
                              · simp only [Act.put, List.setIfInBounds_toArray, List.set_cons_zero, List.set_cons_succ, i64_w, i32_w]
                                rfl
                              refine pure_ (i := 7) (N := some 41) (v := ?_) (a' := ?_) #[true, true, true, true, true, true, true, true, false, false, false, false] rfl rfl (any_of HT_.out (by kernel_rfl)) (fun _ _ _ h => h) (Or.inl ⟨by rfl, ?_⟩) ?_ ?_
                              rotate_left
                              · intro w'
                                go_simp
                                with_reducible rfl
                              rotate_left
                              · simp only [Act.put, List.setIfInBounds_toArray, List.set_cons_zero, List.set_cons_succ, i64_w, i32_w]
                                rfl
                              refine pure_ (i := 8) (N := some 42) (v := ?_) (a' := ?_) #[true, true, true, true, true, true, true, true, true, false, false, false] rfl rfl (any_of HT_.out (by kernel_rfl)) (fun _ _ _ h => h) (Or.inl ⟨by rfl, ?_⟩) ?_ ?_
                              rotate_left
                              · intro w'
                                go_simp
                                with_reducible rfl
                              rotate_left
                              · simp only [Act.put, List.setIfInBounds_toArray, List.set_cons_zero, List.set_cons_succ, i64_w, i32_w]
                                rfl
                              refine one_ (i := 9) (N := some 8) #[true, true, true, true, true, true, true, true, true, true, false, false] rfl rfl (one_of HT_.out (by kernel_rfl)) (by decide) (fun K hK => ?_)
                              refine box_step ?hg (N := 8) ?hd (cs := #[.bool false, .int .u64 0, .int .u64 0]) (t := 24) ?hr ?_; (case hd => rfl); (case hg => rfl); (case hr => first | (go_simp; done) | (go_simp; rfl))
                              intro gb200 hg w54 hbox hb
                              have n0_ := Aside0.mk (blk_below (g := gb187) (o := .cells #[.bool x188000_26, .int .u64 x188001_26, .int .u64 x188002_26, .int .i64 x188003_26] 26 (0, 0)) (by (with_reducible repeat (first | refine blk_drewN ?_ _ | refine blk_drew ?_ | refine blk_alloc ?_ _)); exact BK187.out) hb)
                              have n1_ := Aside0.mk (blk_below (g := gb188) (o := .cells #[.bool x189000_26, .int .u64 x189001_26, .int .u64 x189002_26, .int .i64 x189003_26] 26 (0, 0)) (by (with_reducible repeat (first | refine blk_drewN ?_ _ | refine blk_drew ?_ | refine blk_alloc ?_ _)); exact BK188.out) hb)
                              have n2_ := Aside0.mk (below_step (by repeat (first | (with_reducible first | exact HB.out | apply below_alloc | apply pw_below_drewN | apply below_drew1 | refine below_set ?_ GE187.out | refine below_set ?_ GE188.out) | exact HB.out)) hb)
                              have n3_ := Aside0.mk (hbox)
                              have n4_ := Aside0.mk ((by rw [hg]; exact (below_size (by repeat (first | (with_reducible first | exact HB.out | apply below_alloc | apply pw_below_drewN | apply below_drew1 | refine below_set ?_ GE187.out | refine below_set ?_ GE188.out) | exact HB.out))) : w.heap.size ≤ gb200))
                              have n5_ := Aside0.mk ((by rw [hg]; exact (below_size (by repeat (first | (with_reducible first | exact HB.out | apply below_alloc | apply pw_below_drewN | apply below_drew1 | refine below_set ?_ GE187.out | refine below_set ?_ GE188.out) | exact HB.out))) : w.heap.size ≤ gb200))
                              have n6_ := Aside0.mk ((by rw [hg]; exact Nat.ne_of_lt (blk_lt (g := gb187) (o := .cells #[.bool x188000_26, .int .u64 x188001_26, .int .u64 x188002_26, .int .i64 x188003_26] 26 (0, 0)) (by (with_reducible repeat (first | refine blk_drewN ?_ _ | refine blk_drew ?_ | refine blk_alloc ?_ _)); exact BK187.out)) : gb187 ≠ gb200))
                              have n7_ := Aside0.mk ((by rw [hg]; exact Nat.ne_of_gt (blk_lt (g := gb187) (o := .cells #[.bool x188000_26, .int .u64 x188001_26, .int .u64 x188002_26, .int .i64 x188003_26] 26 (0, 0)) (by (with_reducible repeat (first | refine blk_drewN ?_ _ | refine blk_drew ?_ | refine blk_alloc ?_ _)); exact BK187.out)) : gb200 ≠ gb187))
                              have n8_ := Aside0.mk ((by rw [hg]; exact Nat.ne_of_lt (blk_lt (g := gb188) (o := .cells #[.bool x189000_26, .int .u64 x189001_26, .int .u64 x189002_26, .int .i64 x189003_26] 26 (0, 0)) (by (with_reducible repeat (first | refine blk_drewN ?_ _ | refine blk_drew ?_ | refine blk_alloc ?_ _)); exact BK188.out)) : gb188 ≠ gb200))
                              have n9_ := Aside0.mk ((by rw [hg]; exact Nat.ne_of_gt (blk_lt (g := gb188) (o := .cells #[.bool x189000_26, .int .u64 x189001_26, .int .u64 x189002_26, .int .i64 x189003_26] 26 (0, 0)) (by (with_reducible repeat (first | refine blk_drewN ?_ _ | refine blk_drew ?_ | refine blk_alloc ?_ _)); exact BK188.out)) : gb200 ≠ gb188))
                              clear BK187
                              clear BK188
                              clear HB
                              have BK187 := n0_
                              have BK188 := n1_
                              have HB := n2_
                              have BK200 := n3_
                              have GW200 := n4_
                              have GE200 := n5_
                              have NB187_200 := n6_
                              have NB200_187 := n7_
                              have NB188_200 := n8_
                              have NB200_188 := n9_
                              clear n0_ n1_ n2_ n3_ n4_ n5_ n6_ n7_ n8_ n9_
                              clear hb hbox hg
                              refine hK.out _ _ ⟨(blk_cell BK188.out 0).trans rfl, (blk_cell BK188.out 1).trans rfl, (blk_cell BK188.out 2).trans rfl, (blk_cell BK188.out 3).trans rfl⟩ (fun hHeld => ?_)
                              clear hK K
                              refine norm_ (a' := ?_) ?_ ?_
                              rotate_left
                              · show Act.put _ (some 8) _ = _
                                simp only [Act.put, List.setIfInBounds_toArray, List.set_cons_zero, List.set_cons_succ, i64_w, i32_w]
                                rfl
                              exact norm_ (by simp only [putAll, Act.put, List.setIfInBounds_toArray, List.set_cons_zero, List.set_cons_succ]) (hCont (gb200) _ ⟨hHeld, (by (with_reducible repeat (first | refine blk_drewN ?_ _ | refine blk_drew ?_ | refine blk_alloc ?_ _)); exact BK187.out), (by (with_reducible repeat (first | refine blk_drewN ?_ _ | refine blk_drew ?_ | refine blk_alloc ?_ _)); exact BK188.out), (by (with_reducible repeat (first | refine blk_drewN ?_ _ | refine blk_drew ?_ | refine blk_alloc ?_ _)); exact BK200.out), GW200.out, GE200.out, NB187_200.out, NB200_187.out, NB188_200.out, NB200_188.out, (by repeat (first | (with_reducible first | exact HB.out | apply below_alloc | apply pw_below_drewN | apply below_drew1 | refine below_set ?_ GE187.out | refine below_set ?_ GE188.out | refine below_set ?_ GE200.out) | exact HB.out))⟩)
                            · skip
                              refine box_step ?hg (N := 8) ?hd (cs := #[.bool false, .int .u64 0, .int .u64 0]) (t := 24) ?hr ?_; (case hd => rfl); (case hg => rfl); (case hr => first | (go_simp; done) | (go_simp; rfl))
                              intro gb200 hg w53 hbox hb
                              have n0_ := Aside0.mk (blk_below (g := gb187) (o := .cells #[.bool x188000_26, .int .u64 x188001_26, .int .u64 x188002_26, .int .i64 x188003_26] 26 (0, 0)) (by (with_reducible repeat (first | refine blk_drewN ?_ _ | refine blk_drew ?_ | refine blk_alloc ?_ _)); exact BK187.out) hb)
                              have n1_ := Aside0.mk (blk_below (g := gb188) (o := .cells #[.bool x189000_26, .int .u64 x189001_26, .int .u64 x189002_26, .int .i64 x189003_26] 26 (0, 0)) (by (with_reducible repeat (first | refine blk_drewN ?_ _ | refine blk_drew ?_ | refine blk_alloc ?_ _)); exact BK188.out) hb)
                              have n2_ := Aside0.mk (below_step (by repeat (first | (with_reducible first | exact HB.out | apply below_alloc | apply pw_below_drewN | apply below_drew1 | refine below_set ?_ GE187.out | refine below_set ?_ GE188.out) | exact HB.out)) hb)
                              have n3_ := Aside0.mk (hbox)
                              have n4_ := Aside0.mk ((by rw [hg]; exact (below_size (by repeat (first | (with_reducible first | exact HB.out | apply below_alloc | apply pw_below_drewN | apply below_drew1 | refine below_set ?_ GE187.out | refine below_set ?_ GE188.out) | exact HB.out))) : w.heap.size ≤ gb200))
                              have n5_ := Aside0.mk ((by rw [hg]; exact (below_size (by repeat (first | (with_reducible first | exact HB.out | apply below_alloc | apply pw_below_drewN | apply below_drew1 | refine below_set ?_ GE187.out | refine below_set ?_ GE188.out) | exact HB.out))) : w.heap.size ≤ gb200))
                              have n6_ := Aside0.mk ((by rw [hg]; exact Nat.ne_of_lt (blk_lt (g := gb187) (o := .cells #[.bool x188000_26, .int .u64 x188001_26, .int .u64 x188002_26, .int .i64 x188003_26] 26 (0, 0)) (by (with_reducible repeat (first | refine blk_drewN ?_ _ | refine blk_drew ?_ | refine blk_alloc ?_ _)); exact BK187.out)) : gb187 ≠ gb200))
                              have n7_ := Aside0.mk ((by rw [hg]; exact Nat.ne_of_gt (blk_lt (g := gb187) (o := .cells #[.bool x188000_26, .int .u64 x188001_26, .int .u64 x188002_26, .int .i64 x188003_26] 26 (0, 0)) (by (with_reducible repeat (first | refine blk_drewN ?_ _ | refine blk_drew ?_ | refine blk_alloc ?_ _)); exact BK187.out)) : gb200 ≠ gb187))
                              have n8_ := Aside0.mk ((by rw [hg]; exact Nat.ne_of_lt (blk_lt (g := gb188) (o := .cells #[.bool x189000_26, .int .u64 x189001_26, .int .u64 x189002_26, .int .i64 x189003_26] 26 (0, 0)) (by (with_reducible repeat (first | refine blk_drewN ?_ _ | refine blk_drew ?_ | refine blk_alloc ?_ _)); exact BK188.out)) : gb188 ≠ gb200))
                              have n9_ := Aside0.mk ((by rw [hg]; exact Nat.ne_of_gt (blk_lt (g := gb188) (o := .cells #[.bool x189000_26, .int .u64 x189001_26, .int .u64 x189002_26, .int .i64 x189003_26] 26 (0, 0)) (by (with_reducible repeat (first | refine blk_drewN ?_ _ | refine blk_drew ?_ | refine blk_alloc ?_ _)); exact BK188.out)) : gb200 ≠ gb188))
                              clear BK187
                              clear BK188
                              clear HB
                              have BK187 := n0_
                              have BK188 := n1_
                              have HB := n2_
                              have BK200 := n3_
                              have GW200 := n4_
                              have GE200 := n5_
                              have NB187_200 := n6_
                              have NB200_187 := n7_
                              have NB188_200 := n8_
                              have NB200_188 := n9_
                              clear n0_ n1_ n2_ n3_ n4_ n5_ n6_ n7_ n8_ n9_
                              clear hb hbox hg
                              refine hK.out _ _ ⟨(blk_cell BK188.out 0).trans rfl, (blk_cell BK188.out 1).trans rfl, (blk_cell BK188.out 2).trans rfl, (blk_cell BK188.out 3).trans rfl⟩ (fun hHeld => ?_)
                              clear hK K
                              refine norm_ (a' := ?_) ?_ ?_
                              rotate_left
                              · show Act.put _ (some 8) _ = _
                                simp only [Act.put, List.setIfInBounds_toArray, List.set_cons_zero, List.set_cons_succ, i64_w, i32_w]
                                rfl
                              refine one_ (i := 5) (N := some 40) #[true, true, true, true, true, true, false, false, false, true, false, false] rfl rfl (one_of HT_.out (by kernel_rfl)) (by decide) (fun K hK => ?_)
                              refine goes_ Tryd.func9 (by kernel_rfl) rfl #[.agg #[.bool x189000_26, .int .u64 x189001_26, .int .u64 x189002_26, .int .i64 x189003_26], .int .i64 t195] (by rfl) rfl rfl (by (try simp only [List.map_toArray, List.map_cons, List.map_nil]); first | done | rfl | (simp only [List.length_drop, List.length_take]; rfl)) ?_
                              with_reducible refine (ranges_At.calls x189000_26 x189001_26 x189002_26 x189003_26 t195 t196 t197 t198 true _ A38.out).mono ?_
                              rintro e w54 ⟨rfl, hb⟩
                              refine ⟨_, rfl, ?_⟩
                              have n0_ := Aside0.mk (blk_below (g := gb187) (o := .cells #[.bool x188000_26, .int .u64 x188001_26, .int .u64 x188002_26, .int .i64 x188003_26] 26 (0, 0)) (by (with_reducible repeat (first | refine blk_drewN ?_ _ | refine blk_drew ?_ | refine blk_alloc ?_ _)); exact BK187.out) hb)
                              have n1_ := Aside0.mk (blk_below (g := gb188) (o := .cells #[.bool x189000_26, .int .u64 x189001_26, .int .u64 x189002_26, .int .i64 x189003_26] 26 (0, 0)) (by (with_reducible repeat (first | refine blk_drewN ?_ _ | refine blk_drew ?_ | refine blk_alloc ?_ _)); exact BK188.out) hb)
                              have n2_ := Aside0.mk (blk_below (g := gb200) (o := .cells #[.bool false, .int .u64 0, .int .u64 0] 24 (0, 0)) (by (with_reducible repeat (first | refine blk_drewN ?_ _ | refine blk_drew ?_ | refine blk_alloc ?_ _)); exact BK200.out) hb)
                              have n3_ := Aside0.mk (below_step (by repeat (first | (with_reducible first | exact HB.out | apply below_alloc | apply pw_below_drewN | apply below_drew1 | refine below_set ?_ GE187.out | refine below_set ?_ GE188.out | refine below_set ?_ GE200.out) | exact HB.out)) hb)
                              clear BK187
                              clear BK188
                              clear BK200
                              clear HB
                              have BK187 := n0_
                              have BK188 := n1_
                              have BK200 := n2_
                              have HB := n3_
                              clear n0_ n1_ n2_ n3_
                              (try clear hb)
                              (try clear hb2)
                              (try clear hk)
                              (try clear hi)
                              refine hK.out _ _ ⟨(blk_cell BK188.out 0).trans rfl, (blk_cell BK188.out 1).trans rfl, (blk_cell BK188.out 2).trans rfl, (blk_cell BK188.out 3).trans rfl⟩ (fun hHeld => ?_)
                              clear hK K
                              refine norm_ (a' := ?_) ?_ ?_
                              rotate_left
                              · show Act.put _ (some 40) _ = _
                                simp only [Act.put, List.setIfInBounds_toArray, List.set_cons_zero, List.set_cons_succ, i64_w, i32_w]
                                rfl
                              refine pure_ (i := 6) (N := some 34) (v := ?_) (a' := ?_) #[true, true, true, true, true, true, true, false, false, true, false, false] rfl rfl (any_of HT_.out (by kernel_rfl)) (fun _ _ _ h => h) (Or.inl ⟨by rfl, ?_⟩) ?_ ?_
                              rotate_left
                              · intro w'
                                go_simp
                                with_reducible rfl
                              rotate_left
                              · simp only [Act.put, List.setIfInBounds_toArray, List.set_cons_zero, List.set_cons_succ, i64_w, i32_w]
                                rfl
                              refine pure_ (i := 7) (N := some 41) (v := ?_) (a' := ?_) #[true, true, true, true, true, true, true, true, false, true, false, false] rfl rfl (any_of HT_.out (by kernel_rfl)) (fun _ _ _ h => h) (Or.inl ⟨by rfl, ?_⟩) ?_ ?_
                              rotate_left
                              · intro w'
                                go_simp
                                with_reducible rfl
                              rotate_left
                              · simp only [Act.put, List.setIfInBounds_toArray, List.set_cons_zero, List.set_cons_succ, i64_w, i32_w]
                                rfl
                              refine pure_ (i := 8) (N := some 42) (v := ?_) (a' := ?_) #[true, true, true, true, true, true, true, true, true, true, false, false] rfl rfl (any_of HT_.out (by kernel_rfl)) (fun _ _ _ h => h) (Or.inl ⟨by rfl, ?_⟩) ?_ ?_
                              rotate_left
                              · intro w'
                                go_simp
                                with_reducible rfl
                              rotate_left
                              · simp only [Act.put, List.setIfInBounds_toArray, List.set_cons_zero, List.set_cons_succ, i64_w, i32_w]
                                rfl
                              exact norm_ (by simp only [putAll, Act.put, List.setIfInBounds_toArray, List.set_cons_zero, List.set_cons_succ]) (hCont (gb200) _ ⟨hHeld, (by (with_reducible repeat (first | refine blk_drewN ?_ _ | refine blk_drew ?_ | refine blk_alloc ?_ _)); exact BK187.out), (by (with_reducible repeat (first | refine blk_drewN ?_ _ | refine blk_drew ?_ | refine blk_alloc ?_ _)); exact BK188.out), (by (with_reducible repeat (first | refine blk_drewN ?_ _ | refine blk_drew ?_ | refine blk_alloc ?_ _)); exact BK200.out), GW200.out, GE200.out, NB187_200.out, NB200_187.out, NB188_200.out, NB200_188.out, (by repeat (first | (with_reducible first | exact HB.out | apply below_alloc | apply pw_below_drewN | apply below_drew1 | refine below_set ?_ GE187.out | refine below_set ?_ GE188.out | refine below_set ?_ GE200.out) | exact HB.out))⟩)
                          · skip
                            refine box_step ?hg (N := 8) ?hd (cs := #[.bool false, .int .u64 0, .int .u64 0]) (t := 24) ?hr ?_; (case hd => rfl); (case hg => rfl); (case hr => first | (go_simp; done) | (go_simp; rfl))
                            intro gb200 hg w53 hbox hb
                            have n0_ := Aside0.mk (blk_below (g := gb187) (o := .cells #[.bool x188000_26, .int .u64 x188001_26, .int .u64 x188002_26, .int .i64 x188003_26] 26 (0, 0)) (by (with_reducible repeat (first | refine blk_drewN ?_ _ | refine blk_drew ?_ | refine blk_alloc ?_ _)); exact BK187.out) hb)
                            have n1_ := Aside0.mk (blk_below (g := gb188) (o := .cells #[.bool x189000_26, .int .u64 x189001_26, .int .u64 x189002_26, .int .i64 x189003_26] 26 (0, 0)) (by (with_reducible repeat (first | refine blk_drewN ?_ _ | refine blk_drew ?_ | refine blk_alloc ?_ _)); exact BK188.out) hb)
                            have n2_ := Aside0.mk (below_step (by repeat (first | (with_reducible first | exact HB.out | apply below_alloc | apply pw_below_drewN | apply below_drew1 | refine below_set ?_ GE187.out | refine below_set ?_ GE188.out) | exact HB.out)) hb)
                            have n3_ := Aside0.mk (hbox)
                            have n4_ := Aside0.mk ((by rw [hg]; exact (below_size (by repeat (first | (with_reducible first | exact HB.out | apply below_alloc | apply pw_below_drewN | apply below_drew1 | refine below_set ?_ GE187.out | refine below_set ?_ GE188.out) | exact HB.out))) : w.heap.size ≤ gb200))
                            have n5_ := Aside0.mk ((by rw [hg]; exact (below_size (by repeat (first | (with_reducible first | exact HB.out | apply below_alloc | apply pw_below_drewN | apply below_drew1 | refine below_set ?_ GE187.out | refine below_set ?_ GE188.out) | exact HB.out))) : w.heap.size ≤ gb200))
                            have n6_ := Aside0.mk ((by rw [hg]; exact Nat.ne_of_lt (blk_lt (g := gb187) (o := .cells #[.bool x188000_26, .int .u64 x188001_26, .int .u64 x188002_26, .int .i64 x188003_26] 26 (0, 0)) (by (with_reducible repeat (first | refine blk_drewN ?_ _ | refine blk_drew ?_ | refine blk_alloc ?_ _)); exact BK187.out)) : gb187 ≠ gb200))
                            have n7_ := Aside0.mk ((by rw [hg]; exact Nat.ne_of_gt (blk_lt (g := gb187) (o := .cells #[.bool x188000_26, .int .u64 x188001_26, .int .u64 x188002_26, .int .i64 x188003_26] 26 (0, 0)) (by (with_reducible repeat (first | refine blk_drewN ?_ _ | refine blk_drew ?_ | refine blk_alloc ?_ _)); exact BK187.out)) : gb200 ≠ gb187))
                            have n8_ := Aside0.mk ((by rw [hg]; exact Nat.ne_of_lt (blk_lt (g := gb188) (o := .cells #[.bool x189000_26, .int .u64 x189001_26, .int .u64 x189002_26, .int .i64 x189003_26] 26 (0, 0)) (by (with_reducible repeat (first | refine blk_drewN ?_ _ | refine blk_drew ?_ | refine blk_alloc ?_ _)); exact BK188.out)) : gb188 ≠ gb200))
                            have n9_ := Aside0.mk ((by rw [hg]; exact Nat.ne_of_gt (blk_lt (g := gb188) (o := .cells #[.bool x189000_26, .int .u64 x189001_26, .int .u64 x189002_26, .int .i64 x189003_26] 26 (0, 0)) (by (with_reducible repeat (first | refine blk_drewN ?_ _ | refine blk_drew ?_ | refine blk_alloc ?_ _)); exact BK188.out)) : gb200 ≠ gb188))
                            clear BK187
                            clear BK188
                            clear HB
                            have BK187 := n0_
                            have BK188 := n1_
                            have HB := n2_
                            have BK200 := n3_
                            have GW200 := n4_
                            have GE200 := n5_
                            have NB187_200 := n6_
                            have NB200_187 := n7_
                            have NB188_200 := n8_
                            have NB200_188 := n9_
                            clear n0_ n1_ n2_ n3_ n4_ n5_ n6_ n7_ n8_ n9_
                            clear hb hbox hg
                            refine hK.out _ _ ⟨(blk_cell BK188.out 0).trans rfl, (blk_cell BK188.out 1).trans rfl, (blk_cell BK188.out 2).trans rfl, (blk_cell BK188.out 3).trans rfl⟩ (fun hHeld => ?_)
                            clear hK K
                            refine norm_ (a' := ?_) ?_ ?_
                            rotate_left
                            · show Act.put _ (some 8) _ = _
                              simp only [Act.put, List.setIfInBounds_toArray, List.set_cons_zero, List.set_cons_succ, i64_w, i32_w]
                              rfl
                            refine one_ (i := 4) (N := some 39) #[true, true, true, true, true, false, false, false, false, true, false, false] rfl rfl (one_of HT_.out (by kernel_rfl)) (by decide) (fun K hK => ?_)
                            refine goes_ Tryd.func10 (by kernel_rfl) rfl #[.int .i64 a2, .int .i64 t194] (by rfl) rfl rfl (by (try simp only [List.map_toArray, List.map_cons, List.map_nil]); first | done | rfl | (simp only [List.length_drop, List.length_take]; rfl)) ?_
                            with_reducible refine (nameplatekit_Pick.calls a2 t194 t195 _ A37.out).mono ?_
                            rintro e w' ⟨rfl, ⟨nd, rfl⟩⟩
                            refine ⟨_, rfl, ?_⟩
                            refine hK.out _ _ ⟨(blk_cell BK188.out 0).trans rfl, (blk_cell BK188.out 1).trans rfl, (blk_cell BK188.out 2).trans rfl, (blk_cell BK188.out 3).trans rfl⟩ (fun hHeld => ?_)
                            clear hK K
                            refine norm_ (a' := ?_) ?_ ?_
                            rotate_left
                            · show Act.put _ (some 39) _ = _
                              simp only [Act.put, List.setIfInBounds_toArray, List.set_cons_zero, List.set_cons_succ, i64_w, i32_w]
                              rfl
                            refine one_ (i := 5) (N := some 40) #[true, true, true, true, true, true, false, false, false, true, false, false] rfl rfl (one_of HT_.out (by kernel_rfl)) (by decide) (fun K hK => ?_)
                            refine goes_ Tryd.func9 (by kernel_rfl) rfl #[.agg #[.bool x189000_26, .int .u64 x189001_26, .int .u64 x189002_26, .int .i64 x189003_26], .int .i64 t195] (by rfl) rfl rfl (by (try simp only [List.map_toArray, List.map_cons, List.map_nil]); first | done | rfl | (simp only [List.length_drop, List.length_take]; rfl)) ?_
                            with_reducible refine (ranges_At.calls x189000_26 x189001_26 x189002_26 x189003_26 t195 t196 t197 t198 true _ A38.out).mono ?_
                            rintro e w54 ⟨rfl, hb⟩
                            refine ⟨_, rfl, ?_⟩
                            have n0_ := Aside0.mk (blk_below (g := gb187) (o := .cells #[.bool x188000_26, .int .u64 x188001_26, .int .u64 x188002_26, .int .i64 x188003_26] 26 (0, 0)) (by (with_reducible repeat (first | refine blk_drewN ?_ _ | refine blk_drew ?_ | refine blk_alloc ?_ _)); exact BK187.out) hb)
                            have n1_ := Aside0.mk (blk_below (g := gb188) (o := .cells #[.bool x189000_26, .int .u64 x189001_26, .int .u64 x189002_26, .int .i64 x189003_26] 26 (0, 0)) (by (with_reducible repeat (first | refine blk_drewN ?_ _ | refine blk_drew ?_ | refine blk_alloc ?_ _)); exact BK188.out) hb)
                            have n2_ := Aside0.mk (blk_below (g := gb200) (o := .cells #[.bool false, .int .u64 0, .int .u64 0] 24 (0, 0)) (by (with_reducible repeat (first | refine blk_drewN ?_ _ | refine blk_drew ?_ | refine blk_alloc ?_ _)); exact BK200.out) hb)
                            have n3_ := Aside0.mk (below_step (by repeat (first | (with_reducible first | exact HB.out | apply below_alloc | apply pw_below_drewN | apply below_drew1 | refine below_set ?_ GE187.out | refine below_set ?_ GE188.out | refine below_set ?_ GE200.out) | exact HB.out)) hb)
                            clear BK187
                            clear BK188
                            clear BK200
                            clear HB
                            have BK187 := n0_
                            have BK188 := n1_
                            have BK200 := n2_
                            have HB := n3_
                            clear n0_ n1_ n2_ n3_
                            (try clear hb)
                            (try clear hb2)
                            (try clear hk)
                            (try clear hi)
                            refine hK.out _ _ ⟨(blk_cell BK188.out 0).trans rfl, (blk_cell BK188.out 1).trans rfl, (blk_cell BK188.out 2).trans rfl, (blk_cell BK188.out 3).trans rfl⟩ (fun hHeld => ?_)
                            clear hK K
                            refine norm_ (a' := ?_) ?_ ?_
                            rotate_left
                            · show Act.put _ (some 40) _ = _
                              simp only [Act.put, List.setIfInBounds_toArray, List.set_cons_zero, List.set_cons_succ, i64_w, i32_w]
                              rfl
                            refine pure_ (i := 6) (N := some 34) (v := ?_) (a' := ?_) #[true, true, true, true, true, true, true, false, false, true, false, false] rfl rfl (any_of HT_.out (by kernel_rfl)) (fun _ _ _ h => h) (Or.inl ⟨by rfl, ?_⟩) ?_ ?_
                            rotate_left
                            · intro w'
                              go_simp
                              with_reducible rfl
                            rotate_left
                            · simp only [Act.put, List.setIfInBounds_toArray, List.set_cons_zero, List.set_cons_succ, i64_w, i32_w]
                              rfl
                            refine pure_ (i := 7) (N := some 41) (v := ?_) (a' := ?_) #[true, true, true, true, true, true, true, true, false, true, false, false] rfl rfl (any_of HT_.out (by kernel_rfl)) (fun _ _ _ h => h) (Or.inl ⟨by rfl, ?_⟩) ?_ ?_
                            rotate_left
                            · intro w'
                              go_simp
                              with_reducible rfl
                            rotate_left
                            · simp only [Act.put, List.setIfInBounds_toArray, List.set_cons_zero, List.set_cons_succ, i64_w, i32_w]
                              rfl
                            refine pure_ (i := 8) (N := some 42) (v := ?_) (a' := ?_) #[true, true, true, true, true, true, true, true, true, true, false, false] rfl rfl (any_of HT_.out (by kernel_rfl)) (fun _ _ _ h => h) (Or.inl ⟨by rfl, ?_⟩) ?_ ?_
                            rotate_left
                            · intro w'
                              go_simp
                              with_reducible rfl
                            rotate_left
                            · simp only [Act.put, List.setIfInBounds_toArray, List.set_cons_zero, List.set_cons_succ, i64_w, i32_w]
                              rfl
                            exact norm_ (by simp only [putAll, Act.put, List.setIfInBounds_toArray, List.set_cons_zero, List.set_cons_succ]) (hCont (gb200) _ ⟨hHeld, (by (with_reducible repeat (first | refine blk_drewN ?_ _ | refine blk_drew ?_ | refine blk_alloc ?_ _)); exact BK187.out), (by (with_reducible repeat (first | refine blk_drewN ?_ _ | refine blk_drew ?_ | refine blk_alloc ?_ _)); exact BK188.out), (by (with_reducible repeat (first | refine blk_drewN ?_ _ | refine blk_drew ?_ | refine blk_alloc ?_ _)); exact BK200.out), GW200.out, GE200.out, NB187_200.out, NB200_187.out, NB188_200.out, NB200_188.out, (by repeat (first | (with_reducible first | exact HB.out | apply below_alloc | apply pw_below_drewN | apply below_drew1 | refine below_set ?_ GE187.out | refine below_set ?_ GE188.out | refine below_set ?_ GE200.out) | exact HB.out))⟩)
                        · skip
                          refine box_step ?hg (N := 8) ?hd (cs := #[.bool false, .int .u64 0, .int .u64 0]) (t := 24) ?hr ?_; (case hd => rfl); (case hg => rfl); (case hr => first | (go_simp; done) | (go_simp; rfl))
                          intro gb200 hg w52 hbox hb
                          have n0_ := Aside0.mk (blk_below (g := gb187) (o := .cells #[.bool x188000_26, .int .u64 x188001_26, .int .u64 x188002_26, .int .i64 x188003_26] 26 (0, 0)) (by (with_reducible repeat (first | refine blk_drewN ?_ _ | refine blk_drew ?_ | refine blk_alloc ?_ _)); exact BK187.out) hb)
                          have n1_ := Aside0.mk (blk_below (g := gb188) (o := .cells #[.bool x189000_26, .int .u64 x189001_26, .int .u64 x189002_26, .int .i64 x189003_26] 26 (0, 0)) (by (with_reducible repeat (first | refine blk_drewN ?_ _ | refine blk_drew ?_ | refine blk_alloc ?_ _)); exact BK188.out) hb)
                          have n2_ := Aside0.mk (below_step (by repeat (first | (with_reducible first | exact HB.out | apply below_alloc | apply pw_below_drewN | apply below_drew1 | refine below_set ?_ GE187.out | refine below_set ?_ GE188.out) | exact HB.out)) hb)
                          have n3_ := Aside0.mk (hbox)
                          have n4_ := Aside0.mk ((by rw [hg]; exact (below_size (by repeat (first | (with_reducible first | exact HB.out | apply below_alloc | apply pw_below_drewN | apply below_drew1 | refine below_set ?_ GE187.out | refine below_set ?_ GE188.out) | exact HB.out))) : w.heap.size ≤ gb200))
                          have n5_ := Aside0.mk ((by rw [hg]; exact (below_size (by repeat (first | (with_reducible first | exact HB.out | apply below_alloc | apply pw_below_drewN | apply below_drew1 | refine below_set ?_ GE187.out | refine below_set ?_ GE188.out) | exact HB.out))) : w.heap.size ≤ gb200))
                          have n6_ := Aside0.mk ((by rw [hg]; exact Nat.ne_of_lt (blk_lt (g := gb187) (o := .cells #[.bool x188000_26, .int .u64 x188001_26, .int .u64 x188002_26, .int .i64 x188003_26] 26 (0, 0)) (by (with_reducible repeat (first | refine blk_drewN ?_ _ | refine blk_drew ?_ | refine blk_alloc ?_ _)); exact BK187.out)) : gb187 ≠ gb200))
                          have n7_ := Aside0.mk ((by rw [hg]; exact Nat.ne_of_gt (blk_lt (g := gb187) (o := .cells #[.bool x188000_26, .int .u64 x188001_26, .int .u64 x188002_26, .int .i64 x188003_26] 26 (0, 0)) (by (with_reducible repeat (first | refine blk_drewN ?_ _ | refine blk_drew ?_ | refine blk_alloc ?_ _)); exact BK187.out)) : gb200 ≠ gb187))
                          have n8_ := Aside0.mk ((by rw [hg]; exact Nat.ne_of_lt (blk_lt (g := gb188) (o := .cells #[.bool x189000_26, .int .u64 x189001_26, .int .u64 x189002_26, .int .i64 x189003_26] 26 (0, 0)) (by (with_reducible repeat (first | refine blk_drewN ?_ _ | refine blk_drew ?_ | refine blk_alloc ?_ _)); exact BK188.out)) : gb188 ≠ gb200))
                          have n9_ := Aside0.mk ((by rw [hg]; exact Nat.ne_of_gt (blk_lt (g := gb188) (o := .cells #[.bool x189000_26, .int .u64 x189001_26, .int .u64 x189002_26, .int .i64 x189003_26] 26 (0, 0)) (by (with_reducible repeat (first | refine blk_drewN ?_ _ | refine blk_drew ?_ | refine blk_alloc ?_ _)); exact BK188.out)) : gb200 ≠ gb188))
                          clear BK187
                          clear BK188
                          clear HB
                          have BK187 := n0_
                          have BK188 := n1_
                          have HB := n2_
                          have BK200 := n3_
                          have GW200 := n4_
                          have GE200 := n5_
                          have NB187_200 := n6_
                          have NB200_187 := n7_
                          have NB188_200 := n8_
                          have NB200_188 := n9_
                          clear n0_ n1_ n2_ n3_ n4_ n5_ n6_ n7_ n8_ n9_
                          clear hb hbox hg
                          refine hK.out _ _ ⟨(blk_cell BK188.out 0).trans rfl, (blk_cell BK188.out 1).trans rfl, (blk_cell BK188.out 2).trans rfl, (blk_cell BK188.out 3).trans rfl⟩ (fun hHeld => ?_)
                          clear hK K
                          refine norm_ (a' := ?_) ?_ ?_
                          rotate_left
                          · show Act.put _ (some 8) _ = _
                            simp only [Act.put, List.setIfInBounds_toArray, List.set_cons_zero, List.set_cons_succ, i64_w, i32_w]
                            rfl
                          refine one_ (i := 3) (N := some 38) #[true, true, true, true, false, false, false, false, false, true, false, false] rfl rfl (one_of HT_.out (by kernel_rfl)) (by decide) (fun K hK => ?_)
                          refine goes_ Tryd.func11 (by kernel_rfl) rfl #[.agg #[.bool x189000_26, .int .u64 x189001_26, .int .u64 x189002_26, .int .i64 x189003_26]] (by rfl) rfl rfl (by (try simp only [List.map_toArray, List.map_cons, List.map_nil]); first | done | rfl | (simp only [List.length_drop, List.length_take]; rfl)) ?_
                          with_reducible refine (ranges_Size.calls x189000_26 x189001_26 x189002_26 x189003_26 t194 _ A36.out).mono ?_
                          rintro e w53 ⟨rfl, hb⟩
                          refine ⟨_, rfl, ?_⟩
                          have n0_ := Aside0.mk (blk_below (g := gb187) (o := .cells #[.bool x188000_26, .int .u64 x188001_26, .int .u64 x188002_26, .int .i64 x188003_26] 26 (0, 0)) (by (with_reducible repeat (first | refine blk_drewN ?_ _ | refine blk_drew ?_ | refine blk_alloc ?_ _)); exact BK187.out) hb)
                          have n1_ := Aside0.mk (blk_below (g := gb188) (o := .cells #[.bool x189000_26, .int .u64 x189001_26, .int .u64 x189002_26, .int .i64 x189003_26] 26 (0, 0)) (by (with_reducible repeat (first | refine blk_drewN ?_ _ | refine blk_drew ?_ | refine blk_alloc ?_ _)); exact BK188.out) hb)
                          have n2_ := Aside0.mk (blk_below (g := gb200) (o := .cells #[.bool false, .int .u64 0, .int .u64 0] 24 (0, 0)) (by (with_reducible repeat (first | refine blk_drewN ?_ _ | refine blk_drew ?_ | refine blk_alloc ?_ _)); exact BK200.out) hb)
                          have n3_ := Aside0.mk (below_step (by repeat (first | (with_reducible first | exact HB.out | apply below_alloc | apply pw_below_drewN | apply below_drew1 | refine below_set ?_ GE187.out | refine below_set ?_ GE188.out | refine below_set ?_ GE200.out) | exact HB.out)) hb)
                          clear BK187
                          clear BK188
                          clear BK200
                          clear HB
                          have BK187 := n0_
                          have BK188 := n1_
                          have BK200 := n2_
                          have HB := n3_
                          clear n0_ n1_ n2_ n3_
                          (try clear hb)
                          (try clear hb2)
                          (try clear hk)
                          (try clear hi)
                          refine hK.out _ _ ⟨(blk_cell BK188.out 0).trans rfl, (blk_cell BK188.out 1).trans rfl, (blk_cell BK188.out 2).trans rfl, (blk_cell BK188.out 3).trans rfl⟩ (fun hHeld => ?_)
                          clear hK K
                          refine norm_ (a' := ?_) ?_ ?_
                          rotate_left
                          · show Act.put _ (some 38) _ = _
                            simp only [Act.put, List.setIfInBounds_toArray, List.set_cons_zero, List.set_cons_succ, i64_w, i32_w]
                            rfl
                          refine one_ (i := 4) (N := some 39) #[true, true, true, true, true, false, false, false, false, true, false, false] rfl rfl (one_of HT_.out (by kernel_rfl)) (by decide) (fun K hK => ?_)
                          refine goes_ Tryd.func10 (by kernel_rfl) rfl #[.int .i64 a2, .int .i64 t194] (by rfl) rfl rfl (by (try simp only [List.map_toArray, List.map_cons, List.map_nil]); first | done | rfl | (simp only [List.length_drop, List.length_take]; rfl)) ?_
                          with_reducible refine (nameplatekit_Pick.calls a2 t194 t195 _ A37.out).mono ?_
                          rintro e w' ⟨rfl, ⟨nd, rfl⟩⟩
                          refine ⟨_, rfl, ?_⟩
                          refine hK.out _ _ ⟨(blk_cell BK188.out 0).trans rfl, (blk_cell BK188.out 1).trans rfl, (blk_cell BK188.out 2).trans rfl, (blk_cell BK188.out 3).trans rfl⟩ (fun hHeld => ?_)
                          clear hK K
                          refine norm_ (a' := ?_) ?_ ?_
                          rotate_left
                          · show Act.put _ (some 39) _ = _
                            simp only [Act.put, List.setIfInBounds_toArray, List.set_cons_zero, List.set_cons_succ, i64_w, i32_w]
                            rfl
                          refine one_ (i := 5) (N := some 40) #[true, true, true, true, true, true, false, false, false, true, false, false] rfl rfl (one_of HT_.out (by kernel_rfl)) (by decide) (fun K hK => ?_)
                          refine goes_ Tryd.func9 (by kernel_rfl) rfl #[.agg #[.bool x189000_26, .int .u64 x189001_26, .int .u64 x189002_26, .int .i64 x189003_26], .int .i64 t195] (by rfl) rfl rfl (by (try simp only [List.map_toArray, List.map_cons, List.map_nil]); first | done | rfl | (simp only [List.length_drop, List.length_take]; rfl)) ?_
                          with_reducible refine (ranges_At.calls x189000_26 x189001_26 x189002_26 x189003_26 t195 t196 t197 t198 true _ A38.out).mono ?_
                          rintro e w54 ⟨rfl, hb⟩
                          refine ⟨_, rfl, ?_⟩
                          have n0_ := Aside0.mk (blk_below (g := gb187) (o := .cells #[.bool x188000_26, .int .u64 x188001_26, .int .u64 x188002_26, .int .i64 x188003_26] 26 (0, 0)) (by (with_reducible repeat (first | refine blk_drewN ?_ _ | refine blk_drew ?_ | refine blk_alloc ?_ _)); exact BK187.out) hb)
                          have n1_ := Aside0.mk (blk_below (g := gb188) (o := .cells #[.bool x189000_26, .int .u64 x189001_26, .int .u64 x189002_26, .int .i64 x189003_26] 26 (0, 0)) (by (with_reducible repeat (first | refine blk_drewN ?_ _ | refine blk_drew ?_ | refine blk_alloc ?_ _)); exact BK188.out) hb)
                          have n2_ := Aside0.mk (blk_below (g := gb200) (o := .cells #[.bool false, .int .u64 0, .int .u64 0] 24 (0, 0)) (by (with_reducible repeat (first | refine blk_drewN ?_ _ | refine blk_drew ?_ | refine blk_alloc ?_ _)); exact BK200.out) hb)
                          have n3_ := Aside0.mk (below_step (by repeat (first | (with_reducible first | exact HB.out | apply below_alloc | apply pw_below_drewN | apply below_drew1 | refine below_set ?_ GE187.out | refine below_set ?_ GE188.out | refine below_set ?_ GE200.out) | exact HB.out)) hb)
                          clear BK187
                          clear BK188
                          clear BK200
                          clear HB
                          have BK187 := n0_
                          have BK188 := n1_
                          have BK200 := n2_
                          have HB := n3_
                          clear n0_ n1_ n2_ n3_
                          (try clear hb)
                          (try clear hb2)
                          (try clear hk)
                          (try clear hi)
                          refine hK.out _ _ ⟨(blk_cell BK188.out 0).trans rfl, (blk_cell BK188.out 1).trans rfl, (blk_cell BK188.out 2).trans rfl, (blk_cell BK188.out 3).trans rfl⟩ (fun hHeld => ?_)
                          clear hK K
                          refine norm_ (a' := ?_) ?_ ?_
                          rotate_left
                          · show Act.put _ (some 40) _ = _
                            simp only [Act.put, List.setIfInBounds_toArray, List.set_cons_zero, List.set_cons_succ, i64_w, i32_w]
                            rfl
                          refine pure_ (i := 6) (N := some 34) (v := ?_) (a' := ?_) #[true, true, true, true, true, true, true, false, false, true, false, false] rfl rfl (any_of HT_.out (by kernel_rfl)) (fun _ _ _ h => h) (Or.inl ⟨by rfl, ?_⟩) ?_ ?_
                          rotate_left
                          · intro w'
                            go_simp
                            with_reducible rfl
                          rotate_left
                          · simp only [Act.put, List.setIfInBounds_toArray, List.set_cons_zero, List.set_cons_succ, i64_w, i32_w]
                            rfl
                          refine pure_ (i := 7) (N := some 41) (v := ?_) (a' := ?_) #[true, true, true, true, true, true, true, true, false, true, false, false] rfl rfl (any_of HT_.out (by kernel_rfl)) (fun _ _ _ h => h) (Or.inl ⟨by rfl, ?_⟩) ?_ ?_
                          rotate_left
                          · intro w'
                            go_simp
                            with_reducible rfl
                          rotate_left
                          · simp only [Act.put, List.setIfInBounds_toArray, List.set_cons_zero, List.set_cons_succ, i64_w, i32_w]
                            rfl
                          refine pure_ (i := 8) (N := some 42) (v := ?_) (a' := ?_) #[true, true, true, true, true, true, true, true, true, true, false, false] rfl rfl (any_of HT_.out (by kernel_rfl)) (fun _ _ _ h => h) (Or.inl ⟨by rfl, ?_⟩) ?_ ?_
                          rotate_left
                          · intro w'
                            go_simp
                            with_reducible rfl
                          rotate_left
                          · simp only [Act.put, List.setIfInBounds_toArray, List.set_cons_zero, List.set_cons_succ, i64_w, i32_w]
                            rfl
                          exact norm_ (by simp only [putAll, Act.put, List.setIfInBounds_toArray, List.set_cons_zero, List.set_cons_succ]) (hCont (gb200) _ ⟨hHeld, (by (with_reducible repeat (first | refine blk_drewN ?_ _ | refine blk_drew ?_ | refine blk_alloc ?_ _)); exact BK187.out), (by (with_reducible repeat (first | refine blk_drewN ?_ _ | refine blk_drew ?_ | refine blk_alloc ?_ _)); exact BK188.out), (by (with_reducible repeat (first | refine blk_drewN ?_ _ | refine blk_drew ?_ | refine blk_alloc ?_ _)); exact BK200.out), GW200.out, GE200.out, NB187_200.out, NB200_187.out, NB188_200.out, NB200_188.out, (by repeat (first | (with_reducible first | exact HB.out | apply below_alloc | apply pw_below_drewN | apply below_drew1 | refine below_set ?_ GE187.out | refine below_set ?_ GE188.out | refine below_set ?_ GE200.out) | exact HB.out))⟩)
                      rintro gb200 w55 ⟨hS_, h0_, h1_, h2_, h3_, h4_, h5_, h6_, h7_, h8_, h9_⟩
                      have n0_ : Aside0 (w55.heap[gb187]? = some (.cells #[.bool x188000_26, .int .u64 x188001_26, .int .u64 x188002_26, .int .i64 x188003_26] 26 (0, 0))) := ⟨h0_⟩
                      have n1_ : Aside0 (w55.heap[gb188]? = some (.cells #[.bool x189000_26, .int .u64 x189001_26, .int .u64 x189002_26, .int .i64 x189003_26] 26 (0, 0))) := ⟨h1_⟩
                      have n2_ : Aside0 (w55.heap[gb200]? = some (.cells #[.bool false, .int .u64 0, .int .u64 0] 24 (0, 0))) := ⟨h2_⟩
                      have n3_ : Aside0 (w.heap.size ≤ gb200) := ⟨h3_⟩
                      have n4_ : Aside0 (w.heap.size ≤ gb200) := ⟨h4_⟩
                      have n5_ : Aside0 (gb187 ≠ gb200) := ⟨h5_⟩
                      have n6_ : Aside0 (gb200 ≠ gb187) := ⟨h6_⟩
                      have n7_ : Aside0 (gb188 ≠ gb200) := ⟨h7_⟩
                      have n8_ : Aside0 (gb200 ≠ gb188) := ⟨h8_⟩
                      have n9_ : Aside0 (Below w.heap.size w w55) := ⟨h9_⟩
                      clear BK187
                      clear BK188
                      clear HB
                      clear h0_ h1_ h2_ h3_ h4_ h5_ h6_ h7_ h8_ h9_
                      have BK187 := n0_
                      have BK188 := n1_
                      have BK200 := n2_
                      have GW200 := n3_
                      have GE200 := n4_
                      have NB187_200 := n5_
                      have NB200_187 := n6_
                      have NB188_200 := n7_
                      have NB200_188 := n8_
                      have HB := n9_
                      clear n0_ n1_ n2_ n3_ n4_ n5_ n6_ n7_ n8_ n9_
                      have hHeld : w55.cell? ⟨gb188, 0, none⟩ = some (.bool x189000_26) ∧ w55.cell? ⟨gb188, 1, none⟩ = some (.int .u64 x189001_26) ∧ w55.cell? ⟨gb188, 2, none⟩ = some (.int .u64 x189002_26) ∧ w55.cell? ⟨gb188, 3, none⟩ = some (.int .i64 x189003_26) := hS_
                      refine norm_ (a' := ?_) ?_ ?_
                      rotate_left
                      · simp only [putAll, Act.put, List.setIfInBounds_toArray, List.set_cons_zero, List.set_cons_succ]
                        rfl
                      refine one_ (i := 10) (N := none) #[true, true, true, true, true, true, true, true, true, true, true, false] rfl rfl (one_of HT_.out (by kernel_rfl)) (by decide) (fun K hK => ?_)
                      have hs56 : w55.cell? ⟨gb200, 0, none⟩ = some (.bool false) := (blk_cell BK200.out 0).trans rfl
                      have hfs56 := blk_frozen BK200.out 0
                      have hns56_0 := NB187_200.out
                      have hns56_1 := NB188_200.out
                      have hms56_0 := NB200_187.out
                      have hms56_1 := NB200_188.out
                      have hs57 : w55.cell? ⟨gb200, 1, none⟩ = some (.int .u64 0) := (blk_cell BK200.out 1).trans rfl
                      have hfs57 := blk_frozen BK200.out 1
                      have hns57_0 := NB187_200.out
                      have hns57_1 := NB188_200.out
                      have hms57_0 := NB200_187.out
                      have hms57_1 := NB200_188.out
                      have hs58 : w55.cell? ⟨gb200, 2, none⟩ = some (.int .u64 0) := (blk_cell BK200.out 2).trans rfl
                      have hfs58 := blk_frozen BK200.out 2
                      have hns58_0 := NB187_200.out
                      have hns58_1 := NB188_200.out
                      have hms58_0 := NB200_187.out
                      have hms58_1 := NB200_188.out
                      refine skip_ (w1 := ?_) (by rfl) rfl ?_ ?_
                      rotate_left
                      · go_simp
                        rfl
                      refine hK.out _ _ ⟨((cell_far (p := ⟨gb200, _, none⟩) NB188_200.out _).trans (((cell_far (p := ⟨gb200, _, none⟩) NB188_200.out _).trans (((cell_far (p := ⟨gb200, _, none⟩) NB188_200.out _).trans (hHeld.1)))))), ((cell_far (p := ⟨gb200, _, none⟩) NB188_200.out _).trans (((cell_far (p := ⟨gb200, _, none⟩) NB188_200.out _).trans (((cell_far (p := ⟨gb200, _, none⟩) NB188_200.out _).trans (hHeld.2.1)))))), ((cell_far (p := ⟨gb200, _, none⟩) NB188_200.out _).trans (((cell_far (p := ⟨gb200, _, none⟩) NB188_200.out _).trans (((cell_far (p := ⟨gb200, _, none⟩) NB188_200.out _).trans (hHeld.2.2.1)))))), ((cell_far (p := ⟨gb200, _, none⟩) NB188_200.out _).trans (((cell_far (p := ⟨gb200, _, none⟩) NB188_200.out _).trans (((cell_far (p := ⟨gb200, _, none⟩) NB188_200.out _).trans (hHeld.2.2.2))))))⟩ (fun hHeld => ?_)
                      clear hK K
                      refine pure_ (i := 11) (N := some 9) (v := ?_) (a' := ?_) #[true, true, true, true, true, true, true, true, true, true, true, true] rfl rfl (any_of HT_.out (by kernel_rfl)) (fun _ _ _ h => h) (Or.inl ⟨by rfl, ?_⟩) ?_ ?_
                      rotate_left
                      · intro w'
                        go_simp
                        with_reducible rfl
                      rotate_left
                      · simp only [Act.put, List.setIfInBounds_toArray, List.set_cons_zero, List.set_cons_succ, i64_w, i32_w]
                        rfl
                      refine done_ (done_of HT_.out (by kernel_rfl)) ?_
                      have hnb59 := NB188_200.out
                      have hnc59 := NB200_188.out
                      have hcz60_0 : w55.cell? ⟨gb188, 0, none⟩ = some (.bool x189000_26) := (blk_cell BK188.out 0).trans rfl
                      have hcz60_1 : w55.cell? ⟨gb188, 1, none⟩ = some (.int .u64 x189001_26) := (blk_cell BK188.out 1).trans rfl
                      have hcz60_2 : w55.cell? ⟨gb188, 2, none⟩ = some (.int .u64 x189002_26) := (blk_cell BK188.out 2).trans rfl
                      have hcz60_3 : w55.cell? ⟨gb188, 3, none⟩ = some (.int .i64 x189003_26) := (blk_cell BK188.out 3).trans rfl
                      have hfz60_0 := blk_frozen BK188.out 0
                      have hfz60_1 := blk_frozen BK188.out 1
                      have hfz60_2 := blk_frozen BK188.out 2
                      have hfz60_3 := blk_frozen BK188.out 3
                      have hnb61 := NB187_200.out
                      have hnc61 := NB200_187.out
                      have hcz62_0 : w55.cell? ⟨gb187, 0, none⟩ = some (.bool x188000_26) := (blk_cell BK187.out 0).trans rfl
                      have hcz62_1 : w55.cell? ⟨gb187, 1, none⟩ = some (.int .u64 x188001_26) := (blk_cell BK187.out 1).trans rfl
                      have hcz62_2 : w55.cell? ⟨gb187, 2, none⟩ = some (.int .u64 x188002_26) := (blk_cell BK187.out 2).trans rfl
                      have hcz62_3 : w55.cell? ⟨gb187, 3, none⟩ = some (.int .i64 x188003_26) := (blk_cell BK187.out 3).trans rfl
                      have hfz62_0 := blk_frozen BK187.out 0
                      have hfz62_1 := blk_frozen BK187.out 1
                      have hfz62_2 := blk_frozen BK187.out 2
                      have hfz62_3 := blk_frozen BK187.out 3
                      try go_wp2_with (first | (go_at_call 8; (with_reducible refine (ranges_Meet.calls x189000_26 x189001_26 x189002_26 x189003_26 x188000_26 x188001_26 x188002_26 x188003_26 t201 _ A40.out).mono ?_); rintro e w63 ⟨rfl, hb⟩; have n0_ := Aside0.mk (blk_below (g := gb187) (o := .cells #[.bool x188000_26, .int .u64 x188001_26, .int .u64 x188002_26, .int .i64 x188003_26] 26 (0, 0)) (by (with_reducible repeat (first | refine blk_drewN ?_ _ | refine blk_drew ?_ | refine blk_alloc ?_ _)); refine blk_far ?_ NB187_200.out _; (with_reducible repeat (first | refine blk_drewN ?_ _ | refine blk_drew ?_ | refine blk_alloc ?_ _)); refine blk_far ?_ NB187_200.out _; (with_reducible repeat (first | refine blk_drewN ?_ _ | refine blk_drew ?_ | refine blk_alloc ?_ _)); refine blk_far ?_ NB187_200.out _; (with_reducible repeat (first | refine blk_drewN ?_ _ | refine blk_drew ?_ | refine blk_alloc ?_ _)); exact BK187.out) hb); have n1_ := Aside0.mk (blk_below (g := gb188) (o := .cells #[.bool x189000_26, .int .u64 x189001_26, .int .u64 x189002_26, .int .i64 x189003_26] 26 (0, 0)) (by (with_reducible repeat (first | refine blk_drewN ?_ _ | refine blk_drew ?_ | refine blk_alloc ?_ _)); refine blk_far ?_ NB188_200.out _; (with_reducible repeat (first | refine blk_drewN ?_ _ | refine blk_drew ?_ | refine blk_alloc ?_ _)); refine blk_far ?_ NB188_200.out _; (with_reducible repeat (first | refine blk_drewN ?_ _ | refine blk_drew ?_ | refine blk_alloc ?_ _)); refine blk_far ?_ NB188_200.out _; (with_reducible repeat (first | refine blk_drewN ?_ _ | refine blk_drew ?_ | refine blk_alloc ?_ _)); exact BK188.out) hb); have n2_ := Aside0.mk (blk_below (g := gb200) (o := .cells #[.bool t196, .int .u64 t197, .int .u64 t198] 24 (0, 0)) (by (with_reducible repeat (first | refine blk_drewN ?_ _ | refine blk_drew ?_ | refine blk_alloc ?_ _)); refine blk_put (cs := #[.bool t196, .int .u64 t197, .int .u64 0]) ?_ 2 _ rfl; (with_reducible repeat (first | refine blk_drewN ?_ _ | refine blk_drew ?_ | refine blk_alloc ?_ _)); refine blk_put (cs := #[.bool t196, .int .u64 0, .int .u64 0]) ?_ 1 _ rfl; (with_reducible repeat (first | refine blk_drewN ?_ _ | refine blk_drew ?_ | refine blk_alloc ?_ _)); refine blk_put (cs := #[.bool false, .int .u64 0, .int .u64 0]) ?_ 0 _ rfl; (with_reducible repeat (first | refine blk_drewN ?_ _ | refine blk_drew ?_ | refine blk_alloc ?_ _)); exact BK200.out) hb); have n3_ := Aside0.mk (below_step (by repeat (first | (with_reducible first | exact HB.out | apply below_alloc | apply pw_below_drewN | apply below_drew1 | refine below_set ?_ GE187.out | refine below_set ?_ GE188.out | refine below_set ?_ GE200.out) | exact HB.out)) hb); clear BK187; clear BK188; clear BK200; clear HB; have BK187 := n0_; have BK188 := n1_; have BK200 := n2_; have HB := n3_; clear n0_ n1_ n2_ n3_; (try clear hb); (try clear hb2); (try clear hk); (try clear hi); have hcz64_0 : w63.cell? ⟨gb187, 0, none⟩ = some (.bool x188000_26) := (blk_cell BK187.out 0).trans rfl; have hcz64_1 : w63.cell? ⟨gb187, 1, none⟩ = some (.int .u64 x188001_26) := (blk_cell BK187.out 1).trans rfl; have hcz64_2 : w63.cell? ⟨gb187, 2, none⟩ = some (.int .u64 x188002_26) := (blk_cell BK187.out 2).trans rfl; have hcz64_3 : w63.cell? ⟨gb187, 3, none⟩ = some (.int .i64 x188003_26) := (blk_cell BK187.out 3).trans rfl; have hfz64_0 := blk_frozen BK187.out 0; have hfz64_1 := blk_frozen BK187.out 1; have hfz64_2 := blk_frozen BK187.out 2; have hfz64_3 := blk_frozen BK187.out 3; have hcz65_0 : w63.cell? ⟨gb188, 0, none⟩ = some (.bool x189000_26) := (blk_cell BK188.out 0).trans rfl; have hcz65_1 : w63.cell? ⟨gb188, 1, none⟩ = some (.int .u64 x189001_26) := (blk_cell BK188.out 1).trans rfl; have hcz65_2 : w63.cell? ⟨gb188, 2, none⟩ = some (.int .u64 x189002_26) := (blk_cell BK188.out 2).trans rfl; have hcz65_3 : w63.cell? ⟨gb188, 3, none⟩ = some (.int .i64 x189003_26) := (blk_cell BK188.out 3).trans rfl; have hfz65_0 := blk_frozen BK188.out 0; have hfz65_1 := blk_frozen BK188.out 1; have hfz65_2 := blk_frozen BK188.out 2; have hfz65_3 := blk_frozen BK188.out 3) | (go_at_call 12; (with_reducible refine (ranges_Has.calls x188000_26 x188001_26 x188002_26 x188003_26 x189000_26 x189001_26 x189002_26 t202 _ A42.out).mono ?_); rintro e w66 ⟨rfl, hb⟩; have n0_ := Aside0.mk (blk_below (g := gb187) (o := .cells #[.bool x188000_26, .int .u64 x188001_26, .int .u64 x188002_26, .int .i64 x188003_26] 26 (0, 0)) (by (with_reducible repeat (first | refine blk_drewN ?_ _ | refine blk_drew ?_ | refine blk_alloc ?_ _)); exact BK187.out) hb); have n1_ := Aside0.mk (blk_below (g := gb188) (o := .cells #[.bool x189000_26, .int .u64 x189001_26, .int .u64 x189002_26, .int .i64 x189003_26] 26 (0, 0)) (by (with_reducible repeat (first | refine blk_drewN ?_ _ | refine blk_drew ?_ | refine blk_alloc ?_ _)); exact BK188.out) hb); have n2_ := Aside0.mk (blk_below (g := gb200) (o := .cells #[.bool t196, .int .u64 t197, .int .u64 t198] 24 (0, 0)) (by (with_reducible repeat (first | refine blk_drewN ?_ _ | refine blk_drew ?_ | refine blk_alloc ?_ _)); exact BK200.out) hb); have n3_ := Aside0.mk (below_step (by repeat (first | (with_reducible first | exact HB.out | apply below_alloc | apply pw_below_drewN | apply below_drew1 | refine below_set ?_ GE187.out | refine below_set ?_ GE188.out | refine below_set ?_ GE200.out) | exact HB.out)) hb); clear BK187; clear BK188; clear BK200; clear HB; have BK187 := n0_; have BK188 := n1_; have BK200 := n2_; have HB := n3_; clear n0_ n1_ n2_ n3_; (try clear hb); (try clear hb2); (try clear hk); (try clear hi); have hcz67_0 : w66.cell? ⟨gb187, 0, none⟩ = some (.bool x188000_26) := (blk_cell BK187.out 0).trans rfl; have hcz67_1 : w66.cell? ⟨gb187, 1, none⟩ = some (.int .u64 x188001_26) := (blk_cell BK187.out 1).trans rfl; have hcz67_2 : w66.cell? ⟨gb187, 2, none⟩ = some (.int .u64 x188002_26) := (blk_cell BK187.out 2).trans rfl; have hcz67_3 : w66.cell? ⟨gb187, 3, none⟩ = some (.int .i64 x188003_26) := (blk_cell BK187.out 3).trans rfl; have hfz67_0 := blk_frozen BK187.out 0; have hfz67_1 := blk_frozen BK187.out 1; have hfz67_2 := blk_frozen BK187.out 2; have hfz67_3 := blk_frozen BK187.out 3; have hcz68_0 : w66.cell? ⟨gb200, 0, none⟩ = some (.bool t196) := (blk_cell BK200.out 0).trans rfl; have hcz68_1 : w66.cell? ⟨gb200, 1, none⟩ = some (.int .u64 t197) := (blk_cell BK200.out 1).trans rfl; have hcz68_2 : w66.cell? ⟨gb200, 2, none⟩ = some (.int .u64 t198) := (blk_cell BK200.out 2).trans rfl; have hfz68_0 := blk_frozen BK200.out 0; have hfz68_1 := blk_frozen BK200.out 1; have hfz68_2 := blk_frozen BK200.out 2) | (go_at_call 12; (with_reducible refine (ranges_Has.calls x188000_26 x188001_26 x188002_26 x188003_26 t196 t197 t198 t203 _ A44.out).mono ?_); rintro e w69 ⟨rfl, hb⟩; have n0_ := Aside0.mk (blk_below (g := gb187) (o := .cells #[.bool x188000_26, .int .u64 x188001_26, .int .u64 x188002_26, .int .i64 x188003_26] 26 (0, 0)) (by (with_reducible repeat (first | refine blk_drewN ?_ _ | refine blk_drew ?_ | refine blk_alloc ?_ _)); exact BK187.out) hb); have n1_ := Aside0.mk (blk_below (g := gb188) (o := .cells #[.bool x189000_26, .int .u64 x189001_26, .int .u64 x189002_26, .int .i64 x189003_26] 26 (0, 0)) (by (with_reducible repeat (first | refine blk_drewN ?_ _ | refine blk_drew ?_ | refine blk_alloc ?_ _)); exact BK188.out) hb); have n2_ := Aside0.mk (blk_below (g := gb200) (o := .cells #[.bool t196, .int .u64 t197, .int .u64 t198] 24 (0, 0)) (by (with_reducible repeat (first | refine blk_drewN ?_ _ | refine blk_drew ?_ | refine blk_alloc ?_ _)); exact BK200.out) hb); have n3_ := Aside0.mk (below_step (by repeat (first | (with_reducible first | exact HB.out | apply below_alloc | apply pw_below_drewN | apply below_drew1 | refine below_set ?_ GE187.out | refine below_set ?_ GE188.out | refine below_set ?_ GE200.out) | exact HB.out)) hb); clear BK187; clear BK188; clear BK200; clear HB; have BK187 := n0_; have BK188 := n1_; have BK200 := n2_; have HB := n3_; clear n0_ n1_ n2_ n3_; (try clear hb); (try clear hb2); (try clear hk); (try clear hi); have hcz70_0 : w69.cell? ⟨gb187, 0, none⟩ = some (.bool x188000_26) := (blk_cell BK187.out 0).trans rfl; have hcz70_1 : w69.cell? ⟨gb187, 1, none⟩ = some (.int .u64 x188001_26) := (blk_cell BK187.out 1).trans rfl; have hcz70_2 : w69.cell? ⟨gb187, 2, none⟩ = some (.int .u64 x188002_26) := (blk_cell BK187.out 2).trans rfl; have hcz70_3 : w69.cell? ⟨gb187, 3, none⟩ = some (.int .i64 x188003_26) := (blk_cell BK187.out 3).trans rfl; have hfz70_0 := blk_frozen BK187.out 0; have hfz70_1 := blk_frozen BK187.out 1; have hfz70_2 := blk_frozen BK187.out 2; have hfz70_3 := blk_frozen BK187.out 3) | (go_at_call 8; (with_reducible refine (ranges_Meet.calls x188000_26 x188001_26 x188002_26 x188003_26 x188000_26 x188001_26 x188002_26 x188003_26 t204 _ A46.out).mono ?_); rintro e w71 ⟨rfl, hb⟩; have n0_ := Aside0.mk (blk_below (g := gb187) (o := .cells #[.bool x188000_26, .int .u64 x188001_26, .int .u64 x188002_26, .int .i64 x188003_26] 26 (0, 0)) (by (with_reducible repeat (first | refine blk_drewN ?_ _ | refine blk_drew ?_ | refine blk_alloc ?_ _)); exact BK187.out) hb); have n1_ := Aside0.mk (blk_below (g := gb188) (o := .cells #[.bool x189000_26, .int .u64 x189001_26, .int .u64 x189002_26, .int .i64 x189003_26] 26 (0, 0)) (by (with_reducible repeat (first | refine blk_drewN ?_ _ | refine blk_drew ?_ | refine blk_alloc ?_ _)); exact BK188.out) hb); have n2_ := Aside0.mk (blk_below (g := gb200) (o := .cells #[.bool t196, .int .u64 t197, .int .u64 t198] 24 (0, 0)) (by (with_reducible repeat (first | refine blk_drewN ?_ _ | refine blk_drew ?_ | refine blk_alloc ?_ _)); exact BK200.out) hb); have n3_ := Aside0.mk (below_step (by repeat (first | (with_reducible first | exact HB.out | apply below_alloc | apply pw_below_drewN | apply below_drew1 | refine below_set ?_ GE187.out | refine below_set ?_ GE188.out | refine below_set ?_ GE200.out) | exact HB.out)) hb); clear BK187; clear BK188; clear BK200; clear HB; have BK187 := n0_; have BK188 := n1_; have BK200 := n2_; have HB := n3_; clear n0_ n1_ n2_ n3_; (try clear hb); (try clear hb2); (try clear hk); (try clear hi)))
                      go_ret
                      exact ⟨by first | rfl | (simp [errW_none, errW_some] <;> rfl) | (simp [*, errW_none, errW_some] <;> rfl), by repeat (first | (with_reducible first | exact HB.out | apply below_alloc | apply pw_below_drewN | apply below_drew1 | refine below_set ?_ GE187.out | refine below_set ?_ GE188.out | refine below_set ?_ GE200.out) | exact HB.out)⟩
                    · rw [if_neg c45] at H
                      have c45b0 : (t203 == t193) = false := by simpa using c45
                      (try (have c45b1 : decide (t203 = t193) = false := by simpa using c45))
                      (try (have c45b2 : (t203 == t193) = false := by simpa using c45))
                      (try (have c45b3 : ¬ (t203 = t193) := by simpa using c45))
                      clear c45
                      exact absurd ((Option.some.inj H).trans hr_.out) (by decide)
                  · rw [if_neg c43] at H
                    have c43b0 : (t193 == t202) = false := by simpa using c43
                    (try (have c43b1 : decide (t193 = t202) = false := by simpa using c43))
                    (try (have c43b2 : (t193 == t202) = false := by simpa using c43))
                    (try (have c43b3 : ¬ (t193 = t202) := by simpa using c43))
                    clear c43
                    exact absurd ((Option.some.inj H).trans hr_.out) (by decide)
                · rw [if_neg c41] at H
                  have c41b0 : (t193 == t201) = false := by simpa using c41
                  (try (have c41b1 : decide (t193 = t201) = false := by simpa using c41))
                  (try (have c41b2 : (t193 == t201) = false := by simpa using c41))
                  (try (have c41b3 : ¬ (t193 = t201) := by simpa using c41))
                  clear c41
                  exact absurd ((Option.some.inj H).trans hr_.out) (by decide)
              · replace c39 := Bool.eq_false_iff.mpr c39
                subst c39
                have H1 : (some false) = some r := by rw [if_neg (show ¬ (false = true) by decide)] at H; exact H
                clear H
                have H := H1
                clear H1
                exact absurd ((Option.some.inj H).trans hr_.out) (by decide)
  · replace c5 := Bool.eq_false_iff.mpr c5
    subst c5
    have H1 : (some false) = some r := by rw [if_neg (show ¬ (false = true) by decide)] at H; exact H
    clear H
    have H := H1
    clear H1
    exact absurd ((Option.some.inj H).trans hr_.out) (by decide)

end Go.Proofs.YtilobbjnmnnmnaaDoor.OMeet
