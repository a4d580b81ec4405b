/- This text proves, for each Go function named below, which plain Lean function its call computes, in whatever memory; a program of this session has written it. -/
import Derived.Test.YtilobbjnmnnmnaaGreatDoorONamesx0
import Derived.Test.YtilobbjnmnnmnaaGreatDoorONamesx1
import Derived.Test.YtilobbjnmnnmnaaGreatDoorONamesx4
import Derived.Test.YtilobbjnmnnmnaaGreatDoorONamesx5
namespace Go.Proofs.YtilobbjnmnnmnaaGreatDoor.ONames
open Go.RowKit Go.Proofs.YtilobbjnmnnmnaaGreatDoorW.PrintWords Go.Proofs.YtilobbjnmnnmnaaGreatDoorW.PrintLast Go.Proofs.YtilobbjnmnnmnaaGreatDoorW.PrintMore
attribute [local go_sem] max2_int min2_int max_two min_two max_three min_three max_four min_four   -- for this text's walks alone
set_option linter.unusedVariables false
set_option linter.unusedSimpArgs false

attribute [local go_sem high] eqA24
/-! ### nameplatelaw05_lives: function 10 -/
def nameplatelaw05_lives.f (k : Nat)  : Option (Bool) := (ranges_Read.f k (⟨#[49, 48, 46, 48, 46, 48, 46, 48, 47, 51, 48]⟩ : ByteArray)).bind fun bt188 => ((ranges_At.f bt188.1 bt188.2.1 bt188.2.2.1 bt188.2.2.2.1 3).bind fun bt194 => ((ranges_Read.f k (⟨#[49, 48, 46, 48, 46, 48, 46, 49, 47, 51, 48]⟩ : ByteArray)).bind fun bt199 => (if bt188.2.2.2.2 = 0 then ((ranges_Size.f bt188.1 bt188.2.1 bt188.2.2.1 bt188.2.2.2.1).bind fun t205 => (if t205 = 4 then (if bt194.2.2.2 = true then ((addr_Four.f k 10 0 0 3).bind fun bt206 => (if (bt194.1 == bt206.1 && (bt194.2.1 == bt206.2.1 && (bt194.2.2.1 == bt206.2.2))) = true then (some (bt199.2.2.2.2 == 2)) else (some false))) else (some false)) else (some false))) else (some false))))
theorem nameplatelaw05_lives.mono : ∀ k, LeO (nameplatelaw05_lives.f k ) (nameplatelaw05_lives.f (k + 1) ) := by
 intro  k
 unfold nameplatelaw05_lives.f
 repeat' first
   | (with_reducible exact addr_Four.mono _ _ _ _ _)
   | (with_reducible exact ranges_Read.mono _ _)
   | (with_reducible exact LeO.refl _)
   | (with_reducible exact LeO.none _)
   | (with_reducible refine LeO.ite ?_ ?_)
   | (with_reducible refine LeO.bind ?_ (fun _ => ?_))
   | exact addr_Four.mono _ _ _ _ _
   | exact ranges_Read.mono _ _
   | exact LeO.none _
   | refine LeO.ite ?_ ?_
   | refine LeO.bind ?_ (fun _ => ?_)
def nameplatelaw05_lives.T4 : Bool × List (List Nat × List Nat) := (true, [([], []), ([0], [0]), ([1], [1]), ([2], [2]), ([3, 2, 2], [2, 3]), ([4, 2], [2, 4]), ([2, 5], [2, 5]), ([6, 4], [6]), ([7], [7]), ([7, 8], [7, 8]), ([9, 7], [9]), ([10], [10]), ([10, 10], [10]), ([11, 12, 10], [10, 11, 12]), ([10, 13], [10, 13]), ([14, 12], [14]), ([15], [15]), ([16, 15], [15, 16]), ([15, 17], [15, 17]), ([18, 15, 0, 1, 2, 3, 4, 5, 6, 7, 8, 9, 10, 11, 12, 13, 14, 15, 16, 17, 18], [18])])
def nameplatelaw05_lives.B4 : List Nat := [0, 1, 3, 7, 15, 31, 63, 127, 255, 511, 1023, 2047, 2047, 8191, 16383, 32767, 65535, 131071, 262143, 524287]
theorem nameplatelaw05_lives.tab4 : rtab .any (opsOf Tryz.f10 4) = nameplatelaw05_lives.T4 := by kernel_rfl
theorem nameplatelaw05_lives.bits4 : waitsOk nameplatelaw05_lives.T4.2 nameplatelaw05_lives.B4 = true := by kernel_rfl
set_option maxHeartbeats 8000000 in
set_option maxRecDepth 100000 in
theorem nameplatelaw05_lives.calls (k : Nat)  (r : Bool) (w : World) (hG_ : Aside0 (AddrLib.G w)) (h : nameplatelaw05_lives.f k  = some r) :
  Calls Tryz.prog 10 #[] w fun e w' => e = .returned (.bool r) ∧ Below w.heap.size w w' := by
 have hu26 := Tryz.underlying26
 have hu24 := Tryz.underlying24
 have HB := aM (Below.refl w.heap.size w)
 have H : ((ranges_Read.f k (⟨#[49, 48, 46, 48, 46, 48, 46, 48, 47, 51, 48]⟩ : ByteArray)).bind fun bt188 => ((ranges_At.f bt188.1 bt188.2.1 bt188.2.2.1 bt188.2.2.2.1 3).bind fun bt194 => ((ranges_Read.f k (⟨#[49, 48, 46, 48, 46, 48, 46, 49, 47, 51, 48]⟩ : ByteArray)).bind fun bt199 => (if bt188.2.2.2.2 = 0 then ((ranges_Size.f bt188.1 bt188.2.1 bt188.2.2.1 bt188.2.2.2.1).bind fun t205 => (if t205 = 4 then (if bt194.2.2.2 = true then ((addr_Four.f k 10 0 0 3).bind fun bt206 => (if (bt194.1 == bt206.1 && (bt194.2.1 == bt206.2.1 && (bt194.2.2.1 == bt206.2.2))) = true then (some (bt199.2.2.2.2 == 2)) else (some false))) else (some false)) else (some false))) else (some false))))) = some r := h
 clear h
 replace H := Option.bind_eq_some_iff.mp H
 obtain ⟨⟨t188, t189, t190, t191, t192⟩, A10, H⟩ := H
 try dsimp only at H
 have A1 := aM A10
 clear A10
 replace H := Option.bind_eq_some_iff.mp H
 obtain ⟨⟨t194, t195, t196, t197⟩, A20, H⟩ := H
 try dsimp only at H
 have A2 := aM A20
 clear A20
 replace H := Option.bind_eq_some_iff.mp H
 obtain ⟨⟨t199, t200, t201, t202, t203⟩, A30, H⟩ := H
 try dsimp only at H
 have A3 := aM A30
 clear A30
 by_cases c4 : t192 = 0
 ·rw [if_pos c4] at H
  have c4b0 : (t192 == 0) = true := beq_iff_eq.mpr c4
  have c4b1 : (t192 != 0) = false := bne_eq_false_iff_eq.mpr c4
  clear c4
  replace H := Option.bind_eq_some_iff.mp H
  obtain ⟨t205, A50, H⟩ := H
  try dsimp only at H
  have A5 := aM A50
  clear A50
  by_cases c6 : t205 = 4
  ·rw [if_pos c6] at H
   have c6b0 : (t205 == 4) = true := beq_iff_eq.mpr c6
   have c6b1 : (t205 != 4) = false := bne_eq_false_iff_eq.mpr c6
   clear c6
   by_cases c7 : t197 = true
   ·subst c7
    rw [if_pos rfl] at H
    replace H := Option.bind_eq_some_iff.mp H
    obtain ⟨⟨t206, t207, t208⟩, A80, H⟩ := H
    try dsimp only at H
    have A8 := aM A80
    clear A80
    by_cases c9 : (t194 == t206 && (t195 == t207 && (t196 == t208))) = true
    ·rw [if_pos c9] at H
     have c9b0 : (t194 == t206 && (t195 == t207 && (t196 == t208))) = true := c9
     (try (have c9b1 : decide (t194 = t206 && (t195 == t207 && (t196 == t208))) = true := by simpa using c9))
     (try (have c9b2 : (t194 == t206 && (t195 == t207 && (t196 == t208))) = true := by simpa using c9))
     clear c9
     obtain rfl := Option.some.inj H
     go_enter Tryz.func10, Tryz.ntmps10
     try go_wp2_with (first | ((with_reducible refine gate_callee (f := 22) rfl ?_); refine goesL_ (some 8) rfl rfl Tryz.func22 (by kernel_rfl) rfl #[.string (⟨#[49, 48, 46, 48, 46, 48, 46, 48, 47, 51, 48]⟩ : ByteArray)] rfl (by (try simp only [List.map_toArray, List.map_cons, List.map_nil]); first | done | rfl | (simp only [List.length_drop, List.length_take]; rfl)) ?_; (with_reducible refine (ranges_Read.calls k (⟨#[49, 48, 46, 48, 46, 48, 46, 48, 47, 51, 48]⟩ : ByteArray) t188 t189 t190 t191 t192 _ ⟨hG_.out.below (by repeat (first | (with_reducible first | exact HB.out | apply bA | apply bN | apply bD | refine below_set ?_ (by apply Aside0.out; assumption)) | exact HB.out | exact Below.refl _ _))⟩ A1.out).mono ?_); rintro e w10 ⟨rfl, hb⟩; refine ⟨_, rfl, ?_⟩; have n0_ := aM (below_step (by repeat (first | (with_reducible first | exact HB.out | apply bA | apply bN | apply bD) | exact HB.out)) hb); clear HB; have HB := n0_; clear n0_; (try clear hb); (try clear hb2); (try clear hk); (try clear hi)) | ((with_reducible refine gate_dst (N := 1) rfl ?_); refine box_event ?hg (N := 1) ?hd (cs := #[.bool false, .int .u64 0, .int .u64 0, .int .i64 0]) (t := 26) ?hr ?_; (case hd => rfl); (case hg => rfl); (case hr => first | (go_simp; done) | (go_simp; rfl)); intro gb193 hg w11 hbox hb; have n0_ := aM (below_step (by repeat (first | (with_reducible first | exact HB.out | apply bA | apply bN | apply bD) | exact HB.out)) hb); have n1_ := aM (hbox); have n2_ := aM ((by rw [hg]; exact (below_size (by repeat (first | (with_reducible first | exact HB.out | apply bA | apply bN | apply bD) | exact HB.out))) : w.heap.size ≤ gb193)); have n3_ := aM ((by rw [hg]; exact (below_size (by repeat (first | (with_reducible first | exact HB.out | apply bA | apply bN | apply bD) | exact HB.out))) : w.heap.size ≤ gb193)); clear HB; have HB := n0_; have BK193 := n1_; have GW193 := n2_; have GE193 := n3_; clear n0_ n1_ n2_ n3_; clear hb hbox hg; have hcz12_0 : w11.cell? ⟨gb193, 0, none⟩ = some (.bool false) := (kC BK193.out 0).trans rfl; have hcz12_1 : w11.cell? ⟨gb193, 1, none⟩ = some (.int .u64 0) := (kC BK193.out 1).trans rfl; have hcz12_2 : w11.cell? ⟨gb193, 2, none⟩ = some (.int .u64 0) := (kC BK193.out 2).trans rfl; have hcz12_3 : w11.cell? ⟨gb193, 3, none⟩ = some (.int .i64 0) := (kC BK193.out 3).trans rfl; have hfz12_0 := kF BK193.out 0; have hfz12_1 := kF BK193.out 1; have hfz12_2 := kF BK193.out 2; have hfz12_3 := kF BK193.out 3) | ((with_reducible refine gate_callee (f := 13) rfl ?_); refine goesL_ (some 13) rfl rfl Tryz.func13 (by kernel_rfl) rfl #[.agg #[.bool t188, .int .u64 t189, .int .u64 t190, .int .i64 t191], .int .i64 3] rfl (by (try simp only [List.map_toArray, List.map_cons, List.map_nil]); first | done | rfl | (simp only [List.length_drop, List.length_take]; rfl)) ?_; (with_reducible refine (ranges_At.calls t188 t189 t190 t191 3 t194 t195 t196 true _ A2.out).mono ?_); rintro e w13 ⟨rfl, hb⟩; refine ⟨_, rfl, ?_⟩; have n0_ := aM (blk_below (o := .cells #[.bool t188, .int .u64 t189, .int .u64 t190, .int .i64 t191] 26 (0, 0)) (by (with_reducible repeat (first | apply kN | apply kD | apply kA)); refine blk_put (cs := #[.bool t188, .int .u64 t189, .int .u64 t190, .int .i64 0]) ?_ 3 _ rfl; (with_reducible repeat (first | apply kN | apply kD | apply kA)); refine blk_put (cs := #[.bool t188, .int .u64 t189, .int .u64 0, .int .i64 0]) ?_ 2 _ rfl; (with_reducible repeat (first | apply kN | apply kD | apply kA)); refine blk_put (cs := #[.bool t188, .int .u64 0, .int .u64 0, .int .i64 0]) ?_ 1 _ rfl; (with_reducible repeat (first | apply kN | apply kD | apply kA)); refine blk_put (cs := #[.bool false, .int .u64 0, .int .u64 0, .int .i64 0]) ?_ 0 _ rfl; (with_reducible repeat (first | apply kN | apply kD | apply kA)); exact BK193.out) hb); have n1_ := aM (below_step (by repeat (first | (with_reducible first | exact HB.out | apply bA | apply bN | apply bD | refine below_set ?_ (by apply Aside0.out; assumption)) | exact HB.out)) hb); clear BK193; clear HB; have BK193 := n0_; have HB := n1_; clear n0_ n1_; (try clear hb); (try clear hb2); (try clear hk); (try clear hi)) | ((with_reducible refine gate_dst (N := 3) rfl ?_); refine box_event ?hg (N := 3) ?hd (cs := #[.bool false, .int .u64 0, .int .u64 0]) (t := 24) ?hr ?_; (case hd => rfl); (case hg => rfl); (case hr => first | (go_simp; done) | (go_simp; rfl)); intro gb198 hg w14 hbox hb; have n0_ := aM (blk_below (o := .cells #[.bool t188, .int .u64 t189, .int .u64 t190, .int .i64 t191] 26 (0, 0)) (by (with_reducible repeat (first | apply kN | apply kD | apply kA)); exact BK193.out) hb); have n1_ := aM (below_step (by repeat (first | (with_reducible first | exact HB.out | apply bA | apply bN | apply bD | refine below_set ?_ (by apply Aside0.out; assumption)) | exact HB.out)) hb); have n2_ := aM (hbox); have n3_ := aM ((by rw [hg]; exact (below_size (by repeat (first | (with_reducible first | exact HB.out | apply bA | apply bN | apply bD | refine below_set ?_ (by apply Aside0.out; assumption)) | exact HB.out))) : w.heap.size ≤ gb198)); have n4_ := aM ((by rw [hg]; exact (below_size (by repeat (first | (with_reducible first | exact HB.out | apply bA | apply bN | apply bD | refine below_set ?_ (by apply Aside0.out; assumption)) | exact HB.out))) : w.heap.size ≤ gb198)); have n5_ := aM ((by rw [hg]; exact Nat.ne_of_lt (blk_lt (g := gb193) (o := .cells #[.bool t188, .int .u64 t189, .int .u64 t190, .int .i64 t191] 26 (0, 0)) (by (with_reducible repeat (first | apply kN | apply kD | apply kA)); exact BK193.out)) : gb193 ≠ gb198)); have n6_ := aM ((by rw [hg]; exact Nat.ne_of_gt (blk_lt (g := gb193) (o := .cells #[.bool t188, .int .u64 t189, .int .u64 t190, .int .i64 t191] 26 (0, 0)) (by (with_reducible repeat (first | apply kN | apply kD | apply kA)); exact BK193.out)) : gb198 ≠ gb193)); clear BK193; clear HB; have BK193 := n0_; have HB := n1_; have BK198 := n2_; have GW198 := n3_; have GE198 := n4_; have NB193_198 := n5_; have NB198_193 := n6_; clear n0_ n1_ n2_ n3_ n4_ n5_ n6_; clear hb hbox hg; have hnb15 := NB198_193.out; have hnc15 := NB193_198.out; have hcz16_0 : w14.cell? ⟨gb198, 0, none⟩ = some (.bool false) := (kC BK198.out 0).trans rfl; have hcz16_1 : w14.cell? ⟨gb198, 1, none⟩ = some (.int .u64 0) := (kC BK198.out 1).trans rfl; have hcz16_2 : w14.cell? ⟨gb198, 2, none⟩ = some (.int .u64 0) := (kC BK198.out 2).trans rfl; have hfz16_0 := kF BK198.out 0; have hfz16_1 := kF BK198.out 1; have hfz16_2 := kF BK198.out 2) | ((with_reducible refine gate_callee (f := 22) rfl ?_); refine goesL_ (some 17) rfl rfl Tryz.func22 (by kernel_rfl) rfl #[.string (⟨#[49, 48, 46, 48, 46, 48, 46, 49, 47, 51, 48]⟩ : ByteArray)] rfl (by (try simp only [List.map_toArray, List.map_cons, List.map_nil]); first | done | rfl | (simp only [List.length_drop, List.length_take]; rfl)) ?_; (with_reducible refine (ranges_Read.calls k (⟨#[49, 48, 46, 48, 46, 48, 46, 49, 47, 51, 48]⟩ : ByteArray) t199 t200 t201 t202 t203 _ ⟨hG_.out.below (by repeat (first | (with_reducible first | exact HB.out | apply bA | apply bN | apply bD | refine below_set ?_ (by apply Aside0.out; assumption)) | exact HB.out | exact Below.refl _ _))⟩ A3.out).mono ?_); rintro e w17 ⟨rfl, hb⟩; refine ⟨_, rfl, ?_⟩; have n0_ := aM (blk_below (o := .cells #[.bool t188, .int .u64 t189, .int .u64 t190, .int .i64 t191] 26 (0, 0)) (by (with_reducible repeat (first | apply kN | apply kD | apply kA)); refine blk_far ?_ NB193_198.out _; (with_reducible repeat (first | apply kN | apply kD | apply kA)); refine blk_far ?_ NB193_198.out _; (with_reducible repeat (first | apply kN | apply kD | apply kA)); refine blk_far ?_ NB193_198.out _; (with_reducible repeat (first | apply kN | apply kD | apply kA)); exact BK193.out) hb); have n1_ := aM (blk_below (o := .cells #[.bool t194, .int .u64 t195, .int .u64 t196] 24 (0, 0)) (by (with_reducible repeat (first | apply kN | apply kD | apply kA)); refine blk_put (cs := #[.bool t194, .int .u64 t195, .int .u64 0]) ?_ 2 _ rfl; (with_reducible repeat (first | apply kN | apply kD | apply kA)); refine blk_put (cs := #[.bool t194, .int .u64 0, .int .u64 0]) ?_ 1 _ rfl; (with_reducible repeat (first | apply kN | apply kD | apply kA)); refine blk_put (cs := #[.bool false, .int .u64 0, .int .u64 0]) ?_ 0 _ rfl; (with_reducible repeat (first | apply kN | apply kD | apply kA)); exact BK198.out) hb); have n2_ := aM (below_step (by repeat (first | (with_reducible first | exact HB.out | apply bA | apply bN | apply bD | refine below_set ?_ (by apply Aside0.out; assumption)) | exact HB.out)) hb); clear BK193; clear BK198; clear HB; have BK193 := n0_; have BK198 := n1_; have HB := n2_; clear n0_ n1_ n2_; (try clear hb); (try clear hb2); (try clear hk); (try clear hi)) | ((with_reducible refine gate_dst (N := 5) rfl ?_); refine box_event ?hg (N := 5) ?hd (cs := #[.bool false, .int .u64 0, .int .u64 0, .int .i64 0]) (t := 26) ?hr ?_; (case hd => rfl); (case hg => rfl); (case hr => first | (go_simp; done) | (go_simp; rfl)); intro gb204 hg w18 hbox hb; have n0_ := aM (blk_below (o := .cells #[.bool t188, .int .u64 t189, .int .u64 t190, .int .i64 t191] 26 (0, 0)) (by (with_reducible repeat (first | apply kN | apply kD | apply kA)); exact BK193.out) hb); have n1_ := aM (blk_below (o := .cells #[.bool t194, .int .u64 t195, .int .u64 t196] 24 (0, 0)) (by (with_reducible repeat (first | apply kN | apply kD | apply kA)); exact BK198.out) hb); have n2_ := aM (below_step (by repeat (first | (with_reducible first | exact HB.out | apply bA | apply bN | apply bD | refine below_set ?_ (by apply Aside0.out; assumption)) | exact HB.out)) hb); have n3_ := aM (hbox); have n4_ := aM ((by rw [hg]; exact (below_size (by repeat (first | (with_reducible first | exact HB.out | apply bA | apply bN | apply bD | refine below_set ?_ (by apply Aside0.out; assumption)) | exact HB.out))) : w.heap.size ≤ gb204)); have n5_ := aM ((by rw [hg]; exact (below_size (by repeat (first | (with_reducible first | exact HB.out | apply bA | apply bN | apply bD | refine below_set ?_ (by apply Aside0.out; assumption)) | exact HB.out))) : w.heap.size ≤ gb204)); have n6_ := aM ((by rw [hg]; exact Nat.ne_of_lt (blk_lt (g := gb193) (o := .cells #[.bool t188, .int .u64 t189, .int .u64 t190, .int .i64 t191] 26 (0, 0)) (by (with_reducible repeat (first | apply kN | apply kD | apply kA)); exact BK193.out)) : gb193 ≠ gb204)); have n7_ := aM ((by rw [hg]; exact Nat.ne_of_gt (blk_lt (g := gb193) (o := .cells #[.bool t188, .int .u64 t189, .int .u64 t190, .int .i64 t191] 26 (0, 0)) (by (with_reducible repeat (first | apply kN | apply kD | apply kA)); exact BK193.out)) : gb204 ≠ gb193)); have n8_ := aM ((by rw [hg]; exact Nat.ne_of_lt (blk_lt (g := gb198) (o := .cells #[.bool t194, .int .u64 t195, .int .u64 t196] 24 (0, 0)) (by (with_reducible repeat (first | apply kN | apply kD | apply kA)); exact BK198.out)) : gb198 ≠ gb204)); have n9_ := aM ((by rw [hg]; exact Nat.ne_of_gt (blk_lt (g := gb198) (o := .cells #[.bool t194, .int .u64 t195, .int .u64 t196] 24 (0, 0)) (by (with_reducible repeat (first | apply kN | apply kD | apply kA)); exact BK198.out)) : gb204 ≠ gb198)); clear BK193; clear BK198; clear HB; have BK193 := n0_; have BK198 := n1_; have HB := n2_; have BK204 := n3_; have GW204 := n4_; have GE204 := n5_; have NB193_204 := n6_; have NB204_193 := n7_; have NB198_204 := n8_; have NB204_198 := n9_; clear n0_ n1_ n2_ n3_ n4_ n5_ n6_ n7_ n8_ n9_; clear hb hbox hg; have hnb19 := NB204_193.out; have hnc19 := NB193_204.out; have hnb20 := NB204_198.out; have hnc20 := NB198_204.out; have hcz21_0 : w18.cell? ⟨gb204, 0, none⟩ = some (.bool false) := (kC BK204.out 0).trans rfl; have hcz21_1 : w18.cell? ⟨gb204, 1, none⟩ = some (.int .u64 0) := (kC BK204.out 1).trans rfl; have hcz21_2 : w18.cell? ⟨gb204, 2, none⟩ = some (.int .u64 0) := (kC BK204.out 2).trans rfl; have hcz21_3 : w18.cell? ⟨gb204, 3, none⟩ = some (.int .i64 0) := (kC BK204.out 3).trans rfl; have hfz21_0 := kF BK204.out 0; have hfz21_1 := kF BK204.out 1; have hfz21_2 := kF BK204.out 2; have hfz21_3 := kF BK204.out 3))
     have n0_ : Aside0 (((((w18.setCell ⟨gb204, 0, none⟩ (.bool t199)).setCell ⟨gb204, 1, none⟩ (.int .u64 t200)).setCell ⟨gb204, 2, none⟩ (.int .u64 t201)).setCell ⟨gb204, 3, none⟩ (.int .i64 t202)).heap[gb193]? = some (.cells #[.bool t188, .int .u64 t189, .int .u64 t190, .int .i64 t191] 26 (0, 0))) := ⟨by (with_reducible repeat (first | apply kN | apply kD | apply kA)); refine blk_far ?_ NB193_204.out _; (with_reducible repeat (first | apply kN | apply kD | apply kA)); refine blk_far ?_ NB193_204.out _; (with_reducible repeat (first | apply kN | apply kD | apply kA)); refine blk_far ?_ NB193_204.out _; (with_reducible repeat (first | apply kN | apply kD | apply kA)); refine blk_far ?_ NB193_204.out _; (with_reducible repeat (first | apply kN | apply kD | apply kA)); exact BK193.out⟩
     have n1_ : Aside0 (((((w18.setCell ⟨gb204, 0, none⟩ (.bool t199)).setCell ⟨gb204, 1, none⟩ (.int .u64 t200)).setCell ⟨gb204, 2, none⟩ (.int .u64 t201)).setCell ⟨gb204, 3, none⟩ (.int .i64 t202)).heap[gb198]? = some (.cells #[.bool t194, .int .u64 t195, .int .u64 t196] 24 (0, 0))) := ⟨by (with_reducible repeat (first | apply kN | apply kD | apply kA)); refine blk_far ?_ NB198_204.out _; (with_reducible repeat (first | apply kN | apply kD | apply kA)); refine blk_far ?_ NB198_204.out _; (with_reducible repeat (first | apply kN | apply kD | apply kA)); refine blk_far ?_ NB198_204.out _; (with_reducible repeat (first | apply kN | apply kD | apply kA)); refine blk_far ?_ NB198_204.out _; (with_reducible repeat (first | apply kN | apply kD | apply kA)); exact BK198.out⟩
     have n2_ : Aside0 (((((w18.setCell ⟨gb204, 0, none⟩ (.bool t199)).setCell ⟨gb204, 1, none⟩ (.int .u64 t200)).setCell ⟨gb204, 2, none⟩ (.int .u64 t201)).setCell ⟨gb204, 3, none⟩ (.int .i64 t202)).heap[gb204]? = some (.cells #[.bool t199, .int .u64 t200, .int .u64 t201, .int .i64 t202] 26 (0, 0))) := ⟨by (with_reducible repeat (first | apply kN | apply kD | apply kA)); refine blk_put (cs := #[.bool t199, .int .u64 t200, .int .u64 t201, .int .i64 0]) ?_ 3 _ rfl; (with_reducible repeat (first | apply kN | apply kD | apply kA)); refine blk_put (cs := #[.bool t199, .int .u64 t200, .int .u64 0, .int .i64 0]) ?_ 2 _ rfl; (with_reducible repeat (first | apply kN | apply kD | apply kA)); refine blk_put (cs := #[.bool t199, .int .u64 0, .int .u64 0, .int .i64 0]) ?_ 1 _ rfl; (with_reducible repeat (first | apply kN | apply kD | apply kA)); refine blk_put (cs := #[.bool false, .int .u64 0, .int .u64 0, .int .i64 0]) ?_ 0 _ rfl; (with_reducible repeat (first | apply kN | apply kD | apply kA)); exact BK204.out⟩
     have n3_ : Aside0 (Below w.heap.size w ((((w18.setCell ⟨gb204, 0, none⟩ (.bool t199)).setCell ⟨gb204, 1, none⟩ (.int .u64 t200)).setCell ⟨gb204, 2, none⟩ (.int .u64 t201)).setCell ⟨gb204, 3, none⟩ (.int .i64 t202))) := ⟨by repeat (first | (with_reducible first | exact HB.out | apply bA | apply bN | apply bD | refine below_set ?_ (by apply Aside0.out; assumption)) | exact HB.out)⟩
     (try clear BK193)
     (try clear BK198)
     (try clear BK204)
     (try clear HB)
     (try (repeat rw [setCell_drewN_]))
     generalize ((((w18.setCell ⟨gb204, 0, none⟩ (.bool t199)).setCell ⟨gb204, 1, none⟩ (.int .u64 t200)).setCell ⟨gb204, 2, none⟩ (.int .u64 t201)).setCell ⟨gb204, 3, none⟩ (.int .i64 t202)) = w22 at n0_ n1_ n2_ n3_ ⊢
     have BK193 := n0_
     have BK198 := n1_
     have BK204 := n2_
     have HB := n3_
     clear n0_ n1_ n2_ n3_
     have n0_ := aM (kD BK193.out)
     have n1_ := aM (kD BK198.out)
     have n2_ := aM (kD BK204.out)
     have n3_ := aM (bD HB.out)
     clear BK193
     clear BK198
     clear BK204
     clear HB
     have BK193 := n0_
     have BK198 := n1_
     have BK204 := n2_
     have HB := n3_
     clear n0_ n1_ n2_ n3_
     refine start_ (n := 20) (S := fun w' => w'.cell? ⟨gb193, 0, none⟩ = some (.bool t188) ∧ w'.cell? ⟨gb193, 1, none⟩ = some (.int .u64 t189) ∧ w'.cell? ⟨gb193, 2, none⟩ = some (.int .u64 t190) ∧ w'.cell? ⟨gb193, 3, none⟩ = some (.int .i64 t191) ∧ w'.cell? ⟨gb198, 0, none⟩ = some (.bool t194) ∧ w'.cell? ⟨gb198, 1, none⟩ = some (.int .u64 t195) ∧ w'.cell? ⟨gb198, 2, none⟩ = some (.int .u64 t196)) (ds := []) #[Nn,Nn,Nn,Nn,Nn,Nn,Nn,Nn,Nn,Nn,Nn,Nn,Nn,Nn,Nn,Nn,Nn,Nn,Nn,Nn] (by kernel_rfl) rfl rfl ⟨(kC BK193.out 0).trans rfl, (kC BK193.out 1).trans rfl, (kC BK193.out 2).trans rfl, (kC BK193.out 3).trans rfl, (kC BK198.out 0).trans rfl, (kC BK198.out 1).trans rfl, (kC BK198.out 2).trans rfl⟩ (fun hHeld => ?_); refine with_tabW nameplatelaw05_lives.tab4 nameplatelaw05_lives.bits4 (fun HT_ HW_ => ?_)
     generalize w22.drew = w23 at BK193 BK198 BK204 HB hHeld ⊢
     refine pure_ (i := 0) (N := some 20) (v := ?_) (a' := ?_) #[Yy,Nn,Nn,Nn,Nn,Nn,Nn,Nn,Nn,Nn,Nn,Nn,Nn,Nn,Nn,Nn,Nn,Nn,Nn,Nn] rfl rfl (any_of HT_.out (by kernel_rfl)) (fun _ _ _ h => h) (Or.inl ⟨by rfl, ?_⟩) ?_ ?_
     rotate_left
     ·intro w'
      go_simp
      with_reducible rfl
     rotate_left
     ·simp only [Act.put, List.setIfInBounds_toArray, List.set_cons_zero, List.set_cons_succ, i64_w, i32_w]
      rfl
     refine pure_ (i := 1) (N := some 21) (v := ?_) (a' := ?_) #[Yy,Yy,Nn,Nn,Nn,Nn,Nn,Nn,Nn,Nn,Nn,Nn,Nn,Nn,Nn,Nn,Nn,Nn,Nn,Nn] rfl rfl (any_of HT_.out (by kernel_rfl)) (fun _ _ _ h => h) (Or.inl ⟨by rfl, ?_⟩) ?_ ?_
     rotate_left
     ·intro w'
      go_simp
      with_reducible rfl
     rotate_left
     ·simp only [Act.put, List.setIfInBounds_toArray, List.set_cons_zero, List.set_cons_succ, i64_w, i32_w]
      rfl
     refine pure_ (i := 2) (N := some 22) (v := ?_) (a' := ?_) #[Yy,Yy,Yy,Nn,Nn,Nn,Nn,Nn,Nn,Nn,Nn,Nn,Nn,Nn,Nn,Nn,Nn,Nn,Nn,Nn] rfl rfl (any_of HT_.out (by kernel_rfl)) (fun _ _ _ h => h) (Or.inl ⟨by rfl, ?_⟩) ?_ ?_
     rotate_left
     ·intro w'
      go_simp
      with_reducible rfl
     rotate_left
     ·simp only [Act.put, List.setIfInBounds_toArray, List.set_cons_zero, List.set_cons_succ, i64_w, i32_w]
      rfl
     refine take_ (i := 3) (N := some 23) (v := ?_) (a' := ?_) #[Yy,Yy,Yy,Yy,Nn,Nn,Nn,Nn,Nn,Nn,Nn,Nn,Nn,Nn,Nn,Nn,Nn,Nn,Nn,Nn] rfl rfl (take_ofW HT_.out HW_.out (by kernel_rfl)) (fun _ _ _ h => h) (Or.inl ⟨by rfl, ?_⟩) hHeld ?_ ?_
     rotate_left
     ·rintro w' ⟨s0, s1, s2, s3, s4, s5, s6⟩
      go_simp
      with_reducible rfl
     rotate_left
     ·simp only [Act.put, List.setIfInBounds_toArray, List.set_cons_zero, List.set_cons_succ, i64_w, i32_w]
      rfl
     refine one_ (i := 4) (N := some 24) #[Yy,Yy,Yy,Yy,Yy,Nn,Nn,Nn,Nn,Nn,Nn,Nn,Nn,Nn,Nn,Nn,Nn,Nn,Nn,Nn] rfl rfl (one_of HT_.out (by kernel_rfl)) (by decide) (fun K hK => ?_)
     refine goes_ Tryz.func12 (by kernel_rfl) rfl #[.agg #[.bool t188, .int .u64 t189, .int .u64 t190, .int .i64 t191]] (by rfl) rfl rfl (by (try simp only [List.map_toArray, List.map_cons, List.map_nil]); first | done | rfl | (simp only [List.length_drop, List.length_take]; rfl)) ?_
     with_reducible refine (ranges_Size.calls t188 t189 t190 t191 t205 _ A5.out).mono ?_
     rintro e w24 ⟨rfl, hb⟩
     refine ⟨_, rfl, ?_⟩
     have n0_ := aM (blk_below (o := .cells #[.bool t188, .int .u64 t189, .int .u64 t190, .int .i64 t191] 26 (0, 0)) (by (with_reducible repeat (first | apply kN | apply kD | apply kA)); exact BK193.out) hb)
     have n1_ := aM (blk_below (o := .cells #[.bool t194, .int .u64 t195, .int .u64 t196] 24 (0, 0)) (by (with_reducible repeat (first | apply kN | apply kD | apply kA)); exact BK198.out) hb)
     have n2_ := aM (blk_below (o := .cells #[.bool t199, .int .u64 t200, .int .u64 t201, .int .i64 t202] 26 (0, 0)) (by (with_reducible repeat (first | apply kN | apply kD | apply kA)); exact BK204.out) hb)
     have n3_ := aM (below_step (by repeat (first | (with_reducible first | exact HB.out | apply bA | apply bN | apply bD | refine below_set ?_ (by apply Aside0.out; assumption)) | exact HB.out)) hb)
     clear BK193
     clear BK198
     clear BK204
     clear HB
     have BK193 := n0_
     have BK198 := n1_
     have BK204 := n2_
     have HB := n3_
     clear n0_ n1_ n2_ n3_
     (try clear hb)
     (try clear hb2)
     (try clear hk)
     (try clear hi)
     refine hK.out _ _ ⟨(kC BK193.out 0).trans rfl, (kC BK193.out 1).trans rfl, (kC BK193.out 2).trans rfl, (kC BK193.out 3).trans rfl, (kC BK198.out 0).trans rfl, (kC BK198.out 1).trans rfl, (kC BK198.out 2).trans rfl⟩ (fun hHeld => ?_)
     clear hK K
     refine norm_ (a' := ?_) ?_ ?_
     rotate_left
     ·show Act.put _ (some 24) _ = _
      simp only [Act.put, List.setIfInBounds_toArray, List.set_cons_zero, List.set_cons_succ, i64_w, i32_w]
      rfl
     refine pure_ (i := 5) (N := some 25) (v := ?_) (a' := ?_) #[Yy,Yy,Yy,Yy,Yy,Yy,Nn,Nn,Nn,Nn,Nn,Nn,Nn,Nn,Nn,Nn,Nn,Nn,Nn,Nn] rfl rfl (any_of HT_.out (by kernel_rfl)) (fun _ _ _ h => h) (Or.inl ⟨by rfl, ?_⟩) ?_ ?_
     rotate_left
     ·intro w'
      go_simp
      with_reducible rfl
     rotate_left
     ·simp only [Act.put, List.setIfInBounds_toArray, List.set_cons_zero, List.set_cons_succ, i64_w, i32_w]
      rfl
     refine pure_ (i := 6) (N := some 26) (v := ?_) (a' := ?_) #[Yy,Yy,Yy,Yy,Yy,Yy,Yy,Nn,Nn,Nn,Nn,Nn,Nn,Nn,Nn,Nn,Nn,Nn,Nn,Nn] rfl rfl (any_of HT_.out (by kernel_rfl)) (fun _ _ _ h => h) (Or.inl ⟨by rfl, ?_⟩) ?_ ?_
     rotate_left
     ·intro w'
      go_simp
      with_reducible rfl
     rotate_left
     ·simp only [Act.put, List.setIfInBounds_toArray, List.set_cons_zero, List.set_cons_succ, i64_w, i32_w]
      rfl
     refine pure_ (i := 7) (N := some 27) (v := ?_) (a' := ?_) #[Yy,Yy,Yy,Yy,Yy,Yy,Yy,Yy,Nn,Nn,Nn,Nn,Nn,Nn,Nn,Nn,Nn,Nn,Nn,Nn] rfl rfl (any_of HT_.out (by kernel_rfl)) (fun _ _ _ h => h) (Or.inl ⟨by rfl, ?_⟩) ?_ ?_
     rotate_left
     ·intro w'
      go_simp
      with_reducible rfl
     rotate_left
     ·simp only [Act.put, List.setIfInBounds_toArray, List.set_cons_zero, List.set_cons_succ, i64_w, i32_w]
      rfl
     refine pure_ (i := 8) (N := some 28) (v := ?_) (a' := ?_) #[Yy,Yy,Yy,Yy,Yy,Yy,Yy,Yy,Yy,Nn,Nn,Nn,Nn,Nn,Nn,Nn,Nn,Nn,Nn,Nn] rfl rfl (any_of HT_.out (by kernel_rfl)) (fun _ _ _ h => h) (Or.inl ⟨by rfl, ?_⟩) ?_ ?_
     rotate_left
     ·intro w'
      go_simp
      with_reducible rfl
     rotate_left
     ·simp only [Act.put, List.setIfInBounds_toArray, List.set_cons_zero, List.set_cons_succ, i64_w, i32_w]
      rfl
     refine pure_ (i := 9) (N := some 29) (v := ?_) (a' := ?_) #[Yy,Yy,Yy,Yy,Yy,Yy,Yy,Yy,Yy,Yy,Nn,Nn,Nn,Nn,Nn,Nn,Nn,Nn,Nn,Nn] rfl rfl (any_of HT_.out (by kernel_rfl)) (fun _ _ _ h => h) (Or.inl ⟨by rfl, ?_⟩) ?_ ?_
     rotate_left
     ·intro w'
      go_simp
      with_reducible rfl
     rotate_left
     ·simp only [Act.put, List.setIfInBounds_toArray, List.set_cons_zero, List.set_cons_succ, i64_w, i32_w]
      rfl
     refine pure_ (i := 10) (N := some 30) (v := ?_) (a' := ?_) #[Yy,Yy,Yy,Yy,Yy,Yy,Yy,Yy,Yy,Yy,Yy,Nn,Nn,Nn,Nn,Nn,Nn,Nn,Nn,Nn] rfl rfl (any_of HT_.out (by kernel_rfl)) (fun _ _ _ h => h) (Or.inl ⟨by rfl, ?_⟩) ?_ ?_
     rotate_left
     ·intro w'
      go_simp
      with_reducible rfl
     rotate_left
     ·simp only [Act.put, List.setIfInBounds_toArray, List.set_cons_zero, List.set_cons_succ, i64_w, i32_w]
      rfl
     refine take_ (i := 11) (N := some 31) (v := ?_) (a' := ?_) #[Yy,Yy,Yy,Yy,Yy,Yy,Yy,Yy,Yy,Yy,Yy,Yy,Nn,Nn,Nn,Nn,Nn,Nn,Nn,Nn] rfl rfl (take_ofW HT_.out HW_.out (by kernel_rfl)) (fun _ _ _ h => h) (Or.inl ⟨by rfl, ?_⟩) hHeld ?_ ?_
     rotate_left
     ·rintro w' ⟨s0, s1, s2, s3, s4, s5, s6⟩
      go_simp
      with_reducible rfl
     rotate_left
     ·simp only [Act.put, List.setIfInBounds_toArray, List.set_cons_zero, List.set_cons_succ, i64_w, i32_w]
      rfl
     refine one_ (i := 12) (N := some 32) #[Yy,Yy,Yy,Yy,Yy,Yy,Yy,Yy,Yy,Yy,Yy,Yy,Yy,Nn,Nn,Nn,Nn,Nn,Nn,Nn] rfl rfl (one_of HT_.out (by kernel_rfl)) (by decide) (fun K hK => ?_)
     refine goes_ Tryz.func25 (by kernel_rfl) rfl #[.int .u8 10, .int .u8 0, .int .u8 0, .int .u8 3] (by rfl) rfl rfl (by (try simp only [List.map_toArray, List.map_cons, List.map_nil]); first | done | rfl | (simp only [List.length_drop, List.length_take]; rfl)) ?_
     with_reducible refine (addr_Four.calls k 10 0 0 3 t206 t207 t208 _ A8.out).mono ?_
     rintro e w25 ⟨rfl, hb⟩
     refine ⟨_, rfl, ?_⟩
     have n0_ := aM (blk_below (o := .cells #[.bool t188, .int .u64 t189, .int .u64 t190, .int .i64 t191] 26 (0, 0)) (by (with_reducible repeat (first | apply kN | apply kD | apply kA)); exact BK193.out) hb)
     have n1_ := aM (blk_below (o := .cells #[.bool t194, .int .u64 t195, .int .u64 t196] 24 (0, 0)) (by (with_reducible repeat (first | apply kN | apply kD | apply kA)); exact BK198.out) hb)
     have n2_ := aM (blk_below (o := .cells #[.bool t199, .int .u64 t200, .int .u64 t201, .int .i64 t202] 26 (0, 0)) (by (with_reducible repeat (first | apply kN | apply kD | apply kA)); exact BK204.out) hb)
     have n3_ := aM (below_step (by repeat (first | (with_reducible first | exact HB.out | apply bA | apply bN | apply bD | refine below_set ?_ (by apply Aside0.out; assumption)) | exact HB.out)) hb)
     clear BK193
     clear BK198
     clear BK204
     clear HB
     have BK193 := n0_
     have BK198 := n1_
     have BK204 := n2_
     have HB := n3_
     clear n0_ n1_ n2_ n3_
     (try clear hb)
     (try clear hb2)
     (try clear hk)
     (try clear hi)
     refine hK.out _ _ ⟨(kC BK193.out 0).trans rfl, (kC BK193.out 1).trans rfl, (kC BK193.out 2).trans rfl, (kC BK193.out 3).trans rfl, (kC BK198.out 0).trans rfl, (kC BK198.out 1).trans rfl, (kC BK198.out 2).trans rfl⟩ (fun hHeld => ?_)
     clear hK K
     refine norm_ (a' := ?_) ?_ ?_
     rotate_left
     ·show Act.put _ (some 32) _ = _
      simp only [Act.put, List.setIfInBounds_toArray, List.set_cons_zero, List.set_cons_succ, i64_w, i32_w]
      rfl
     refine pure_ (i := 13) (N := some 33) (v := ?_) (a' := ?_) #[Yy,Yy,Yy,Yy,Yy,Yy,Yy,Yy,Yy,Yy,Yy,Yy,Yy,Yy,Nn,Nn,Nn,Nn,Nn,Nn] rfl rfl (any_of HT_.out (by kernel_rfl)) (fun _ _ _ h => h) (Or.inl ⟨by rfl, ?_⟩) ?_ ?_
     rotate_left
     ·intro w'
      go_simp
      with_reducible rfl
     rotate_left
     ·simp only [Act.put, List.setIfInBounds_toArray, List.set_cons_zero, List.set_cons_succ, i64_w, i32_w]
      rfl
     refine pure_ (i := 14) (N := some 34) (v := ?_) (a' := ?_) #[Yy,Yy,Yy,Yy,Yy,Yy,Yy,Yy,Yy,Yy,Yy,Yy,Yy,Yy,Yy,Nn,Nn,Nn,Nn,Nn] rfl rfl (any_of HT_.out (by kernel_rfl)) (fun _ _ _ h => h) (Or.inl ⟨by rfl, ?_⟩) ?_ ?_
     rotate_left
     ·intro w'
      go_simp
      with_reducible rfl
     rotate_left
     ·simp only [Act.put, List.setIfInBounds_toArray, List.set_cons_zero, List.set_cons_succ, i64_w, i32_w]
      rfl
     refine pure_ (i := 15) (N := some 35) (v := ?_) (a' := ?_) #[Yy,Yy,Yy,Yy,Yy,Yy,Yy,Yy,Yy,Yy,Yy,Yy,Yy,Yy,Yy,Yy,Nn,Nn,Nn,Nn] rfl rfl (any_of HT_.out (by kernel_rfl)) (fun _ _ _ h => h) (Or.inl ⟨by rfl, ?_⟩) ?_ ?_
     rotate_left
     ·intro w'
      go_simp
      with_reducible rfl
     rotate_left
     ·simp only [Act.put, List.setIfInBounds_toArray, List.set_cons_zero, List.set_cons_succ, i64_w, i32_w]
      rfl
     refine pure_ (i := 16) (N := some 36) (v := ?_) (a' := ?_) #[Yy,Yy,Yy,Yy,Yy,Yy,Yy,Yy,Yy,Yy,Yy,Yy,Yy,Yy,Yy,Yy,Yy,Nn,Nn,Nn] rfl rfl (any_of HT_.out (by kernel_rfl)) (fun _ _ _ h => h) (Or.inl ⟨by rfl, ?_⟩) ?_ ?_
     rotate_left
     ·intro w'
      go_simp
      with_reducible rfl
     rotate_left
     ·simp only [Act.put, List.setIfInBounds_toArray, List.set_cons_zero, List.set_cons_succ, i64_w, i32_w]
      rfl
     refine pure_ (i := 17) (N := some 37) (v := ?_) (a' := ?_) #[Yy,Yy,Yy,Yy,Yy,Yy,Yy,Yy,Yy,Yy,Yy,Yy,Yy,Yy,Yy,Yy,Yy,Yy,Nn,Nn] rfl rfl (any_of HT_.out (by kernel_rfl)) (fun _ _ _ h => h) (Or.inl ⟨by rfl, ?_⟩) ?_ ?_
     rotate_left
     ·intro w'
      go_simp
      with_reducible rfl
     rotate_left
     ·simp only [Act.put, List.setIfInBounds_toArray, List.set_cons_zero, List.set_cons_succ, i64_w, i32_w]
      rfl
     refine pure_ (i := 18) (N := some 38) (v := ?_) (a' := ?_) #[Yy,Yy,Yy,Yy,Yy,Yy,Yy,Yy,Yy,Yy,Yy,Yy,Yy,Yy,Yy,Yy,Yy,Yy,Yy,Nn] rfl rfl (any_of HT_.out (by kernel_rfl)) (fun _ _ _ h => h) (Or.inl ⟨by rfl, ?_⟩) ?_ ?_
     rotate_left
     ·intro w'
      go_simp
      with_reducible rfl
     rotate_left
     ·simp only [Act.put, List.setIfInBounds_toArray, List.set_cons_zero, List.set_cons_succ, i64_w, i32_w]
      rfl
     refine pure_ (i := 19) (N := some 0) (v := ?_) (a' := ?_) #[Yy,Yy,Yy,Yy,Yy,Yy,Yy,Yy,Yy,Yy,Yy,Yy,Yy,Yy,Yy,Yy,Yy,Yy,Yy,Yy] rfl rfl (any_of HT_.out (by kernel_rfl)) (fun _ _ _ h => h) (Or.inl ⟨by rfl, ?_⟩) ?_ ?_
     rotate_left
     ·intro w'
      go_simp
      with_reducible rfl
     rotate_left
     ·simp only [Act.put, List.setIfInBounds_toArray, List.set_cons_zero, List.set_cons_succ, i64_w, i32_w]
      rfl
     refine done_ (done_of HT_.out (by kernel_rfl)) ?_
     try go_wp2
     go_ret
     exact ⟨by first | rfl | (simp [errW_none, errW_some] <;> rfl) | (simp [*, errW_none, errW_some] <;> rfl), by repeat (first | (with_reducible first | exact HB.out | apply bA | apply bN | apply bD | refine below_set ?_ (by apply Aside0.out; assumption)) | exact HB.out)⟩
    ·rw [if_neg c9] at H
     have c9b0 : (t194 == t206 && (t195 == t207 && (t196 == t208))) = false := by simpa using c9
     (try (have c9b1 : decide (t194 = t206 && (t195 == t207 && (t196 == t208))) = false := by simpa using c9))
     (try (have c9b2 : (t194 == t206 && (t195 == t207 && (t196 == t208))) = false := by simpa using c9))
     (try (have c9b3 : ¬ (t194 = t206 && (t195 == t207 && (t196 == t208))) := by simpa using c9))
     clear c9
     obtain rfl := Option.some.inj H
     go_enter Tryz.func10, Tryz.ntmps10
     try go_wp2_with (first | ((with_reducible refine gate_callee (f := 22) rfl ?_); refine goesL_ (some 8) rfl rfl Tryz.func22 (by kernel_rfl) rfl #[.string (⟨#[49, 48, 46, 48, 46, 48, 46, 48, 47, 51, 48]⟩ : ByteArray)] rfl (by (try simp only [List.map_toArray, List.map_cons, List.map_nil]); first | done | rfl | (simp only [List.length_drop, List.length_take]; rfl)) ?_; (with_reducible refine (ranges_Read.calls k (⟨#[49, 48, 46, 48, 46, 48, 46, 48, 47, 51, 48]⟩ : ByteArray) t188 t189 t190 t191 t192 _ ⟨hG_.out.below (by repeat (first | (with_reducible first | exact HB.out | apply bA | apply bN | apply bD | refine below_set ?_ (by apply Aside0.out; assumption)) | exact HB.out | exact Below.refl _ _))⟩ A1.out).mono ?_); rintro e w26 ⟨rfl, hb⟩; refine ⟨_, rfl, ?_⟩; have n0_ := aM (below_step (by repeat (first | (with_reducible first | exact HB.out | apply bA | apply bN | apply bD) | exact HB.out)) hb); clear HB; have HB := n0_; clear n0_; (try clear hb); (try clear hb2); (try clear hk); (try clear hi)) | ((with_reducible refine gate_dst (N := 1) rfl ?_); refine box_event ?hg (N := 1) ?hd (cs := #[.bool false, .int .u64 0, .int .u64 0, .int .i64 0]) (t := 26) ?hr ?_; (case hd => rfl); (case hg => rfl); (case hr => first | (go_simp; done) | (go_simp; rfl)); intro gb193 hg w27 hbox hb; have n0_ := aM (below_step (by repeat (first | (with_reducible first | exact HB.out | apply bA | apply bN | apply bD) | exact HB.out)) hb); have n1_ := aM (hbox); have n2_ := aM ((by rw [hg]; exact (below_size (by repeat (first | (with_reducible first | exact HB.out | apply bA | apply bN | apply bD) | exact HB.out))) : w.heap.size ≤ gb193)); have n3_ := aM ((by rw [hg]; exact (below_size (by repeat (first | (with_reducible first | exact HB.out | apply bA | apply bN | apply bD) | exact HB.out))) : w.heap.size ≤ gb193)); clear HB; have HB := n0_; have BK193 := n1_; have GW193 := n2_; have GE193 := n3_; clear n0_ n1_ n2_ n3_; clear hb hbox hg; have hcz28_0 : w27.cell? ⟨gb193, 0, none⟩ = some (.bool false) := (kC BK193.out 0).trans rfl; have hcz28_1 : w27.cell? ⟨gb193, 1, none⟩ = some (.int .u64 0) := (kC BK193.out 1).trans rfl; have hcz28_2 : w27.cell? ⟨gb193, 2, none⟩ = some (.int .u64 0) := (kC BK193.out 2).trans rfl; have hcz28_3 : w27.cell? ⟨gb193, 3, none⟩ = some (.int .i64 0) := (kC BK193.out 3).trans rfl; have hfz28_0 := kF BK193.out 0; have hfz28_1 := kF BK193.out 1; have hfz28_2 := kF BK193.out 2; have hfz28_3 := kF BK193.out 3) | ((with_reducible refine gate_callee (f := 13) rfl ?_); refine goesL_ (some 13) rfl rfl Tryz.func13 (by kernel_rfl) rfl #[.agg #[.bool t188, .int .u64 t189, .int .u64 t190, .int .i64 t191], .int .i64 3] rfl (by (try simp only [List.map_toArray, List.map_cons, List.map_nil]); first | done | rfl | (simp only [List.length_drop, List.length_take]; rfl)) ?_; (with_reducible refine (ranges_At.calls t188 t189 t190 t191 3 t194 t195 t196 true _ A2.out).mono ?_); rintro e w29 ⟨rfl, hb⟩; refine ⟨_, rfl, ?_⟩; have n0_ := aM (blk_below (o := .cells #[.bool t188, .int .u64 t189, .int .u64 t190, .int .i64 t191] 26 (0, 0)) (by (with_reducible repeat (first | apply kN | apply kD | apply kA)); refine blk_put (cs := #[.bool t188, .int .u64 t189, .int .u64 t190, .int .i64 0]) ?_ 3 _ rfl; (with_reducible repeat (first | apply kN | apply kD | apply kA)); refine blk_put (cs := #[.bool t188, .int .u64 t189, .int .u64 0, .int .i64 0]) ?_ 2 _ rfl; (with_reducible repeat (first | apply kN | apply kD | apply kA)); refine blk_put (cs := #[.bool t188, .int .u64 0, .int .u64 0, .int .i64 0]) ?_ 1 _ rfl; (with_reducible repeat (first | apply kN | apply kD | apply kA)); refine blk_put (cs := #[.bool false, .int .u64 0, .int .u64 0, .int .i64 0]) ?_ 0 _ rfl; (with_reducible repeat (first | apply kN | apply kD | apply kA)); exact BK193.out) hb); have n1_ := aM (below_step (by repeat (first | (with_reducible first | exact HB.out | apply bA | apply bN | apply bD | refine below_set ?_ (by apply Aside0.out; assumption)) | exact HB.out)) hb); clear BK193; clear HB; have BK193 := n0_; have HB := n1_; clear n0_ n1_; (try clear hb); (try clear hb2); (try clear hk); (try clear hi)) | ((with_reducible refine gate_dst (N := 3) rfl ?_); refine box_event ?hg (N := 3) ?hd (cs := #[.bool false, .int .u64 0, .int .u64 0]) (t := 24) ?hr ?_; (case hd => rfl); (case hg => rfl); (case hr => first | (go_simp; done) | (go_simp; rfl)); intro gb198 hg w30 hbox hb; have n0_ := aM (blk_below (o := .cells #[.bool t188, .int .u64 t189, .int .u64 t190, .int .i64 t191] 26 (0, 0)) (by (with_reducible repeat (first | apply kN | apply kD | apply kA)); exact BK193.out) hb); have n1_ := aM (below_step (by repeat (first | (with_reducible first | exact HB.out | apply bA | apply bN | apply bD | refine below_set ?_ (by apply Aside0.out; assumption)) | exact HB.out)) hb); have n2_ := aM (hbox); have n3_ := aM ((by rw [hg]; exact (below_size (by repeat (first | (with_reducible first | exact HB.out | apply bA | apply bN | apply bD | refine below_set ?_ (by apply Aside0.out; assumption)) | exact HB.out))) : w.heap.size ≤ gb198)); have n4_ := aM ((by rw [hg]; exact (below_size (by repeat (first | (with_reducible first | exact HB.out | apply bA | apply bN | apply bD | refine below_set ?_ (by apply Aside0.out; assumption)) | exact HB.out))) : w.heap.size ≤ gb198)); have n5_ := aM ((by rw [hg]; exact Nat.ne_of_lt (blk_lt (g := gb193) (o := .cells #[.bool t188, .int .u64 t189, .int .u64 t190, .int .i64 t191] 26 (0, 0)) (by (with_reducible repeat (first | apply kN | apply kD | apply kA)); exact BK193.out)) : gb193 ≠ gb198)); have n6_ := aM ((by rw [hg]; exact Nat.ne_of_gt (blk_lt (g := gb193) (o := .cells #[.bool t188, .int .u64 t189, .int .u64 t190, .int .i64 t191] 26 (0, 0)) (by (with_reducible repeat (first | apply kN | apply kD | apply kA)); exact BK193.out)) : gb198 ≠ gb193)); clear BK193; clear HB; have BK193 := n0_; have HB := n1_; have BK198 := n2_; have GW198 := n3_; have GE198 := n4_; have NB193_198 := n5_; have NB198_193 := n6_; clear n0_ n1_ n2_ n3_ n4_ n5_ n6_; clear hb hbox hg; have hnb31 := NB198_193.out; have hnc31 := NB193_198.out; have hcz32_0 : w30.cell? ⟨gb198, 0, none⟩ = some (.bool false) := (kC BK198.out 0).trans rfl; have hcz32_1 : w30.cell? ⟨gb198, 1, none⟩ = some (.int .u64 0) := (kC BK198.out 1).trans rfl; have hcz32_2 : w30.cell? ⟨gb198, 2, none⟩ = some (.int .u64 0) := (kC BK198.out 2).trans rfl; have hfz32_0 := kF BK198.out 0; have hfz32_1 := kF BK198.out 1; have hfz32_2 := kF BK198.out 2) | ((with_reducible refine gate_callee (f := 22) rfl ?_); refine goesL_ (some 17) rfl rfl Tryz.func22 (by kernel_rfl) rfl #[.string (⟨#[49, 48, 46, 48, 46, 48, 46, 49, 47, 51, 48]⟩ : ByteArray)] rfl (by (try simp only [List.map_toArray, List.map_cons, List.map_nil]); first | done | rfl | (simp only [List.length_drop, List.length_take]; rfl)) ?_; (with_reducible refine (ranges_Read.calls k (⟨#[49, 48, 46, 48, 46, 48, 46, 49, 47, 51, 48]⟩ : ByteArray) t199 t200 t201 t202 t203 _ ⟨hG_.out.below (by repeat (first | (with_reducible first | exact HB.out | apply bA | apply bN | apply bD | refine below_set ?_ (by apply Aside0.out; assumption)) | exact HB.out | exact Below.refl _ _))⟩ A3.out).mono ?_); rintro e w33 ⟨rfl, hb⟩; refine ⟨_, rfl, ?_⟩; have n0_ := aM (blk_below (o := .cells #[.bool t188, .int .u64 t189, .int .u64 t190, .int .i64 t191] 26 (0, 0)) (by (with_reducible repeat (first | apply kN | apply kD | apply kA)); refine blk_far ?_ NB193_198.out _; (with_reducible repeat (first | apply kN | apply kD | apply kA)); refine blk_far ?_ NB193_198.out _; (with_reducible repeat (first | apply kN | apply kD | apply kA)); refine blk_far ?_ NB193_198.out _; (with_reducible repeat (first | apply kN | apply kD | apply kA)); exact BK193.out) hb); have n1_ := aM (blk_below (o := .cells #[.bool t194, .int .u64 t195, .int .u64 t196] 24 (0, 0)) (by (with_reducible repeat (first | apply kN | apply kD | apply kA)); refine blk_put (cs := #[.bool t194, .int .u64 t195, .int .u64 0]) ?_ 2 _ rfl; (with_reducible repeat (first | apply kN | apply kD | apply kA)); refine blk_put (cs := #[.bool t194, .int .u64 0, .int .u64 0]) ?_ 1 _ rfl; (with_reducible repeat (first | apply kN | apply kD | apply kA)); refine blk_put (cs := #[.bool false, .int .u64 0, .int .u64 0]) ?_ 0 _ rfl; (with_reducible repeat (first | apply kN | apply kD | apply kA)); exact BK198.out) hb); have n2_ := aM (below_step (by repeat (first | (with_reducible first | exact HB.out | apply bA | apply bN | apply bD | refine below_set ?_ (by apply Aside0.out; assumption)) | exact HB.out)) hb); clear BK193; clear BK198; clear HB; have BK193 := n0_; have BK198 := n1_; have HB := n2_; clear n0_ n1_ n2_; (try clear hb); (try clear hb2); (try clear hk); (try clear hi)) | ((with_reducible refine gate_dst (N := 5) rfl ?_); refine box_event ?hg (N := 5) ?hd (cs := #[.bool false, .int .u64 0, .int .u64 0, .int .i64 0]) (t := 26) ?hr ?_; (case hd => rfl); (case hg => rfl); (case hr => first | (go_simp; done) | (go_simp; rfl)); intro gb204 hg w34 hbox hb; have n0_ := aM (blk_below (o := .cells #[.bool t188, .int .u64 t189, .int .u64 t190, .int .i64 t191] 26 (0, 0)) (by (with_reducible repeat (first | apply kN | apply kD | apply kA)); exact BK193.out) hb); have n1_ := aM (blk_below (o := .cells #[.bool t194, .int .u64 t195, .int .u64 t196] 24 (0, 0)) (by (with_reducible repeat (first | apply kN | apply kD | apply kA)); exact BK198.out) hb); have n2_ := aM (below_step (by repeat (first | (with_reducible first | exact HB.out | apply bA | apply bN | apply bD | refine below_set ?_ (by apply Aside0.out; assumption)) | exact HB.out)) hb); have n3_ := aM (hbox); have n4_ := aM ((by rw [hg]; exact (below_size (by repeat (first | (with_reducible first | exact HB.out | apply bA | apply bN | apply bD | refine below_set ?_ (by apply Aside0.out; assumption)) | exact HB.out))) : w.heap.size ≤ gb204)); have n5_ := aM ((by rw [hg]; exact (below_size (by repeat (first | (with_reducible first | exact HB.out | apply bA | apply bN | apply bD | refine below_set ?_ (by apply Aside0.out; assumption)) | exact HB.out))) : w.heap.size ≤ gb204)); have n6_ := aM ((by rw [hg]; exact Nat.ne_of_lt (blk_lt (g := gb193) (o := .cells #[.bool t188, .int .u64 t189, .int .u64 t190, .int .i64 t191] 26 (0, 0)) (by (with_reducible repeat (first | apply kN | apply kD | apply kA)); exact BK193.out)) : gb193 ≠ gb204)); have n7_ := aM ((by rw [hg]; exact Nat.ne_of_gt (blk_lt (g := gb193) (o := .cells #[.bool t188, .int .u64 t189, .int .u64 t190, .int .i64 t191] 26 (0, 0)) (by (with_reducible repeat (first | apply kN | apply kD | apply kA)); exact BK193.out)) : gb204 ≠ gb193)); have n8_ := aM ((by rw [hg]; exact Nat.ne_of_lt (blk_lt (g := gb198) (o := .cells #[.bool t194, .int .u64 t195, .int .u64 t196] 24 (0, 0)) (by (with_reducible repeat (first | apply kN | apply kD | apply kA)); exact BK198.out)) : gb198 ≠ gb204)); have n9_ := aM ((by rw [hg]; exact Nat.ne_of_gt (blk_lt (g := gb198) (o := .cells #[.bool t194, .int .u64 t195, .int .u64 t196] 24 (0, 0)) (by (with_reducible repeat (first | apply kN | apply kD | apply kA)); exact BK198.out)) : gb204 ≠ gb198)); clear BK193; clear BK198; clear HB; have BK193 := n0_; have BK198 := n1_; have HB := n2_; have BK204 := n3_; have GW204 := n4_; have GE204 := n5_; have NB193_204 := n6_; have NB204_193 := n7_; have NB198_204 := n8_; have NB204_198 := n9_; clear n0_ n1_ n2_ n3_ n4_ n5_ n6_ n7_ n8_ n9_; clear hb hbox hg; have hnb35 := NB204_193.out; have hnc35 := NB193_204.out; have hnb36 := NB204_198.out; have hnc36 := NB198_204.out; have hcz37_0 : w34.cell? ⟨gb204, 0, none⟩ = some (.bool false) := (kC BK204.out 0).trans rfl; have hcz37_1 : w34.cell? ⟨gb204, 1, none⟩ = some (.int .u64 0) := (kC BK204.out 1).trans rfl; have hcz37_2 : w34.cell? ⟨gb204, 2, none⟩ = some (.int .u64 0) := (kC BK204.out 2).trans rfl; have hcz37_3 : w34.cell? ⟨gb204, 3, none⟩ = some (.int .i64 0) := (kC BK204.out 3).trans rfl; have hfz37_0 := kF BK204.out 0; have hfz37_1 := kF BK204.out 1; have hfz37_2 := kF BK204.out 2; have hfz37_3 := kF BK204.out 3))
     have n0_ : Aside0 (((((w34.setCell ⟨gb204, 0, none⟩ (.bool t199)).setCell ⟨gb204, 1, none⟩ (.int .u64 t200)).setCell ⟨gb204, 2, none⟩ (.int .u64 t201)).setCell ⟨gb204, 3, none⟩ (.int .i64 t202)).heap[gb193]? = some (.cells #[.bool t188, .int .u64 t189, .int .u64 t190, .int .i64 t191] 26 (0, 0))) := ⟨by (with_reducible repeat (first | apply kN | apply kD | apply kA)); refine blk_far ?_ NB193_204.out _; (with_reducible repeat (first | apply kN | apply kD | apply kA)); refine blk_far ?_ NB193_204.out _; (with_reducible repeat (first | apply kN | apply kD | apply kA)); refine blk_far ?_ NB193_204.out _; (with_reducible repeat (first | apply kN | apply kD | apply kA)); refine blk_far ?_ NB193_204.out _; (with_reducible repeat (first | apply kN | apply kD | apply kA)); exact BK193.out⟩
     have n1_ : Aside0 (((((w34.setCell ⟨gb204, 0, none⟩ (.bool t199)).setCell ⟨gb204, 1, none⟩ (.int .u64 t200)).setCell ⟨gb204, 2, none⟩ (.int .u64 t201)).setCell ⟨gb204, 3, none⟩ (.int .i64 t202)).heap[gb198]? = some (.cells #[.bool t194, .int .u64 t195, .int .u64 t196] 24 (0, 0))) := ⟨by (with_reducible repeat (first | apply kN | apply kD | apply kA)); refine blk_far ?_ NB198_204.out _; (with_reducible repeat (first | apply kN | apply kD | apply kA)); refine blk_far ?_ NB198_204.out _; (with_reducible repeat (first | apply kN | apply kD | apply kA)); refine blk_far ?_ NB198_204.out _; (with_reducible repeat (first | apply kN | apply kD | apply kA)); refine blk_far ?_ NB198_204.out _; (with_reducible repeat (first | apply kN | apply kD | apply kA)); exact BK198.out⟩
     have n2_ : Aside0 (((((w34.setCell ⟨gb204, 0, none⟩ (.bool t199)).setCell ⟨gb204, 1, none⟩ (.int .u64 t200)).setCell ⟨gb204, 2, none⟩ (.int .u64 t201)).setCell ⟨gb204, 3, none⟩ (.int .i64 t202)).heap[gb204]? = some (.cells #[.bool t199, .int .u64 t200, .int .u64 t201, .int .i64 t202] 26 (0, 0))) := ⟨by (with_reducible repeat (first | apply kN | apply kD | apply kA)); refine blk_put (cs := #[.bool t199, .int .u64 t200, .int .u64 t201, .int .i64 0]) ?_ 3 _ rfl; (with_reducible repeat (first | apply kN | apply kD | apply kA)); refine blk_put (cs := #[.bool t199, .int .u64 t200, .int .u64 0, .int .i64 0]) ?_ 2 _ rfl; (with_reducible repeat (first | apply kN | apply kD | apply kA)); refine blk_put (cs := #[.bool t199, .int .u64 0, .int .u64 0, .int .i64 0]) ?_ 1 _ rfl; (with_reducible repeat (first | apply kN | apply kD | apply kA)); refine blk_put (cs := #[.bool false, .int .u64 0, .int .u64 0, .int .i64 0]) ?_ 0 _ rfl; (with_reducible repeat (first | apply kN | apply kD | apply kA)); exact BK204.out⟩
     have n3_ : Aside0 (Below w.heap.size w ((((w34.setCell ⟨gb204, 0, none⟩ (.bool t199)).setCell ⟨gb204, 1, none⟩ (.int .u64 t200)).setCell ⟨gb204, 2, none⟩ (.int .u64 t201)).setCell ⟨gb204, 3, none⟩ (.int .i64 t202))) := ⟨by repeat (first | (with_reducible first | exact HB.out | apply bA | apply bN | apply bD | refine below_set ?_ (by apply Aside0.out; assumption)) | exact HB.out)⟩
     (try clear BK193)
     (try clear BK198)
     (try clear BK204)
     (try clear HB)
     (try (repeat rw [setCell_drewN_]))
     generalize ((((w34.setCell ⟨gb204, 0, none⟩ (.bool t199)).setCell ⟨gb204, 1, none⟩ (.int .u64 t200)).setCell ⟨gb204, 2, none⟩ (.int .u64 t201)).setCell ⟨gb204, 3, none⟩ (.int .i64 t202)) = w38 at n0_ n1_ n2_ n3_ ⊢
     have BK193 := n0_
     have BK198 := n1_
     have BK204 := n2_
     have HB := n3_
     clear n0_ n1_ n2_ n3_
     have n0_ := aM (kD BK193.out)
     have n1_ := aM (kD BK198.out)
     have n2_ := aM (kD BK204.out)
     have n3_ := aM (bD HB.out)
     clear BK193
     clear BK198
     clear BK204
     clear HB
     have BK193 := n0_
     have BK198 := n1_
     have BK204 := n2_
     have HB := n3_
     clear n0_ n1_ n2_ n3_
     refine start_ (n := 20) (S := fun w' => w'.cell? ⟨gb193, 0, none⟩ = some (.bool t188) ∧ w'.cell? ⟨gb193, 1, none⟩ = some (.int .u64 t189) ∧ w'.cell? ⟨gb193, 2, none⟩ = some (.int .u64 t190) ∧ w'.cell? ⟨gb193, 3, none⟩ = some (.int .i64 t191) ∧ w'.cell? ⟨gb198, 0, none⟩ = some (.bool t194) ∧ w'.cell? ⟨gb198, 1, none⟩ = some (.int .u64 t195) ∧ w'.cell? ⟨gb198, 2, none⟩ = some (.int .u64 t196)) (ds := []) #[Nn,Nn,Nn,Nn,Nn,Nn,Nn,Nn,Nn,Nn,Nn,Nn,Nn,Nn,Nn,Nn,Nn,Nn,Nn,Nn] (by kernel_rfl) rfl rfl ⟨(kC BK193.out 0).trans rfl, (kC BK193.out 1).trans rfl, (kC BK193.out 2).trans rfl, (kC BK193.out 3).trans rfl, (kC BK198.out 0).trans rfl, (kC BK198.out 1).trans rfl, (kC BK198.out 2).trans rfl⟩ (fun hHeld => ?_); refine with_tabW nameplatelaw05_lives.tab4 nameplatelaw05_lives.bits4 (fun HT_ HW_ => ?_)
     generalize w38.drew = w39 at BK193 BK198 BK204 HB hHeld ⊢
     refine pure_ (i := 0) (N := some 20) (v := ?_) (a' := ?_) #[Yy,Nn,Nn,Nn,Nn,Nn,Nn,Nn,Nn,Nn,Nn,Nn,Nn,Nn,Nn,Nn,Nn,Nn,Nn,Nn] rfl rfl (any_of HT_.out (by kernel_rfl)) (fun _ _ _ h => h) (Or.inl ⟨by rfl, ?_⟩) ?_ ?_
     rotate_left
     ·intro w'
      go_simp
      with_reducible rfl
     rotate_left
     ·simp only [Act.put, List.setIfInBounds_toArray, List.set_cons_zero, List.set_cons_succ, i64_w, i32_w]
      rfl
     refine pure_ (i := 1) (N := some 21) (v := ?_) (a' := ?_) #[Yy,Yy,Nn,Nn,Nn,Nn,Nn,Nn,Nn,Nn,Nn,Nn,Nn,Nn,Nn,Nn,Nn,Nn,Nn,Nn] rfl rfl (any_of HT_.out (by kernel_rfl)) (fun _ _ _ h => h) (Or.inl ⟨by rfl, ?_⟩) ?_ ?_
     rotate_left
     ·intro w'
      go_simp
      with_reducible rfl
     rotate_left
     ·simp only [Act.put, List.setIfInBounds_toArray, List.set_cons_zero, List.set_cons_succ, i64_w, i32_w]
      rfl
     refine pure_ (i := 2) (N := some 22) (v := ?_) (a' := ?_) #[Yy,Yy,Yy,Nn,Nn,Nn,Nn,Nn,Nn,Nn,Nn,Nn,Nn,Nn,Nn,Nn,Nn,Nn,Nn,Nn] rfl rfl (any_of HT_.out (by kernel_rfl)) (fun _ _ _ h => h) (Or.inl ⟨by rfl, ?_⟩) ?_ ?_
     rotate_left
     ·intro w'
      go_simp
      with_reducible rfl
     rotate_left
     ·simp only [Act.put, List.setIfInBounds_toArray, List.set_cons_zero, List.set_cons_succ, i64_w, i32_w]
      rfl
     refine take_ (i := 3) (N := some 23) (v := ?_) (a' := ?_) #[Yy,Yy,Yy,Yy,Nn,Nn,Nn,Nn,Nn,Nn,Nn,Nn,Nn,Nn,Nn,Nn,Nn,Nn,Nn,Nn] rfl rfl (take_ofW HT_.out HW_.out (by kernel_rfl)) (fun _ _ _ h => h) (Or.inl ⟨by rfl, ?_⟩) hHeld ?_ ?_
     rotate_left
     ·rintro w' ⟨s0, s1, s2, s3, s4, s5, s6⟩
      go_simp
      with_reducible rfl
     rotate_left
     ·simp only [Act.put, List.setIfInBounds_toArray, List.set_cons_zero, List.set_cons_succ, i64_w, i32_w]
      rfl
     refine one_ (i := 4) (N := some 24) #[Yy,Yy,Yy,Yy,Yy,Nn,Nn,Nn,Nn,Nn,Nn,Nn,Nn,Nn,Nn,Nn,Nn,Nn,Nn,Nn] rfl rfl (one_of HT_.out (by kernel_rfl)) (by decide) (fun K hK => ?_)
     refine goes_ Tryz.func12 (by kernel_rfl) rfl #[.agg #[.bool t188, .int .u64 t189, .int .u64 t190, .int .i64 t191]] (by rfl) rfl rfl (by (try simp only [List.map_toArray, List.map_cons, List.map_nil]); first | done | rfl | (simp only [List.length_drop, List.length_take]; rfl)) ?_
     with_reducible refine (ranges_Size.calls t188 t189 t190 t191 t205 _ A5.out).mono ?_
     rintro e w40 ⟨rfl, hb⟩
     refine ⟨_, rfl, ?_⟩
     have n0_ := aM (blk_below (o := .cells #[.bool t188, .int .u64 t189, .int .u64 t190, .int .i64 t191] 26 (0, 0)) (by (with_reducible repeat (first | apply kN | apply kD | apply kA)); exact BK193.out) hb)
     have n1_ := aM (blk_below (o := .cells #[.bool t194, .int .u64 t195, .int .u64 t196] 24 (0, 0)) (by (with_reducible repeat (first | apply kN | apply kD | apply kA)); exact BK198.out) hb)
     have n2_ := aM (blk_below (o := .cells #[.bool t199, .int .u64 t200, .int .u64 t201, .int .i64 t202] 26 (0, 0)) (by (with_reducible repeat (first | apply kN | apply kD | apply kA)); exact BK204.out) hb)
     have n3_ := aM (below_step (by repeat (first | (with_reducible first | exact HB.out | apply bA | apply bN | apply bD | refine below_set ?_ (by apply Aside0.out; assumption)) | exact HB.out)) hb)
     clear BK193
     clear BK198
     clear BK204
     clear HB
     have BK193 := n0_
     have BK198 := n1_
     have BK204 := n2_
     have HB := n3_
     clear n0_ n1_ n2_ n3_
     (try clear hb)
     (try clear hb2)
     (try clear hk)
     (try clear hi)
     refine hK.out _ _ ⟨(kC BK193.out 0).trans rfl, (kC BK193.out 1).trans rfl, (kC BK193.out 2).trans rfl, (kC BK193.out 3).trans rfl, (kC BK198.out 0).trans rfl, (kC BK198.out 1).trans rfl, (kC BK198.out 2).trans rfl⟩ (fun hHeld => ?_)
     clear hK K
     refine norm_ (a' := ?_) ?_ ?_
     rotate_left
     ·show Act.put _ (some 24) _ = _
      simp only [Act.put, List.setIfInBounds_toArray, List.set_cons_zero, List.set_cons_succ, i64_w, i32_w]
      rfl
     refine pure_ (i := 5) (N := some 25) (v := ?_) (a' := ?_) #[Yy,Yy,Yy,Yy,Yy,Yy,Nn,Nn,Nn,Nn,Nn,Nn,Nn,Nn,Nn,Nn,Nn,Nn,Nn,Nn] rfl rfl (any_of HT_.out (by kernel_rfl)) (fun _ _ _ h => h) (Or.inl ⟨by rfl, ?_⟩) ?_ ?_
     rotate_left
     ·intro w'
      go_simp
      with_reducible rfl
     rotate_left
     ·simp only [Act.put, List.setIfInBounds_toArray, List.set_cons_zero, List.set_cons_succ, i64_w, i32_w]
      rfl
     refine pure_ (i := 6) (N := some 26) (v := ?_) (a' := ?_) #[Yy,Yy,Yy,Yy,Yy,Yy,Yy,Nn,Nn,Nn,Nn,Nn,Nn,Nn,Nn,Nn,Nn,Nn,Nn,Nn] rfl rfl (any_of HT_.out (by kernel_rfl)) (fun _ _ _ h => h) (Or.inl ⟨by rfl, ?_⟩) ?_ ?_
     rotate_left
     ·intro w'
      go_simp
      with_reducible rfl
     rotate_left
     ·simp only [Act.put, List.setIfInBounds_toArray, List.set_cons_zero, List.set_cons_succ, i64_w, i32_w]
      rfl
     refine pure_ (i := 7) (N := some 27) (v := ?_) (a' := ?_) #[Yy,Yy,Yy,Yy,Yy,Yy,Yy,Yy,Nn,Nn,Nn,Nn,Nn,Nn,Nn,Nn,Nn,Nn,Nn,Nn] rfl rfl (any_of HT_.out (by kernel_rfl)) (fun _ _ _ h => h) (Or.inl ⟨by rfl, ?_⟩) ?_ ?_
     rotate_left
     ·intro w'
      go_simp
      with_reducible rfl
     rotate_left
     ·simp only [Act.put, List.setIfInBounds_toArray, List.set_cons_zero, List.set_cons_succ, i64_w, i32_w]
      rfl
     refine pure_ (i := 8) (N := some 28) (v := ?_) (a' := ?_) #[Yy,Yy,Yy,Yy,Yy,Yy,Yy,Yy,Yy,Nn,Nn,Nn,Nn,Nn,Nn,Nn,Nn,Nn,Nn,Nn] rfl rfl (any_of HT_.out (by kernel_rfl)) (fun _ _ _ h => h) (Or.inl ⟨by rfl, ?_⟩) ?_ ?_
     rotate_left
     ·intro w'
      go_simp
      with_reducible rfl
     rotate_left
     ·simp only [Act.put, List.setIfInBounds_toArray, List.set_cons_zero, List.set_cons_succ, i64_w, i32_w]
      rfl
     refine pure_ (i := 9) (N := some 29) (v := ?_) (a' := ?_) #[Yy,Yy,Yy,Yy,Yy,Yy,Yy,Yy,Yy,Yy,Nn,Nn,Nn,Nn,Nn,Nn,Nn,Nn,Nn,Nn] rfl rfl (any_of HT_.out (by kernel_rfl)) (fun _ _ _ h => h) (Or.inl ⟨by rfl, ?_⟩) ?_ ?_
     rotate_left
     ·intro w'
      go_simp
      with_reducible rfl
     rotate_left
     ·simp only [Act.put, List.setIfInBounds_toArray, List.set_cons_zero, List.set_cons_succ, i64_w, i32_w]
      rfl
     refine pure_ (i := 10) (N := some 30) (v := ?_) (a' := ?_) #[Yy,Yy,Yy,Yy,Yy,Yy,Yy,Yy,Yy,Yy,Yy,Nn,Nn,Nn,Nn,Nn,Nn,Nn,Nn,Nn] rfl rfl (any_of HT_.out (by kernel_rfl)) (fun _ _ _ h => h) (Or.inl ⟨by rfl, ?_⟩) ?_ ?_
     rotate_left
     ·intro w'
      go_simp
      with_reducible rfl
     rotate_left
     ·simp only [Act.put, List.setIfInBounds_toArray, List.set_cons_zero, List.set_cons_succ, i64_w, i32_w]
      rfl
     refine take_ (i := 11) (N := some 31) (v := ?_) (a' := ?_) #[Yy,Yy,Yy,Yy,Yy,Yy,Yy,Yy,Yy,Yy,Yy,Yy,Nn,Nn,Nn,Nn,Nn,Nn,Nn,Nn] rfl rfl (take_ofW HT_.out HW_.out (by kernel_rfl)) (fun _ _ _ h => h) (Or.inl ⟨by rfl, ?_⟩) hHeld ?_ ?_
     rotate_left
     ·rintro w' ⟨s0, s1, s2, s3, s4, s5, s6⟩
      go_simp
      with_reducible rfl
     rotate_left
     ·simp only [Act.put, List.setIfInBounds_toArray, List.set_cons_zero, List.set_cons_succ, i64_w, i32_w]
      rfl
     refine one_ (i := 12) (N := some 32) #[Yy,Yy,Yy,Yy,Yy,Yy,Yy,Yy,Yy,Yy,Yy,Yy,Yy,Nn,Nn,Nn,Nn,Nn,Nn,Nn] rfl rfl (one_of HT_.out (by kernel_rfl)) (by decide) (fun K hK => ?_)
     refine goes_ Tryz.func25 (by kernel_rfl) rfl #[.int .u8 10, .int .u8 0, .int .u8 0, .int .u8 3] (by rfl) rfl rfl (by (try simp only [List.map_toArray, List.map_cons, List.map_nil]); first | done | rfl | (simp only [List.length_drop, List.length_take]; rfl)) ?_
     with_reducible refine (addr_Four.calls k 10 0 0 3 t206 t207 t208 _ A8.out).mono ?_
     rintro e w41 ⟨rfl, hb⟩
     refine ⟨_, rfl, ?_⟩
     have n0_ := aM (blk_below (o := .cells #[.bool t188, .int .u64 t189, .int .u64 t190, .int .i64 t191] 26 (0, 0)) (by (with_reducible repeat (first | apply kN | apply kD | apply kA)); exact BK193.out) hb)
     have n1_ := aM (blk_below (o := .cells #[.bool t194, .int .u64 t195, .int .u64 t196] 24 (0, 0)) (by (with_reducible repeat (first | apply kN | apply kD | apply kA)); exact BK198.out) hb)
     have n2_ := aM (blk_below (o := .cells #[.bool t199, .int .u64 t200, .int .u64 t201, .int .i64 t202] 26 (0, 0)) (by (with_reducible repeat (first | apply kN | apply kD | apply kA)); exact BK204.out) hb)
     have n3_ := aM (below_step (by repeat (first | (with_reducible first | exact HB.out | apply bA | apply bN | apply bD | refine below_set ?_ (by apply Aside0.out; assumption)) | exact HB.out)) hb)
     clear BK193
     clear BK198
     clear BK204
     clear HB
     have BK193 := n0_
     have BK198 := n1_
     have BK204 := n2_
     have HB := n3_
     clear n0_ n1_ n2_ n3_
     (try clear hb)
     (try clear hb2)
     (try clear hk)
     (try clear hi)
     refine hK.out _ _ ⟨(kC BK193.out 0).trans rfl, (kC BK193.out 1).trans rfl, (kC BK193.out 2).trans rfl, (kC BK193.out 3).trans rfl, (kC BK198.out 0).trans rfl, (kC BK198.out 1).trans rfl, (kC BK198.out 2).trans rfl⟩ (fun hHeld => ?_)
     clear hK K
     refine norm_ (a' := ?_) ?_ ?_
     rotate_left
     ·show Act.put _ (some 32) _ = _
      simp only [Act.put, List.setIfInBounds_toArray, List.set_cons_zero, List.set_cons_succ, i64_w, i32_w]
      rfl
     refine pure_ (i := 13) (N := some 33) (v := ?_) (a' := ?_) #[Yy,Yy,Yy,Yy,Yy,Yy,Yy,Yy,Yy,Yy,Yy,Yy,Yy,Yy,Nn,Nn,Nn,Nn,Nn,Nn] rfl rfl (any_of HT_.out (by kernel_rfl)) (fun _ _ _ h => h) (Or.inl ⟨by rfl, ?_⟩) ?_ ?_
     rotate_left
     ·intro w'
      go_simp
      with_reducible rfl
     rotate_left
     ·simp only [Act.put, List.setIfInBounds_toArray, List.set_cons_zero, List.set_cons_succ, i64_w, i32_w]
      rfl
     refine pure_ (i := 14) (N := some 34) (v := ?_) (a' := ?_) #[Yy,Yy,Yy,Yy,Yy,Yy,Yy,Yy,Yy,Yy,Yy,Yy,Yy,Yy,Yy,Nn,Nn,Nn,Nn,Nn] rfl rfl (any_of HT_.out (by kernel_rfl)) (fun _ _ _ h => h) (Or.inl ⟨by rfl, ?_⟩) ?_ ?_
     rotate_left
     ·intro w'
      go_simp
      with_reducible rfl
     rotate_left
     ·simp only [Act.put, List.setIfInBounds_toArray, List.set_cons_zero, List.set_cons_succ, i64_w, i32_w]
      rfl
     refine pure_ (i := 15) (N := some 35) (v := ?_) (a' := ?_) #[Yy,Yy,Yy,Yy,Yy,Yy,Yy,Yy,Yy,Yy,Yy,Yy,Yy,Yy,Yy,Yy,Nn,Nn,Nn,Nn] rfl rfl (any_of HT_.out (by kernel_rfl)) (fun _ _ _ h => h) (Or.inl ⟨by rfl, ?_⟩) ?_ ?_
     rotate_left
     ·intro w'
      go_simp
      with_reducible rfl
     rotate_left
     ·simp only [Act.put, List.setIfInBounds_toArray, List.set_cons_zero, List.set_cons_succ, i64_w, i32_w]
      rfl
     refine pure_ (i := 16) (N := some 36) (v := undef) (a' := ?_) #[Yy,Yy,Yy,Yy,Yy,Yy,Yy,Yy,Yy,Yy,Yy,Yy,Yy,Yy,Yy,Yy,Yy,Nn,Nn,Nn] rfl rfl (any_of HT_.out (by kernel_rfl)) (fun _ _ _ h => h) (Or.inr ⟨by rfl, rfl⟩) ?_ ?_
     rotate_left
     ·simp only [Act.put, List.setIfInBounds_toArray, List.set_cons_zero, List.set_cons_succ, i64_w, i32_w]
      rfl
     refine pure_ (i := 17) (N := some 37) (v := undef) (a' := ?_) #[Yy,Yy,Yy,Yy,Yy,Yy,Yy,Yy,Yy,Yy,Yy,Yy,Yy,Yy,Yy,Yy,Yy,Yy,Nn,Nn] rfl rfl (any_of HT_.out (by kernel_rfl)) (fun _ _ _ h => h) (Or.inr ⟨by rfl, rfl⟩) ?_ ?_
     rotate_left
     ·simp only [Act.put, List.setIfInBounds_toArray, List.set_cons_zero, List.set_cons_succ, i64_w, i32_w]
      rfl
     refine pure_ (i := 18) (N := some 38) (v := ?_) (a' := ?_) #[Yy,Yy,Yy,Yy,Yy,Yy,Yy,Yy,Yy,Yy,Yy,Yy,Yy,Yy,Yy,Yy,Yy,Yy,Yy,Nn] rfl rfl (any_of HT_.out (by kernel_rfl)) (fun _ _ _ h => h) (Or.inl ⟨by rfl, ?_⟩) ?_ ?_
     rotate_left
     ·intro w'
      go_simp
      with_reducible rfl
     rotate_left
     ·simp only [Act.put, List.setIfInBounds_toArray, List.set_cons_zero, List.set_cons_succ, i64_w, i32_w]
      rfl
     refine pure_ (i := 19) (N := some 0) (v := ?_) (a' := ?_) #[Yy,Yy,Yy,Yy,Yy,Yy,Yy,Yy,Yy,Yy,Yy,Yy,Yy,Yy,Yy,Yy,Yy,Yy,Yy,Yy] rfl rfl (any_of HT_.out (by kernel_rfl)) (fun _ _ _ h => h) (Or.inl ⟨by rfl, ?_⟩) ?_ ?_
     rotate_left
     ·intro w'
      go_simp
      with_reducible rfl
     rotate_left
     ·simp only [Act.put, List.setIfInBounds_toArray, List.set_cons_zero, List.set_cons_succ, i64_w, i32_w]
      rfl
     refine done_ (done_of HT_.out (by kernel_rfl)) ?_
     try go_wp2
     go_ret
     exact ⟨by first | rfl | (simp [errW_none, errW_some] <;> rfl) | (simp [*, errW_none, errW_some] <;> rfl), by repeat (first | (with_reducible first | exact HB.out | apply bA | apply bN | apply bD | refine below_set ?_ (by apply Aside0.out; assumption)) | exact HB.out)⟩
   ·replace c7 := Bool.eq_false_iff.mpr c7
    subst c7
    rw [if_neg (show ¬ (false = true) by decide)] at H
    obtain rfl := Option.some.inj H
    go_enter Tryz.func10, Tryz.ntmps10
    try go_wp2_with (first | ((with_reducible refine gate_callee (f := 22) rfl ?_); refine goesL_ (some 8) rfl rfl Tryz.func22 (by kernel_rfl) rfl #[.string (⟨#[49, 48, 46, 48, 46, 48, 46, 48, 47, 51, 48]⟩ : ByteArray)] rfl (by (try simp only [List.map_toArray, List.map_cons, List.map_nil]); first | done | rfl | (simp only [List.length_drop, List.length_take]; rfl)) ?_; (with_reducible refine (ranges_Read.calls k (⟨#[49, 48, 46, 48, 46, 48, 46, 48, 47, 51, 48]⟩ : ByteArray) t188 t189 t190 t191 t192 _ ⟨hG_.out.below (by repeat (first | (with_reducible first | exact HB.out | apply bA | apply bN | apply bD | refine below_set ?_ (by apply Aside0.out; assumption)) | exact HB.out | exact Below.refl _ _))⟩ A1.out).mono ?_); rintro e w42 ⟨rfl, hb⟩; refine ⟨_, rfl, ?_⟩; have n0_ := aM (below_step (by repeat (first | (with_reducible first | exact HB.out | apply bA | apply bN | apply bD) | exact HB.out)) hb); clear HB; have HB := n0_; clear n0_; (try clear hb); (try clear hb2); (try clear hk); (try clear hi)) | ((with_reducible refine gate_dst (N := 1) rfl ?_); refine box_event ?hg (N := 1) ?hd (cs := #[.bool false, .int .u64 0, .int .u64 0, .int .i64 0]) (t := 26) ?hr ?_; (case hd => rfl); (case hg => rfl); (case hr => first | (go_simp; done) | (go_simp; rfl)); intro gb193 hg w43 hbox hb; have n0_ := aM (below_step (by repeat (first | (with_reducible first | exact HB.out | apply bA | apply bN | apply bD) | exact HB.out)) hb); have n1_ := aM (hbox); have n2_ := aM ((by rw [hg]; exact (below_size (by repeat (first | (with_reducible first | exact HB.out | apply bA | apply bN | apply bD) | exact HB.out))) : w.heap.size ≤ gb193)); have n3_ := aM ((by rw [hg]; exact (below_size (by repeat (first | (with_reducible first | exact HB.out | apply bA | apply bN | apply bD) | exact HB.out))) : w.heap.size ≤ gb193)); clear HB; have HB := n0_; have BK193 := n1_; have GW193 := n2_; have GE193 := n3_; clear n0_ n1_ n2_ n3_; clear hb hbox hg; have hcz44_0 : w43.cell? ⟨gb193, 0, none⟩ = some (.bool false) := (kC BK193.out 0).trans rfl; have hcz44_1 : w43.cell? ⟨gb193, 1, none⟩ = some (.int .u64 0) := (kC BK193.out 1).trans rfl; have hcz44_2 : w43.cell? ⟨gb193, 2, none⟩ = some (.int .u64 0) := (kC BK193.out 2).trans rfl; have hcz44_3 : w43.cell? ⟨gb193, 3, none⟩ = some (.int .i64 0) := (kC BK193.out 3).trans rfl; have hfz44_0 := kF BK193.out 0; have hfz44_1 := kF BK193.out 1; have hfz44_2 := kF BK193.out 2; have hfz44_3 := kF BK193.out 3) | ((with_reducible refine gate_callee (f := 13) rfl ?_); refine goesL_ (some 13) rfl rfl Tryz.func13 (by kernel_rfl) rfl #[.agg #[.bool t188, .int .u64 t189, .int .u64 t190, .int .i64 t191], .int .i64 3] rfl (by (try simp only [List.map_toArray, List.map_cons, List.map_nil]); first | done | rfl | (simp only [List.length_drop, List.length_take]; rfl)) ?_; (with_reducible refine (ranges_At.calls t188 t189 t190 t191 3 t194 t195 t196 false _ A2.out).mono ?_); rintro e w45 ⟨rfl, hb⟩; refine ⟨_, rfl, ?_⟩; have n0_ := aM (blk_below (o := .cells #[.bool t188, .int .u64 t189, .int .u64 t190, .int .i64 t191] 26 (0, 0)) (by (with_reducible repeat (first | apply kN | apply kD | apply kA)); refine blk_put (cs := #[.bool t188, .int .u64 t189, .int .u64 t190, .int .i64 0]) ?_ 3 _ rfl; (with_reducible repeat (first | apply kN | apply kD | apply kA)); refine blk_put (cs := #[.bool t188, .int .u64 t189, .int .u64 0, .int .i64 0]) ?_ 2 _ rfl; (with_reducible repeat (first | apply kN | apply kD | apply kA)); refine blk_put (cs := #[.bool t188, .int .u64 0, .int .u64 0, .int .i64 0]) ?_ 1 _ rfl; (with_reducible repeat (first | apply kN | apply kD | apply kA)); refine blk_put (cs := #[.bool false, .int .u64 0, .int .u64 0, .int .i64 0]) ?_ 0 _ rfl; (with_reducible repeat (first | apply kN | apply kD | apply kA)); exact BK193.out) hb); have n1_ := aM (below_step (by repeat (first | (with_reducible first | exact HB.out | apply bA | apply bN | apply bD | refine below_set ?_ (by apply Aside0.out; assumption)) | exact HB.out)) hb); clear BK193; clear HB; have BK193 := n0_; have HB := n1_; clear n0_ n1_; (try clear hb); (try clear hb2); (try clear hk); (try clear hi)) | ((with_reducible refine gate_dst (N := 3) rfl ?_); refine box_event ?hg (N := 3) ?hd (cs := #[.bool false, .int .u64 0, .int .u64 0]) (t := 24) ?hr ?_; (case hd => rfl); (case hg => rfl); (case hr => first | (go_simp; done) | (go_simp; rfl)); intro gb198 hg w46 hbox hb; have n0_ := aM (blk_below (o := .cells #[.bool t188, .int .u64 t189, .int .u64 t190, .int .i64 t191] 26 (0, 0)) (by (with_reducible repeat (first | apply kN | apply kD | apply kA)); exact BK193.out) hb); have n1_ := aM (below_step (by repeat (first | (with_reducible first | exact HB.out | apply bA | apply bN | apply bD | refine below_set ?_ (by apply Aside0.out; assumption)) | exact HB.out)) hb); have n2_ := aM (hbox); have n3_ := aM ((by rw [hg]; exact (below_size (by repeat (first | (with_reducible first | exact HB.out | apply bA | apply bN | apply bD | refine below_set ?_ (by apply Aside0.out; assumption)) | exact HB.out))) : w.heap.size ≤ gb198)); have n4_ := aM ((by rw [hg]; exact (below_size (by repeat (first | (with_reducible first | exact HB.out | apply bA | apply bN | apply bD | refine below_set ?_ (by apply Aside0.out; assumption)) | exact HB.out))) : w.heap.size ≤ gb198)); have n5_ := aM ((by rw [hg]; exact Nat.ne_of_lt (blk_lt (g := gb193) (o := .cells #[.bool t188, .int .u64 t189, .int .u64 t190, .int .i64 t191] 26 (0, 0)) (by (with_reducible repeat (first | apply kN | apply kD | apply kA)); exact BK193.out)) : gb193 ≠ gb198)); have n6_ := aM ((by rw [hg]; exact Nat.ne_of_gt (blk_lt (g := gb193) (o := .cells #[.bool t188, .int .u64 t189, .int .u64 t190, .int .i64 t191] 26 (0, 0)) (by (with_reducible repeat (first | apply kN | apply kD | apply kA)); exact BK193.out)) : gb198 ≠ gb193)); clear BK193; clear HB; have BK193 := n0_; have HB := n1_; have BK198 := n2_; have GW198 := n3_; have GE198 := n4_; have NB193_198 := n5_; have NB198_193 := n6_; clear n0_ n1_ n2_ n3_ n4_ n5_ n6_; clear hb hbox hg; have hnb47 := NB198_193.out; have hnc47 := NB193_198.out; have hcz48_0 : w46.cell? ⟨gb198, 0, none⟩ = some (.bool false) := (kC BK198.out 0).trans rfl; have hcz48_1 : w46.cell? ⟨gb198, 1, none⟩ = some (.int .u64 0) := (kC BK198.out 1).trans rfl; have hcz48_2 : w46.cell? ⟨gb198, 2, none⟩ = some (.int .u64 0) := (kC BK198.out 2).trans rfl; have hfz48_0 := kF BK198.out 0; have hfz48_1 := kF BK198.out 1; have hfz48_2 := kF BK198.out 2) | ((with_reducible refine gate_callee (f := 22) rfl ?_); refine goesL_ (some 17) rfl rfl Tryz.func22 (by kernel_rfl) rfl #[.string (⟨#[49, 48, 46, 48, 46, 48, 46, 49, 47, 51, 48]⟩ : ByteArray)] rfl (by (try simp only [List.map_toArray, List.map_cons, List.map_nil]); first | done | rfl | (simp only [List.length_drop, List.length_take]; rfl)) ?_; (with_reducible refine (ranges_Read.calls k (⟨#[49, 48, 46, 48, 46, 48, 46, 49, 47, 51, 48]⟩ : ByteArray) t199 t200 t201 t202 t203 _ ⟨hG_.out.below (by repeat (first | (with_reducible first | exact HB.out | apply bA | apply bN | apply bD | refine below_set ?_ (by apply Aside0.out; assumption)) | exact HB.out | exact Below.refl _ _))⟩ A3.out).mono ?_); rintro e w49 ⟨rfl, hb⟩; refine ⟨_, rfl, ?_⟩; have n0_ := aM (blk_below (o := .cells #[.bool t188, .int .u64 t189, .int .u64 t190, .int .i64 t191] 26 (0, 0)) (by (with_reducible repeat (first | apply kN | apply kD | apply kA)); refine blk_far ?_ NB193_198.out _; (with_reducible repeat (first | apply kN | apply kD | apply kA)); refine blk_far ?_ NB193_198.out _; (with_reducible repeat (first | apply kN | apply kD | apply kA)); refine blk_far ?_ NB193_198.out _; (with_reducible repeat (first | apply kN | apply kD | apply kA)); exact BK193.out) hb); have n1_ := aM (blk_below (o := .cells #[.bool t194, .int .u64 t195, .int .u64 t196] 24 (0, 0)) (by (with_reducible repeat (first | apply kN | apply kD | apply kA)); refine blk_put (cs := #[.bool t194, .int .u64 t195, .int .u64 0]) ?_ 2 _ rfl; (with_reducible repeat (first | apply kN | apply kD | apply kA)); refine blk_put (cs := #[.bool t194, .int .u64 0, .int .u64 0]) ?_ 1 _ rfl; (with_reducible repeat (first | apply kN | apply kD | apply kA)); refine blk_put (cs := #[.bool false, .int .u64 0, .int .u64 0]) ?_ 0 _ rfl; (with_reducible repeat (first | apply kN | apply kD | apply kA)); exact BK198.out) hb); have n2_ := aM (below_step (by repeat (first | (with_reducible first | exact HB.out | apply bA | apply bN | apply bD | refine below_set ?_ (by apply Aside0.out; assumption)) | exact HB.out)) hb); clear BK193; clear BK198; clear HB; have BK193 := n0_; have BK198 := n1_; have HB := n2_; clear n0_ n1_ n2_; (try clear hb); (try clear hb2); (try clear hk); (try clear hi)) | ((with_reducible refine gate_dst (N := 5) rfl ?_); refine box_event ?hg (N := 5) ?hd (cs := #[.bool false, .int .u64 0, .int .u64 0, .int .i64 0]) (t := 26) ?hr ?_; (case hd => rfl); (case hg => rfl); (case hr => first | (go_simp; done) | (go_simp; rfl)); intro gb204 hg w50 hbox hb; have n0_ := aM (blk_below (o := .cells #[.bool t188, .int .u64 t189, .int .u64 t190, .int .i64 t191] 26 (0, 0)) (by (with_reducible repeat (first | apply kN | apply kD | apply kA)); exact BK193.out) hb); have n1_ := aM (blk_below (o := .cells #[.bool t194, .int .u64 t195, .int .u64 t196] 24 (0, 0)) (by (with_reducible repeat (first | apply kN | apply kD | apply kA)); exact BK198.out) hb); have n2_ := aM (below_step (by repeat (first | (with_reducible first | exact HB.out | apply bA | apply bN | apply bD | refine below_set ?_ (by apply Aside0.out; assumption)) | exact HB.out)) hb); have n3_ := aM (hbox); have n4_ := aM ((by rw [hg]; exact (below_size (by repeat (first | (with_reducible first | exact HB.out | apply bA | apply bN | apply bD | refine below_set ?_ (by apply Aside0.out; assumption)) | exact HB.out))) : w.heap.size ≤ gb204)); have n5_ := aM ((by rw [hg]; exact (below_size (by repeat (first | (with_reducible first | exact HB.out | apply bA | apply bN | apply bD | refine below_set ?_ (by apply Aside0.out; assumption)) | exact HB.out))) : w.heap.size ≤ gb204)); have n6_ := aM ((by rw [hg]; exact Nat.ne_of_lt (blk_lt (g := gb193) (o := .cells #[.bool t188, .int .u64 t189, .int .u64 t190, .int .i64 t191] 26 (0, 0)) (by (with_reducible repeat (first | apply kN | apply kD | apply kA)); exact BK193.out)) : gb193 ≠ gb204)); have n7_ := aM ((by rw [hg]; exact Nat.ne_of_gt (blk_lt (g := gb193) (o := .cells #[.bool t188, .int .u64 t189, .int .u64 t190, .int .i64 t191] 26 (0, 0)) (by (with_reducible repeat (first | apply kN | apply kD | apply kA)); exact BK193.out)) : gb204 ≠ gb193)); have n8_ := aM ((by rw [hg]; exact Nat.ne_of_lt (blk_lt (g := gb198) (o := .cells #[.bool t194, .int .u64 t195, .int .u64 t196] 24 (0, 0)) (by (with_reducible repeat (first | apply kN | apply kD | apply kA)); exact BK198.out)) : gb198 ≠ gb204)); have n9_ := aM ((by rw [hg]; exact Nat.ne_of_gt (blk_lt (g := gb198) (o := .cells #[.bool t194, .int .u64 t195, .int .u64 t196] 24 (0, 0)) (by (with_reducible repeat (first | apply kN | apply kD | apply kA)); exact BK198.out)) : gb204 ≠ gb198)); clear BK193; clear BK198; clear HB; have BK193 := n0_; have BK198 := n1_; have HB := n2_; have BK204 := n3_; have GW204 := n4_; have GE204 := n5_; have NB193_204 := n6_; have NB204_193 := n7_; have NB198_204 := n8_; have NB204_198 := n9_; clear n0_ n1_ n2_ n3_ n4_ n5_ n6_ n7_ n8_ n9_; clear hb hbox hg; have hnb51 := NB204_193.out; have hnc51 := NB193_204.out; have hnb52 := NB204_198.out; have hnc52 := NB198_204.out; have hcz53_0 : w50.cell? ⟨gb204, 0, none⟩ = some (.bool false) := (kC BK204.out 0).trans rfl; have hcz53_1 : w50.cell? ⟨gb204, 1, none⟩ = some (.int .u64 0) := (kC BK204.out 1).trans rfl; have hcz53_2 : w50.cell? ⟨gb204, 2, none⟩ = some (.int .u64 0) := (kC BK204.out 2).trans rfl; have hcz53_3 : w50.cell? ⟨gb204, 3, none⟩ = some (.int .i64 0) := (kC BK204.out 3).trans rfl; have hfz53_0 := kF BK204.out 0; have hfz53_1 := kF BK204.out 1; have hfz53_2 := kF BK204.out 2; have hfz53_3 := kF BK204.out 3))
    have n0_ : Aside0 (((((w50.setCell ⟨gb204, 0, none⟩ (.bool t199)).setCell ⟨gb204, 1, none⟩ (.int .u64 t200)).setCell ⟨gb204, 2, none⟩ (.int .u64 t201)).setCell ⟨gb204, 3, none⟩ (.int .i64 t202)).heap[gb193]? = some (.cells #[.bool t188, .int .u64 t189, .int .u64 t190, .int .i64 t191] 26 (0, 0))) := ⟨by (with_reducible repeat (first | apply kN | apply kD | apply kA)); refine blk_far ?_ NB193_204.out _; (with_reducible repeat (first | apply kN | apply kD | apply kA)); refine blk_far ?_ NB193_204.out _; (with_reducible repeat (first | apply kN | apply kD | apply kA)); refine blk_far ?_ NB193_204.out _; (with_reducible repeat (first | apply kN | apply kD | apply kA)); refine blk_far ?_ NB193_204.out _; (with_reducible repeat (first | apply kN | apply kD | apply kA)); exact BK193.out⟩
    have n1_ : Aside0 (((((w50.setCell ⟨gb204, 0, none⟩ (.bool t199)).setCell ⟨gb204, 1, none⟩ (.int .u64 t200)).setCell ⟨gb204, 2, none⟩ (.int .u64 t201)).setCell ⟨gb204, 3, none⟩ (.int .i64 t202)).heap[gb198]? = some (.cells #[.bool t194, .int .u64 t195, .int .u64 t196] 24 (0, 0))) := ⟨by (with_reducible repeat (first | apply kN | apply kD | apply kA)); refine blk_far ?_ NB198_204.out _; (with_reducible repeat (first | apply kN | apply kD | apply kA)); refine blk_far ?_ NB198_204.out _; (with_reducible repeat (first | apply kN | apply kD | apply kA)); refine blk_far ?_ NB198_204.out _; (with_reducible repeat (first | apply kN | apply kD | apply kA)); refine blk_far ?_ NB198_204.out _; (with_reducible repeat (first | apply kN | apply kD | apply kA)); exact BK198.out⟩
    have n2_ : Aside0 (((((w50.setCell ⟨gb204, 0, none⟩ (.bool t199)).setCell ⟨gb204, 1, none⟩ (.int .u64 t200)).setCell ⟨gb204, 2, none⟩ (.int .u64 t201)).setCell ⟨gb204, 3, none⟩ (.int .i64 t202)).heap[gb204]? = some (.cells #[.bool t199, .int .u64 t200, .int .u64 t201, .int .i64 t202] 26 (0, 0))) := ⟨by (with_reducible repeat (first | apply kN | apply kD | apply kA)); refine blk_put (cs := #[.bool t199, .int .u64 t200, .int .u64 t201, .int .i64 0]) ?_ 3 _ rfl; (with_reducible repeat (first | apply kN | apply kD | apply kA)); refine blk_put (cs := #[.bool t199, .int .u64 t200, .int .u64 0, .int .i64 0]) ?_ 2 _ rfl; (with_reducible repeat (first | apply kN | apply kD | apply kA)); refine blk_put (cs := #[.bool t199, .int .u64 0, .int .u64 0, .int .i64 0]) ?_ 1 _ rfl; (with_reducible repeat (first | apply kN | apply kD | apply kA)); refine blk_put (cs := #[.bool false, .int .u64 0, .int .u64 0, .int .i64 0]) ?_ 0 _ rfl; (with_reducible repeat (first | apply kN | apply kD | apply kA)); exact BK204.out⟩
    have n3_ : Aside0 (Below w.heap.size w ((((w50.setCell ⟨gb204, 0, none⟩ (.bool t199)).setCell ⟨gb204, 1, none⟩ (.int .u64 t200)).setCell ⟨gb204, 2, none⟩ (.int .u64 t201)).setCell ⟨gb204, 3, none⟩ (.int .i64 t202))) := ⟨by repeat (first | (with_reducible first | exact HB.out | apply bA | apply bN | apply bD | refine below_set ?_ (by apply Aside0.out; assumption)) | exact HB.out)⟩
    (try clear BK193)
    (try clear BK198)
    (try clear BK204)
    (try clear HB)
    (try (repeat rw [setCell_drewN_]))
    generalize ((((w50.setCell ⟨gb204, 0, none⟩ (.bool t199)).setCell ⟨gb204, 1, none⟩ (.int .u64 t200)).setCell ⟨gb204, 2, none⟩ (.int .u64 t201)).setCell ⟨gb204, 3, none⟩ (.int .i64 t202)) = w54 at n0_ n1_ n2_ n3_ ⊢
    have BK193 := n0_
    have BK198 := n1_
    have BK204 := n2_
    have HB := n3_
    clear n0_ n1_ n2_ n3_
    have n0_ := aM (kD BK193.out)
    have n1_ := aM (kD BK198.out)
    have n2_ := aM (kD BK204.out)
    have n3_ := aM (bD HB.out)
    clear BK193
    clear BK198
    clear BK204
    clear HB
    have BK193 := n0_
    have BK198 := n1_
    have BK204 := n2_
    have HB := n3_
    clear n0_ n1_ n2_ n3_
    refine start_ (n := 20) (S := fun w' => w'.cell? ⟨gb193, 0, none⟩ = some (.bool t188) ∧ w'.cell? ⟨gb193, 1, none⟩ = some (.int .u64 t189) ∧ w'.cell? ⟨gb193, 2, none⟩ = some (.int .u64 t190) ∧ w'.cell? ⟨gb193, 3, none⟩ = some (.int .i64 t191)) (ds := []) #[Nn,Nn,Nn,Nn,Nn,Nn,Nn,Nn,Nn,Nn,Nn,Nn,Nn,Nn,Nn,Nn,Nn,Nn,Nn,Nn] (by kernel_rfl) rfl rfl ⟨(kC BK193.out 0).trans rfl, (kC BK193.out 1).trans rfl, (kC BK193.out 2).trans rfl, (kC BK193.out 3).trans rfl⟩ (fun hHeld => ?_); refine with_tabW nameplatelaw05_lives.tab4 nameplatelaw05_lives.bits4 (fun HT_ HW_ => ?_)
    generalize w54.drew = w55 at BK193 BK198 BK204 HB hHeld ⊢
    refine pure_ (i := 0) (N := some 20) (v := ?_) (a' := ?_) #[Yy,Nn,Nn,Nn,Nn,Nn,Nn,Nn,Nn,Nn,Nn,Nn,Nn,Nn,Nn,Nn,Nn,Nn,Nn,Nn] rfl rfl (any_of HT_.out (by kernel_rfl)) (fun _ _ _ h => h) (Or.inl ⟨by rfl, ?_⟩) ?_ ?_
    rotate_left
    ·intro w'
     go_simp
     with_reducible rfl
    rotate_left
    ·simp only [Act.put, List.setIfInBounds_toArray, List.set_cons_zero, List.set_cons_succ, i64_w, i32_w]
     rfl
    refine pure_ (i := 1) (N := some 21) (v := ?_) (a' := ?_) #[Yy,Yy,Nn,Nn,Nn,Nn,Nn,Nn,Nn,Nn,Nn,Nn,Nn,Nn,Nn,Nn,Nn,Nn,Nn,Nn] rfl rfl (any_of HT_.out (by kernel_rfl)) (fun _ _ _ h => h) (Or.inl ⟨by rfl, ?_⟩) ?_ ?_
    rotate_left
    ·intro w'
     go_simp
     with_reducible rfl
    rotate_left
    ·simp only [Act.put, List.setIfInBounds_toArray, List.set_cons_zero, List.set_cons_succ, i64_w, i32_w]
     rfl
    refine pure_ (i := 2) (N := some 22) (v := ?_) (a' := ?_) #[Yy,Yy,Yy,Nn,Nn,Nn,Nn,Nn,Nn,Nn,Nn,Nn,Nn,Nn,Nn,Nn,Nn,Nn,Nn,Nn] rfl rfl (any_of HT_.out (by kernel_rfl)) (fun _ _ _ h => h) (Or.inl ⟨by rfl, ?_⟩) ?_ ?_
    rotate_left
    ·intro w'
     go_simp
     with_reducible rfl
    rotate_left
    ·simp only [Act.put, List.setIfInBounds_toArray, List.set_cons_zero, List.set_cons_succ, i64_w, i32_w]
     rfl
    refine take_ (i := 3) (N := some 23) (v := ?_) (a' := ?_) #[Yy,Yy,Yy,Yy,Nn,Nn,Nn,Nn,Nn,Nn,Nn,Nn,Nn,Nn,Nn,Nn,Nn,Nn,Nn,Nn] rfl rfl (take_ofW HT_.out HW_.out (by kernel_rfl)) (fun _ _ _ h => h) (Or.inl ⟨by rfl, ?_⟩) hHeld ?_ ?_
    rotate_left
    ·rintro w' ⟨s0, s1, s2, s3⟩
     go_simp
     with_reducible rfl
    rotate_left
    ·simp only [Act.put, List.setIfInBounds_toArray, List.set_cons_zero, List.set_cons_succ, i64_w, i32_w]
     rfl
    refine one_ (i := 4) (N := some 24) #[Yy,Yy,Yy,Yy,Yy,Nn,Nn,Nn,Nn,Nn,Nn,Nn,Nn,Nn,Nn,Nn,Nn,Nn,Nn,Nn] rfl rfl (one_of HT_.out (by kernel_rfl)) (by decide) (fun K hK => ?_)
    refine goes_ Tryz.func12 (by kernel_rfl) rfl #[.agg #[.bool t188, .int .u64 t189, .int .u64 t190, .int .i64 t191]] (by rfl) rfl rfl (by (try simp only [List.map_toArray, List.map_cons, List.map_nil]); first | done | rfl | (simp only [List.length_drop, List.length_take]; rfl)) ?_
    with_reducible refine (ranges_Size.calls t188 t189 t190 t191 t205 _ A5.out).mono ?_
    rintro e w56 ⟨rfl, hb⟩
    refine ⟨_, rfl, ?_⟩
    have n0_ := aM (blk_below (o := .cells #[.bool t188, .int .u64 t189, .int .u64 t190, .int .i64 t191] 26 (0, 0)) (by (with_reducible repeat (first | apply kN | apply kD | apply kA)); exact BK193.out) hb)
    have n1_ := aM (blk_below (o := .cells #[.bool t194, .int .u64 t195, .int .u64 t196] 24 (0, 0)) (by (with_reducible repeat (first | apply kN | apply kD | apply kA)); exact BK198.out) hb)
    have n2_ := aM (blk_below (o := .cells #[.bool t199, .int .u64 t200, .int .u64 t201, .int .i64 t202] 26 (0, 0)) (by (with_reducible repeat (first | apply kN | apply kD | apply kA)); exact BK204.out) hb)
    have n3_ := aM (below_step (by repeat (first | (with_reducible first | exact HB.out | apply bA | apply bN | apply bD | refine below_set ?_ (by apply Aside0.out; assumption)) | exact HB.out)) hb)
    clear BK193
    clear BK198
    clear BK204
    clear HB
    have BK193 := n0_
    have BK198 := n1_
    have BK204 := n2_
    have HB := n3_
    clear n0_ n1_ n2_ n3_
    (try clear hb)
    (try clear hb2)
    (try clear hk)
    (try clear hi)
    refine hK.out _ _ ⟨(kC BK193.out 0).trans rfl, (kC BK193.out 1).trans rfl, (kC BK193.out 2).trans rfl, (kC BK193.out 3).trans rfl⟩ (fun hHeld => ?_)
    clear hK K
    refine norm_ (a' := ?_) ?_ ?_
    rotate_left
    ·show Act.put _ (some 24) _ = _
     simp only [Act.put, List.setIfInBounds_toArray, List.set_cons_zero, List.set_cons_succ, i64_w, i32_w]
     rfl
    refine pure_ (i := 5) (N := some 25) (v := ?_) (a' := ?_) #[Yy,Yy,Yy,Yy,Yy,Yy,Nn,Nn,Nn,Nn,Nn,Nn,Nn,Nn,Nn,Nn,Nn,Nn,Nn,Nn] rfl rfl (any_of HT_.out (by kernel_rfl)) (fun _ _ _ h => h) (Or.inl ⟨by rfl, ?_⟩) ?_ ?_
    rotate_left
    ·intro w'
     go_simp
     with_reducible rfl
    rotate_left
    ·simp only [Act.put, List.setIfInBounds_toArray, List.set_cons_zero, List.set_cons_succ, i64_w, i32_w]
     rfl
    refine pure_ (i := 6) (N := some 26) (v := ?_) (a' := ?_) #[Yy,Yy,Yy,Yy,Yy,Yy,Yy,Nn,Nn,Nn,Nn,Nn,Nn,Nn,Nn,Nn,Nn,Nn,Nn,Nn] rfl rfl (any_of HT_.out (by kernel_rfl)) (fun _ _ _ h => h) (Or.inl ⟨by rfl, ?_⟩) ?_ ?_
    rotate_left
    ·intro w'
     go_simp
     with_reducible rfl
    rotate_left
    ·simp only [Act.put, List.setIfInBounds_toArray, List.set_cons_zero, List.set_cons_succ, i64_w, i32_w]
     rfl
    refine pure_ (i := 7) (N := some 27) (v := ?_) (a' := ?_) #[Yy,Yy,Yy,Yy,Yy,Yy,Yy,Yy,Nn,Nn,Nn,Nn,Nn,Nn,Nn,Nn,Nn,Nn,Nn,Nn] rfl rfl (any_of HT_.out (by kernel_rfl)) (fun _ _ _ h => h) (Or.inl ⟨by rfl, ?_⟩) ?_ ?_
    rotate_left
    ·intro w'
     go_simp
     with_reducible rfl
    rotate_left
    ·simp only [Act.put, List.setIfInBounds_toArray, List.set_cons_zero, List.set_cons_succ, i64_w, i32_w]
     rfl
    refine pure_ (i := 8) (N := some 28) (v := ?_) (a' := ?_) #[Yy,Yy,Yy,Yy,Yy,Yy,Yy,Yy,Yy,Nn,Nn,Nn,Nn,Nn,Nn,Nn,Nn,Nn,Nn,Nn] rfl rfl (any_of HT_.out (by kernel_rfl)) (fun _ _ _ h => h) (Or.inl ⟨by rfl, ?_⟩) ?_ ?_
    rotate_left
    ·intro w'
     go_simp
     with_reducible rfl
    rotate_left
    ·simp only [Act.put, List.setIfInBounds_toArray, List.set_cons_zero, List.set_cons_succ, i64_w, i32_w]
     rfl
    refine pure_ (i := 9) (N := some 29) (v := ?_) (a' := ?_) #[Yy,Yy,Yy,Yy,Yy,Yy,Yy,Yy,Yy,Yy,Nn,Nn,Nn,Nn,Nn,Nn,Nn,Nn,Nn,Nn] rfl rfl (any_of HT_.out (by kernel_rfl)) (fun _ _ _ h => h) (Or.inl ⟨by rfl, ?_⟩) ?_ ?_
    rotate_left
    ·intro w'
     go_simp
     with_reducible rfl
    rotate_left
    ·simp only [Act.put, List.setIfInBounds_toArray, List.set_cons_zero, List.set_cons_succ, i64_w, i32_w]
     rfl
    refine pure_ (i := 10) (N := some 30) (v := ?_) (a' := ?_) #[Yy,Yy,Yy,Yy,Yy,Yy,Yy,Yy,Yy,Yy,Yy,Nn,Nn,Nn,Nn,Nn,Nn,Nn,Nn,Nn] rfl rfl (any_of HT_.out (by kernel_rfl)) (fun _ _ _ h => h) (Or.inl ⟨by rfl, ?_⟩) ?_ ?_
    rotate_left
    ·intro w'
     go_simp
     with_reducible rfl
    rotate_left
    ·simp only [Act.put, List.setIfInBounds_toArray, List.set_cons_zero, List.set_cons_succ, i64_w, i32_w]
     rfl
    refine pure_ (i := 11) (N := some 31) (v := undef) (a' := ?_) #[Yy,Yy,Yy,Yy,Yy,Yy,Yy,Yy,Yy,Yy,Yy,Yy,Nn,Nn,Nn,Nn,Nn,Nn,Nn,Nn] rfl rfl (any_of HT_.out (by kernel_rfl)) (fun _ _ _ h => h) (Or.inr ⟨by rfl, rfl⟩) ?_ ?_
    rotate_left
    ·simp only [Act.put, List.setIfInBounds_toArray, List.set_cons_zero, List.set_cons_succ, i64_w, i32_w]
     rfl
    refine pure_ (i := 12) (N := some 32) (v := undef) (a' := ?_) #[Yy,Yy,Yy,Yy,Yy,Yy,Yy,Yy,Yy,Yy,Yy,Yy,Yy,Nn,Nn,Nn,Nn,Nn,Nn,Nn] rfl rfl (any_of HT_.out (by kernel_rfl)) (fun _ _ _ h => h) (Or.inr ⟨by rfl, rfl⟩) ?_ ?_
    rotate_left
    ·simp only [Act.put, List.setIfInBounds_toArray, List.set_cons_zero, List.set_cons_succ, i64_w, i32_w]
     rfl
    refine pure_ (i := 13) (N := some 33) (v := undef) (a' := ?_) #[Yy,Yy,Yy,Yy,Yy,Yy,Yy,Yy,Yy,Yy,Yy,Yy,Yy,Yy,Nn,Nn,Nn,Nn,Nn,Nn] rfl rfl (any_of HT_.out (by kernel_rfl)) (fun _ _ _ h => h) (Or.inr ⟨by rfl, rfl⟩) ?_ ?_
    rotate_left
    ·simp only [Act.put, List.setIfInBounds_toArray, List.set_cons_zero, List.set_cons_succ, i64_w, i32_w]
     rfl
    refine pure_ (i := 14) (N := some 34) (v := ?_) (a' := ?_) #[Yy,Yy,Yy,Yy,Yy,Yy,Yy,Yy,Yy,Yy,Yy,Yy,Yy,Yy,Yy,Nn,Nn,Nn,Nn,Nn] rfl rfl (any_of HT_.out (by kernel_rfl)) (fun _ _ _ h => h) (Or.inl ⟨by rfl, ?_⟩) ?_ ?_
    rotate_left
    ·intro w'
     go_simp
     with_reducible rfl
    rotate_left
    ·simp only [Act.put, List.setIfInBounds_toArray, List.set_cons_zero, List.set_cons_succ, i64_w, i32_w]
     rfl
    refine pure_ (i := 15) (N := some 35) (v := ?_) (a' := ?_) #[Yy,Yy,Yy,Yy,Yy,Yy,Yy,Yy,Yy,Yy,Yy,Yy,Yy,Yy,Yy,Yy,Nn,Nn,Nn,Nn] rfl rfl (any_of HT_.out (by kernel_rfl)) (fun _ _ _ h => h) (Or.inl ⟨by rfl, ?_⟩) ?_ ?_
    rotate_left
    ·intro w'
     go_simp
     with_reducible rfl
    rotate_left
    ·simp only [Act.put, List.setIfInBounds_toArray, List.set_cons_zero, List.set_cons_succ, i64_w, i32_w]
     rfl
    refine pure_ (i := 16) (N := some 36) (v := undef) (a' := ?_) #[Yy,Yy,Yy,Yy,Yy,Yy,Yy,Yy,Yy,Yy,Yy,Yy,Yy,Yy,Yy,Yy,Yy,Nn,Nn,Nn] rfl rfl (any_of HT_.out (by kernel_rfl)) (fun _ _ _ h => h) (Or.inr ⟨by rfl, rfl⟩) ?_ ?_
    rotate_left
    ·simp only [Act.put, List.setIfInBounds_toArray, List.set_cons_zero, List.set_cons_succ, i64_w, i32_w]
     rfl
    refine pure_ (i := 17) (N := some 37) (v := undef) (a' := ?_) #[Yy,Yy,Yy,Yy,Yy,Yy,Yy,Yy,Yy,Yy,Yy,Yy,Yy,Yy,Yy,Yy,Yy,Yy,Nn,Nn] rfl rfl (any_of HT_.out (by kernel_rfl)) (fun _ _ _ h => h) (Or.inr ⟨by rfl, rfl⟩) ?_ ?_
    rotate_left
    ·simp only [Act.put, List.setIfInBounds_toArray, List.set_cons_zero, List.set_cons_succ, i64_w, i32_w]
     rfl
    refine pure_ (i := 18) (N := some 38) (v := ?_) (a' := ?_) #[Yy,Yy,Yy,Yy,Yy,Yy,Yy,Yy,Yy,Yy,Yy,Yy,Yy,Yy,Yy,Yy,Yy,Yy,Yy,Nn] rfl rfl (any_of HT_.out (by kernel_rfl)) (fun _ _ _ h => h) (Or.inl ⟨by rfl, ?_⟩) ?_ ?_
    rotate_left
    ·intro w'
     go_simp
     with_reducible rfl
    rotate_left
    ·simp only [Act.put, List.setIfInBounds_toArray, List.set_cons_zero, List.set_cons_succ, i64_w, i32_w]
     rfl
    refine pure_ (i := 19) (N := some 0) (v := ?_) (a' := ?_) #[Yy,Yy,Yy,Yy,Yy,Yy,Yy,Yy,Yy,Yy,Yy,Yy,Yy,Yy,Yy,Yy,Yy,Yy,Yy,Yy] rfl rfl (any_of HT_.out (by kernel_rfl)) (fun _ _ _ h => h) (Or.inl ⟨by rfl, ?_⟩) ?_ ?_
    rotate_left
    ·intro w'
     go_simp
     with_reducible rfl
    rotate_left
    ·simp only [Act.put, List.setIfInBounds_toArray, List.set_cons_zero, List.set_cons_succ, i64_w, i32_w]
     rfl
    refine done_ (done_of HT_.out (by kernel_rfl)) ?_
    try go_wp2
    go_ret
    exact ⟨by first | rfl | (simp [errW_none, errW_some] <;> rfl) | (simp [*, errW_none, errW_some] <;> rfl), by repeat (first | (with_reducible first | exact HB.out | apply bA | apply bN | apply bD | refine below_set ?_ (by apply Aside0.out; assumption)) | exact HB.out)⟩
  ·rw [if_neg c6] at H
   have c6b0 : (t205 == 4) = false := beq_eq_false_iff_ne.mpr c6
   have c6b1 : (t205 != 4) = true := bne_iff_ne.mpr c6
   obtain rfl := Option.some.inj H
   go_enter Tryz.func10, Tryz.ntmps10
   try go_wp2_with (first | ((with_reducible refine gate_callee (f := 22) rfl ?_); refine goesL_ (some 8) rfl rfl Tryz.func22 (by kernel_rfl) rfl #[.string (⟨#[49, 48, 46, 48, 46, 48, 46, 48, 47, 51, 48]⟩ : ByteArray)] rfl (by (try simp only [List.map_toArray, List.map_cons, List.map_nil]); first | done | rfl | (simp only [List.length_drop, List.length_take]; rfl)) ?_; (with_reducible refine (ranges_Read.calls k (⟨#[49, 48, 46, 48, 46, 48, 46, 48, 47, 51, 48]⟩ : ByteArray) t188 t189 t190 t191 t192 _ ⟨hG_.out.below (by repeat (first | (with_reducible first | exact HB.out | apply bA | apply bN | apply bD | refine below_set ?_ (by apply Aside0.out; assumption)) | exact HB.out | exact Below.refl _ _))⟩ A1.out).mono ?_); rintro e w57 ⟨rfl, hb⟩; refine ⟨_, rfl, ?_⟩; have n0_ := aM (below_step (by repeat (first | (with_reducible first | exact HB.out | apply bA | apply bN | apply bD) | exact HB.out)) hb); clear HB; have HB := n0_; clear n0_; (try clear hb); (try clear hb2); (try clear hk); (try clear hi)) | ((with_reducible refine gate_dst (N := 1) rfl ?_); refine box_event ?hg (N := 1) ?hd (cs := #[.bool false, .int .u64 0, .int .u64 0, .int .i64 0]) (t := 26) ?hr ?_; (case hd => rfl); (case hg => rfl); (case hr => first | (go_simp; done) | (go_simp; rfl)); intro gb193 hg w58 hbox hb; have n0_ := aM (below_step (by repeat (first | (with_reducible first | exact HB.out | apply bA | apply bN | apply bD) | exact HB.out)) hb); have n1_ := aM (hbox); have n2_ := aM ((by rw [hg]; exact (below_size (by repeat (first | (with_reducible first | exact HB.out | apply bA | apply bN | apply bD) | exact HB.out))) : w.heap.size ≤ gb193)); have n3_ := aM ((by rw [hg]; exact (below_size (by repeat (first | (with_reducible first | exact HB.out | apply bA | apply bN | apply bD) | exact HB.out))) : w.heap.size ≤ gb193)); clear HB; have HB := n0_; have BK193 := n1_; have GW193 := n2_; have GE193 := n3_; clear n0_ n1_ n2_ n3_; clear hb hbox hg; have hcz59_0 : w58.cell? ⟨gb193, 0, none⟩ = some (.bool false) := (kC BK193.out 0).trans rfl; have hcz59_1 : w58.cell? ⟨gb193, 1, none⟩ = some (.int .u64 0) := (kC BK193.out 1).trans rfl; have hcz59_2 : w58.cell? ⟨gb193, 2, none⟩ = some (.int .u64 0) := (kC BK193.out 2).trans rfl; have hcz59_3 : w58.cell? ⟨gb193, 3, none⟩ = some (.int .i64 0) := (kC BK193.out 3).trans rfl; have hfz59_0 := kF BK193.out 0; have hfz59_1 := kF BK193.out 1; have hfz59_2 := kF BK193.out 2; have hfz59_3 := kF BK193.out 3) | ((with_reducible refine gate_callee (f := 13) rfl ?_); refine goesL_ (some 13) rfl rfl Tryz.func13 (by kernel_rfl) rfl #[.agg #[.bool t188, .int .u64 t189, .int .u64 t190, .int .i64 t191], .int .i64 3] rfl (by (try simp only [List.map_toArray, List.map_cons, List.map_nil]); first | done | rfl | (simp only [List.length_drop, List.length_take]; rfl)) ?_; (with_reducible refine (ranges_At.calls t188 t189 t190 t191 3 t194 t195 t196 t197 _ A2.out).mono ?_); rintro e w60 ⟨rfl, hb⟩; refine ⟨_, rfl, ?_⟩; have n0_ := aM (blk_below (o := .cells #[.bool t188, .int .u64 t189, .int .u64 t190, .int .i64 t191] 26 (0, 0)) (by (with_reducible repeat (first | apply kN | apply kD | apply kA)); refine blk_put (cs := #[.bool t188, .int .u64 t189, .int .u64 t190, .int .i64 0]) ?_ 3 _ rfl; (with_reducible repeat (first | apply kN | apply kD | apply kA)); refine blk_put (cs := #[.bool t188, .int .u64 t189, .int .u64 0, .int .i64 0]) ?_ 2 _ rfl; (with_reducible repeat (first | apply kN | apply kD | apply kA)); refine blk_put (cs := #[.bool t188, .int .u64 0, .int .u64 0, .int .i64 0]) ?_ 1 _ rfl; (with_reducible repeat (first | apply kN | apply kD | apply kA)); refine blk_put (cs := #[.bool false, .int .u64 0, .int .u64 0, .int .i64 0]) ?_ 0 _ rfl; (with_reducible repeat (first | apply kN | apply kD | apply kA)); exact BK193.out) hb); have n1_ := aM (below_step (by repeat (first | (with_reducible first | exact HB.out | apply bA | apply bN | apply bD | refine below_set ?_ (by apply Aside0.out; assumption)) | exact HB.out)) hb); clear BK193; clear HB; have BK193 := n0_; have HB := n1_; clear n0_ n1_; (try clear hb); (try clear hb2); (try clear hk); (try clear hi)) | ((with_reducible refine gate_dst (N := 3) rfl ?_); refine box_event ?hg (N := 3) ?hd (cs := #[.bool false, .int .u64 0, .int .u64 0]) (t := 24) ?hr ?_; (case hd => rfl); (case hg => rfl); (case hr => first | (go_simp; done) | (go_simp; rfl)); intro gb198 hg w61 hbox hb; have n0_ := aM (blk_below (o := .cells #[.bool t188, .int .u64 t189, .int .u64 t190, .int .i64 t191] 26 (0, 0)) (by (with_reducible repeat (first | apply kN | apply kD | apply kA)); exact BK193.out) hb); have n1_ := aM (below_step (by repeat (first | (with_reducible first | exact HB.out | apply bA | apply bN | apply bD | refine below_set ?_ (by apply Aside0.out; assumption)) | exact HB.out)) hb); have n2_ := aM (hbox); have n3_ := aM ((by rw [hg]; exact (below_size (by repeat (first | (with_reducible first | exact HB.out | apply bA | apply bN | apply bD | refine below_set ?_ (by apply Aside0.out; assumption)) | exact HB.out))) : w.heap.size ≤ gb198)); have n4_ := aM ((by rw [hg]; exact (below_size (by repeat (first | (with_reducible first | exact HB.out | apply bA | apply bN | apply bD | refine below_set ?_ (by apply Aside0.out; assumption)) | exact HB.out))) : w.heap.size ≤ gb198)); have n5_ := aM ((by rw [hg]; exact Nat.ne_of_lt (blk_lt (g := gb193) (o := .cells #[.bool t188, .int .u64 t189, .int .u64 t190, .int .i64 t191] 26 (0, 0)) (by (with_reducible repeat (first | apply kN | apply kD | apply kA)); exact BK193.out)) : gb193 ≠ gb198)); have n6_ := aM ((by rw [hg]; exact Nat.ne_of_gt (blk_lt (g := gb193) (o := .cells #[.bool t188, .int .u64 t189, .int .u64 t190, .int .i64 t191] 26 (0, 0)) (by (with_reducible repeat (first | apply kN | apply kD | apply kA)); exact BK193.out)) : gb198 ≠ gb193)); clear BK193; clear HB; have BK193 := n0_; have HB := n1_; have BK198 := n2_; have GW198 := n3_; have GE198 := n4_; have NB193_198 := n5_; have NB198_193 := n6_; clear n0_ n1_ n2_ n3_ n4_ n5_ n6_; clear hb hbox hg; have hnb62 := NB198_193.out; have hnc62 := NB193_198.out; have hcz63_0 : w61.cell? ⟨gb198, 0, none⟩ = some (.bool false) := (kC BK198.out 0).trans rfl; have hcz63_1 : w61.cell? ⟨gb198, 1, none⟩ = some (.int .u64 0) := (kC BK198.out 1).trans rfl; have hcz63_2 : w61.cell? ⟨gb198, 2, none⟩ = some (.int .u64 0) := (kC BK198.out 2).trans rfl; have hfz63_0 := kF BK198.out 0; have hfz63_1 := kF BK198.out 1; have hfz63_2 := kF BK198.out 2) | ((with_reducible refine gate_callee (f := 22) rfl ?_); refine goesL_ (some 17) rfl rfl Tryz.func22 (by kernel_rfl) rfl #[.string (⟨#[49, 48, 46, 48, 46, 48, 46, 49, 47, 51, 48]⟩ : ByteArray)] rfl (by (try simp only [List.map_toArray, List.map_cons, List.map_nil]); first | done | rfl | (simp only [List.length_drop, List.length_take]; rfl)) ?_; (with_reducible refine (ranges_Read.calls k (⟨#[49, 48, 46, 48, 46, 48, 46, 49, 47, 51, 48]⟩ : ByteArray) t199 t200 t201 t202 t203 _ ⟨hG_.out.below (by repeat (first | (with_reducible first | exact HB.out | apply bA | apply bN | apply bD | refine below_set ?_ (by apply Aside0.out; assumption)) | exact HB.out | exact Below.refl _ _))⟩ A3.out).mono ?_); rintro e w64 ⟨rfl, hb⟩; refine ⟨_, rfl, ?_⟩; have n0_ := aM (blk_below (o := .cells #[.bool t188, .int .u64 t189, .int .u64 t190, .int .i64 t191] 26 (0, 0)) (by (with_reducible repeat (first | apply kN | apply kD | apply kA)); refine blk_far ?_ NB193_198.out _; (with_reducible repeat (first | apply kN | apply kD | apply kA)); refine blk_far ?_ NB193_198.out _; (with_reducible repeat (first | apply kN | apply kD | apply kA)); refine blk_far ?_ NB193_198.out _; (with_reducible repeat (first | apply kN | apply kD | apply kA)); exact BK193.out) hb); have n1_ := aM (blk_below (o := .cells #[.bool t194, .int .u64 t195, .int .u64 t196] 24 (0, 0)) (by (with_reducible repeat (first | apply kN | apply kD | apply kA)); refine blk_put (cs := #[.bool t194, .int .u64 t195, .int .u64 0]) ?_ 2 _ rfl; (with_reducible repeat (first | apply kN | apply kD | apply kA)); refine blk_put (cs := #[.bool t194, .int .u64 0, .int .u64 0]) ?_ 1 _ rfl; (with_reducible repeat (first | apply kN | apply kD | apply kA)); refine blk_put (cs := #[.bool false, .int .u64 0, .int .u64 0]) ?_ 0 _ rfl; (with_reducible repeat (first | apply kN | apply kD | apply kA)); exact BK198.out) hb); have n2_ := aM (below_step (by repeat (first | (with_reducible first | exact HB.out | apply bA | apply bN | apply bD | refine below_set ?_ (by apply Aside0.out; assumption)) | exact HB.out)) hb); clear BK193; clear BK198; clear HB; have BK193 := n0_; have BK198 := n1_; have HB := n2_; clear n0_ n1_ n2_; (try clear hb); (try clear hb2); (try clear hk); (try clear hi)) | ((with_reducible refine gate_dst (N := 5) rfl ?_); refine box_event ?hg (N := 5) ?hd (cs := #[.bool false, .int .u64 0, .int .u64 0, .int .i64 0]) (t := 26) ?hr ?_; (case hd => rfl); (case hg => rfl); (case hr => first | (go_simp; done) | (go_simp; rfl)); intro gb204 hg w65 hbox hb; have n0_ := aM (blk_below (o := .cells #[.bool t188, .int .u64 t189, .int .u64 t190, .int .i64 t191] 26 (0, 0)) (by (with_reducible repeat (first | apply kN | apply kD | apply kA)); exact BK193.out) hb); have n1_ := aM (blk_below (o := .cells #[.bool t194, .int .u64 t195, .int .u64 t196] 24 (0, 0)) (by (with_reducible repeat (first | apply kN | apply kD | apply kA)); exact BK198.out) hb); have n2_ := aM (below_step (by repeat (first | (with_reducible first | exact HB.out | apply bA | apply bN | apply bD | refine below_set ?_ (by apply Aside0.out; assumption)) | exact HB.out)) hb); have n3_ := aM (hbox); have n4_ := aM ((by rw [hg]; exact (below_size (by repeat (first | (with_reducible first | exact HB.out | apply bA | apply bN | apply bD | refine below_set ?_ (by apply Aside0.out; assumption)) | exact HB.out))) : w.heap.size ≤ gb204)); have n5_ := aM ((by rw [hg]; exact (below_size (by repeat (first | (with_reducible first | exact HB.out | apply bA | apply bN | apply bD | refine below_set ?_ (by apply Aside0.out; assumption)) | exact HB.out))) : w.heap.size ≤ gb204)); have n6_ := aM ((by rw [hg]; exact Nat.ne_of_lt (blk_lt (g := gb193) (o := .cells #[.bool t188, .int .u64 t189, .int .u64 t190, .int .i64 t191] 26 (0, 0)) (by (with_reducible repeat (first | apply kN | apply kD | apply kA)); exact BK193.out)) : gb193 ≠ gb204)); have n7_ := aM ((by rw [hg]; exact Nat.ne_of_gt (blk_lt (g := gb193) (o := .cells #[.bool t188, .int .u64 t189, .int .u64 t190, .int .i64 t191] 26 (0, 0)) (by (with_reducible repeat (first | apply kN | apply kD | apply kA)); exact BK193.out)) : gb204 ≠ gb193)); have n8_ := aM ((by rw [hg]; exact Nat.ne_of_lt (blk_lt (g := gb198) (o := .cells #[.bool t194, .int .u64 t195, .int .u64 t196] 24 (0, 0)) (by (with_reducible repeat (first | apply kN | apply kD | apply kA)); exact BK198.out)) : gb198 ≠ gb204)); have n9_ := aM ((by rw [hg]; exact Nat.ne_of_gt (blk_lt (g := gb198) (o := .cells #[.bool t194, .int .u64 t195, .int .u64 t196] 24 (0, 0)) (by (with_reducible repeat (first | apply kN | apply kD | apply kA)); exact BK198.out)) : gb204 ≠ gb198)); clear BK193; clear BK198; clear HB; have BK193 := n0_; have BK198 := n1_; have HB := n2_; have BK204 := n3_; have GW204 := n4_; have GE204 := n5_; have NB193_204 := n6_; have NB204_193 := n7_; have NB198_204 := n8_; have NB204_198 := n9_; clear n0_ n1_ n2_ n3_ n4_ n5_ n6_ n7_ n8_ n9_; clear hb hbox hg; have hnb66 := NB204_193.out; have hnc66 := NB193_204.out; have hnb67 := NB204_198.out; have hnc67 := NB198_204.out; have hcz68_0 : w65.cell? ⟨gb204, 0, none⟩ = some (.bool false) := (kC BK204.out 0).trans rfl; have hcz68_1 : w65.cell? ⟨gb204, 1, none⟩ = some (.int .u64 0) := (kC BK204.out 1).trans rfl; have hcz68_2 : w65.cell? ⟨gb204, 2, none⟩ = some (.int .u64 0) := (kC BK204.out 2).trans rfl; have hcz68_3 : w65.cell? ⟨gb204, 3, none⟩ = some (.int .i64 0) := (kC BK204.out 3).trans rfl; have hfz68_0 := kF BK204.out 0; have hfz68_1 := kF BK204.out 1; have hfz68_2 := kF BK204.out 2; have hfz68_3 := kF BK204.out 3))
   have n0_ : Aside0 (((((w65.setCell ⟨gb204, 0, none⟩ (.bool t199)).setCell ⟨gb204, 1, none⟩ (.int .u64 t200)).setCell ⟨gb204, 2, none⟩ (.int .u64 t201)).setCell ⟨gb204, 3, none⟩ (.int .i64 t202)).heap[gb193]? = some (.cells #[.bool t188, .int .u64 t189, .int .u64 t190, .int .i64 t191] 26 (0, 0))) := ⟨by (with_reducible repeat (first | apply kN | apply kD | apply kA)); refine blk_far ?_ NB193_204.out _; (with_reducible repeat (first | apply kN | apply kD | apply kA)); refine blk_far ?_ NB193_204.out _; (with_reducible repeat (first | apply kN | apply kD | apply kA)); refine blk_far ?_ NB193_204.out _; (with_reducible repeat (first | apply kN | apply kD | apply kA)); refine blk_far ?_ NB193_204.out _; (with_reducible repeat (first | apply kN | apply kD | apply kA)); exact BK193.out⟩
   have n1_ : Aside0 (((((w65.setCell ⟨gb204, 0, none⟩ (.bool t199)).setCell ⟨gb204, 1, none⟩ (.int .u64 t200)).setCell ⟨gb204, 2, none⟩ (.int .u64 t201)).setCell ⟨gb204, 3, none⟩ (.int .i64 t202)).heap[gb198]? = some (.cells #[.bool t194, .int .u64 t195, .int .u64 t196] 24 (0, 0))) := ⟨by (with_reducible repeat (first | apply kN | apply kD | apply kA)); refine blk_far ?_ NB198_204.out _; (with_reducible repeat (first | apply kN | apply kD | apply kA)); refine blk_far ?_ NB198_204.out _; (with_reducible repeat (first | apply kN | apply kD | apply kA)); refine blk_far ?_ NB198_204.out _; (with_reducible repeat (first | apply kN | apply kD | apply kA)); refine blk_far ?_ NB198_204.out _; (with_reducible repeat (first | apply kN | apply kD | apply kA)); exact BK198.out⟩
   have n2_ : Aside0 (((((w65.setCell ⟨gb204, 0, none⟩ (.bool t199)).setCell ⟨gb204, 1, none⟩ (.int .u64 t200)).setCell ⟨gb204, 2, none⟩ (.int .u64 t201)).setCell ⟨gb204, 3, none⟩ (.int .i64 t202)).heap[gb204]? = some (.cells #[.bool t199, .int .u64 t200, .int .u64 t201, .int .i64 t202] 26 (0, 0))) := ⟨by (with_reducible repeat (first | apply kN | apply kD | apply kA)); refine blk_put (cs := #[.bool t199, .int .u64 t200, .int .u64 t201, .int .i64 0]) ?_ 3 _ rfl; (with_reducible repeat (first | apply kN | apply kD | apply kA)); refine blk_put (cs := #[.bool t199, .int .u64 t200, .int .u64 0, .int .i64 0]) ?_ 2 _ rfl; (with_reducible repeat (first | apply kN | apply kD | apply kA)); refine blk_put (cs := #[.bool t199, .int .u64 0, .int .u64 0, .int .i64 0]) ?_ 1 _ rfl; (with_reducible repeat (first | apply kN | apply kD | apply kA)); refine blk_put (cs := #[.bool false, .int .u64 0, .int .u64 0, .int .i64 0]) ?_ 0 _ rfl; (with_reducible repeat (first | apply kN | apply kD | apply kA)); exact BK204.out⟩
   have n3_ : Aside0 (Below w.heap.size w ((((w65.setCell ⟨gb204, 0, none⟩ (.bool t199)).setCell ⟨gb204, 1, none⟩ (.int .u64 t200)).setCell ⟨gb204, 2, none⟩ (.int .u64 t201)).setCell ⟨gb204, 3, none⟩ (.int .i64 t202))) := ⟨by repeat (first | (with_reducible first | exact HB.out | apply bA | apply bN | apply bD | refine below_set ?_ (by apply Aside0.out; assumption)) | exact HB.out)⟩
   (try clear BK193)
   (try clear BK198)
   (try clear BK204)
   (try clear HB)
   (try (repeat rw [setCell_drewN_]))
   generalize ((((w65.setCell ⟨gb204, 0, none⟩ (.bool t199)).setCell ⟨gb204, 1, none⟩ (.int .u64 t200)).setCell ⟨gb204, 2, none⟩ (.int .u64 t201)).setCell ⟨gb204, 3, none⟩ (.int .i64 t202)) = w69 at n0_ n1_ n2_ n3_ ⊢
   have BK193 := n0_
   have BK198 := n1_
   have BK204 := n2_
   have HB := n3_
   clear n0_ n1_ n2_ n3_
   have n0_ := aM (kD BK193.out)
   have n1_ := aM (kD BK198.out)
   have n2_ := aM (kD BK204.out)
   have n3_ := aM (bD HB.out)
   clear BK193
   clear BK198
   clear BK204
   clear HB
   have BK193 := n0_
   have BK198 := n1_
   have BK204 := n2_
   have HB := n3_
   clear n0_ n1_ n2_ n3_
   refine start_ (n := 20) (S := fun w' => w'.cell? ⟨gb193, 0, none⟩ = some (.bool t188) ∧ w'.cell? ⟨gb193, 1, none⟩ = some (.int .u64 t189) ∧ w'.cell? ⟨gb193, 2, none⟩ = some (.int .u64 t190) ∧ w'.cell? ⟨gb193, 3, none⟩ = some (.int .i64 t191)) (ds := []) #[Nn,Nn,Nn,Nn,Nn,Nn,Nn,Nn,Nn,Nn,Nn,Nn,Nn,Nn,Nn,Nn,Nn,Nn,Nn,Nn] (by kernel_rfl) rfl rfl ⟨(kC BK193.out 0).trans rfl, (kC BK193.out 1).trans rfl, (kC BK193.out 2).trans rfl, (kC BK193.out 3).trans rfl⟩ (fun hHeld => ?_); refine with_tabW nameplatelaw05_lives.tab4 nameplatelaw05_lives.bits4 (fun HT_ HW_ => ?_)
   generalize w69.drew = w70 at BK193 BK198 BK204 HB hHeld ⊢
   refine pure_ (i := 0) (N := some 20) (v := ?_) (a' := ?_) #[Yy,Nn,Nn,Nn,Nn,Nn,Nn,Nn,Nn,Nn,Nn,Nn,Nn,Nn,Nn,Nn,Nn,Nn,Nn,Nn] rfl rfl (any_of HT_.out (by kernel_rfl)) (fun _ _ _ h => h) (Or.inl ⟨by rfl, ?_⟩) ?_ ?_
   rotate_left
   ·intro w'
    go_simp
    with_reducible rfl
   rotate_left
   ·simp only [Act.put, List.setIfInBounds_toArray, List.set_cons_zero, List.set_cons_succ, i64_w, i32_w]
    rfl
   refine pure_ (i := 1) (N := some 21) (v := ?_) (a' := ?_) #[Yy,Yy,Nn,Nn,Nn,Nn,Nn,Nn,Nn,Nn,Nn,Nn,Nn,Nn,Nn,Nn,Nn,Nn,Nn,Nn] rfl rfl (any_of HT_.out (by kernel_rfl)) (fun _ _ _ h => h) (Or.inl ⟨by rfl, ?_⟩) ?_ ?_
   rotate_left
   ·intro w'
    go_simp
    with_reducible rfl
   rotate_left
   ·simp only [Act.put, List.setIfInBounds_toArray, List.set_cons_zero, List.set_cons_succ, i64_w, i32_w]
    rfl
   refine pure_ (i := 2) (N := some 22) (v := ?_) (a' := ?_) #[Yy,Yy,Yy,Nn,Nn,Nn,Nn,Nn,Nn,Nn,Nn,Nn,Nn,Nn,Nn,Nn,Nn,Nn,Nn,Nn] rfl rfl (any_of HT_.out (by kernel_rfl)) (fun _ _ _ h => h) (Or.inl ⟨by rfl, ?_⟩) ?_ ?_
   rotate_left
   ·intro w'
    go_simp
    with_reducible rfl
   rotate_left
   ·simp only [Act.put, List.setIfInBounds_toArray, List.set_cons_zero, List.set_cons_succ, i64_w, i32_w]
    rfl
   refine take_ (i := 3) (N := some 23) (v := ?_) (a' := ?_) #[Yy,Yy,Yy,Yy,Nn,Nn,Nn,Nn,Nn,Nn,Nn,Nn,Nn,Nn,Nn,Nn,Nn,Nn,Nn,Nn] rfl rfl (take_ofW HT_.out HW_.out (by kernel_rfl)) (fun _ _ _ h => h) (Or.inl ⟨by rfl, ?_⟩) hHeld ?_ ?_
   rotate_left
   ·rintro w' ⟨s0, s1, s2, s3⟩
    go_simp
    with_reducible rfl
   rotate_left
   ·simp only [Act.put, List.setIfInBounds_toArray, List.set_cons_zero, List.set_cons_succ, i64_w, i32_w]
    rfl
   refine one_ (i := 4) (N := some 24) #[Yy,Yy,Yy,Yy,Yy,Nn,Nn,Nn,Nn,Nn,Nn,Nn,Nn,Nn,Nn,Nn,Nn,Nn,Nn,Nn] rfl rfl (one_of HT_.out (by kernel_rfl)) (by decide) (fun K hK => ?_)
   refine goes_ Tryz.func12 (by kernel_rfl) rfl #[.agg #[.bool t188, .int .u64 t189, .int .u64 t190, .int .i64 t191]] (by rfl) rfl rfl (by (try simp only [List.map_toArray, List.map_cons, List.map_nil]); first | done | rfl | (simp only [List.length_drop, List.length_take]; rfl)) ?_
   with_reducible refine (ranges_Size.calls t188 t189 t190 t191 t205 _ A5.out).mono ?_
   rintro e w71 ⟨rfl, hb⟩
   refine ⟨_, rfl, ?_⟩
   have n0_ := aM (blk_below (o := .cells #[.bool t188, .int .u64 t189, .int .u64 t190, .int .i64 t191] 26 (0, 0)) (by (with_reducible repeat (first | apply kN | apply kD | apply kA)); exact BK193.out) hb)
   have n1_ := aM (blk_below (o := .cells #[.bool t194, .int .u64 t195, .int .u64 t196] 24 (0, 0)) (by (with_reducible repeat (first | apply kN | apply kD | apply kA)); exact BK198.out) hb)
   have n2_ := aM (blk_below (o := .cells #[.bool t199, .int .u64 t200, .int .u64 t201, .int .i64 t202] 26 (0, 0)) (by (with_reducible repeat (first | apply kN | apply kD | apply kA)); exact BK204.out) hb)
   have n3_ := aM (below_step (by repeat (first | (with_reducible first | exact HB.out | apply bA | apply bN | apply bD | refine below_set ?_ (by apply Aside0.out; assumption)) | exact HB.out)) hb)
   clear BK193
   clear BK198
   clear BK204
   clear HB
   have BK193 := n0_
   have BK198 := n1_
   have BK204 := n2_
   have HB := n3_
   clear n0_ n1_ n2_ n3_
   (try clear hb)
   (try clear hb2)
   (try clear hk)
   (try clear hi)
   refine hK.out _ _ ⟨(kC BK193.out 0).trans rfl, (kC BK193.out 1).trans rfl, (kC BK193.out 2).trans rfl, (kC BK193.out 3).trans rfl⟩ (fun hHeld => ?_)
   clear hK K
   refine norm_ (a' := ?_) ?_ ?_
   rotate_left
   ·show Act.put _ (some 24) _ = _
    simp only [Act.put, List.setIfInBounds_toArray, List.set_cons_zero, List.set_cons_succ, i64_w, i32_w]
    rfl
   refine pure_ (i := 5) (N := some 25) (v := ?_) (a' := ?_) #[Yy,Yy,Yy,Yy,Yy,Yy,Nn,Nn,Nn,Nn,Nn,Nn,Nn,Nn,Nn,Nn,Nn,Nn,Nn,Nn] rfl rfl (any_of HT_.out (by kernel_rfl)) (fun _ _ _ h => h) (Or.inl ⟨by rfl, ?_⟩) ?_ ?_
   rotate_left
   ·intro w'
    go_simp
    with_reducible rfl
   rotate_left
   ·simp only [Act.put, List.setIfInBounds_toArray, List.set_cons_zero, List.set_cons_succ, i64_w, i32_w]
    rfl
   refine pure_ (i := 6) (N := some 26) (v := ?_) (a' := ?_) #[Yy,Yy,Yy,Yy,Yy,Yy,Yy,Nn,Nn,Nn,Nn,Nn,Nn,Nn,Nn,Nn,Nn,Nn,Nn,Nn] rfl rfl (any_of HT_.out (by kernel_rfl)) (fun _ _ _ h => h) (Or.inl ⟨by rfl, ?_⟩) ?_ ?_
   rotate_left
   ·intro w'
    go_simp
    with_reducible rfl
   rotate_left
   ·simp only [Act.put, List.setIfInBounds_toArray, List.set_cons_zero, List.set_cons_succ, i64_w, i32_w]
    rfl
   refine pure_ (i := 7) (N := some 27) (v := ?_) (a' := ?_) #[Yy,Yy,Yy,Yy,Yy,Yy,Yy,Yy,Nn,Nn,Nn,Nn,Nn,Nn,Nn,Nn,Nn,Nn,Nn,Nn] rfl rfl (any_of HT_.out (by kernel_rfl)) (fun _ _ _ h => h) (Or.inl ⟨by rfl, ?_⟩) ?_ ?_
   rotate_left
   ·intro w'
    go_simp
    with_reducible rfl
   rotate_left
   ·simp only [Act.put, List.setIfInBounds_toArray, List.set_cons_zero, List.set_cons_succ, i64_w, i32_w]
    rfl
   refine pure_ (i := 8) (N := some 28) (v := undef) (a' := ?_) #[Yy,Yy,Yy,Yy,Yy,Yy,Yy,Yy,Yy,Nn,Nn,Nn,Nn,Nn,Nn,Nn,Nn,Nn,Nn,Nn] rfl rfl (any_of HT_.out (by kernel_rfl)) (fun _ _ _ h => h) (Or.inr ⟨by rfl, rfl⟩) ?_ ?_
   rotate_left
   ·simp only [Act.put, List.setIfInBounds_toArray, List.set_cons_zero, List.set_cons_succ, i64_w, i32_w]
    rfl
   refine pure_ (i := 9) (N := some 29) (v := ?_) (a' := ?_) #[Yy,Yy,Yy,Yy,Yy,Yy,Yy,Yy,Yy,Yy,Nn,Nn,Nn,Nn,Nn,Nn,Nn,Nn,Nn,Nn] rfl rfl (any_of HT_.out (by kernel_rfl)) (fun _ _ _ h => h) (Or.inl ⟨by rfl, ?_⟩) ?_ ?_
   rotate_left
   ·intro w'
    go_simp
    with_reducible rfl
   rotate_left
   ·simp only [Act.put, List.setIfInBounds_toArray, List.set_cons_zero, List.set_cons_succ, i64_w, i32_w]
    rfl
   refine pure_ (i := 10) (N := some 30) (v := ?_) (a' := ?_) #[Yy,Yy,Yy,Yy,Yy,Yy,Yy,Yy,Yy,Yy,Yy,Nn,Nn,Nn,Nn,Nn,Nn,Nn,Nn,Nn] rfl rfl (any_of HT_.out (by kernel_rfl)) (fun _ _ _ h => h) (Or.inl ⟨by rfl, ?_⟩) ?_ ?_
   rotate_left
   ·intro w'
    go_simp
    with_reducible rfl
   rotate_left
   ·simp only [Act.put, List.setIfInBounds_toArray, List.set_cons_zero, List.set_cons_succ, i64_w, i32_w]
    rfl
   refine pure_ (i := 11) (N := some 31) (v := undef) (a' := ?_) #[Yy,Yy,Yy,Yy,Yy,Yy,Yy,Yy,Yy,Yy,Yy,Yy,Nn,Nn,Nn,Nn,Nn,Nn,Nn,Nn] rfl rfl (any_of HT_.out (by kernel_rfl)) (fun _ _ _ h => h) (Or.inr ⟨by rfl, rfl⟩) ?_ ?_
   rotate_left
   ·simp only [Act.put, List.setIfInBounds_toArray, List.set_cons_zero, List.set_cons_succ, i64_w, i32_w]
    rfl
   refine pure_ (i := 12) (N := some 32) (v := undef) (a' := ?_) #[Yy,Yy,Yy,Yy,Yy,Yy,Yy,Yy,Yy,Yy,Yy,Yy,Yy,Nn,Nn,Nn,Nn,Nn,Nn,Nn] rfl rfl (any_of HT_.out (by kernel_rfl)) (fun _ _ _ h => h) (Or.inr ⟨by rfl, rfl⟩) ?_ ?_
   rotate_left
   ·simp only [Act.put, List.setIfInBounds_toArray, List.set_cons_zero, List.set_cons_succ, i64_w, i32_w]
    rfl
   refine pure_ (i := 13) (N := some 33) (v := undef) (a' := ?_) #[Yy,Yy,Yy,Yy,Yy,Yy,Yy,Yy,Yy,Yy,Yy,Yy,Yy,Yy,Nn,Nn,Nn,Nn,Nn,Nn] rfl rfl (any_of HT_.out (by kernel_rfl)) (fun _ _ _ h => h) (Or.inr ⟨by rfl, rfl⟩) ?_ ?_
   rotate_left
   ·simp only [Act.put, List.setIfInBounds_toArray, List.set_cons_zero, List.set_cons_succ, i64_w, i32_w]
    rfl
   refine pure_ (i := 14) (N := some 34) (v := ?_) (a' := ?_) #[Yy,Yy,Yy,Yy,Yy,Yy,Yy,Yy,Yy,Yy,Yy,Yy,Yy,Yy,Yy,Nn,Nn,Nn,Nn,Nn] rfl rfl (any_of HT_.out (by kernel_rfl)) (fun _ _ _ h => h) (Or.inl ⟨by rfl, ?_⟩) ?_ ?_
   rotate_left
   ·intro w'
    go_simp
    with_reducible rfl
   rotate_left
   ·simp only [Act.put, List.setIfInBounds_toArray, List.set_cons_zero, List.set_cons_succ, i64_w, i32_w]
    rfl
   refine pure_ (i := 15) (N := some 35) (v := ?_) (a' := ?_) #[Yy,Yy,Yy,Yy,Yy,Yy,Yy,Yy,Yy,Yy,Yy,Yy,Yy,Yy,Yy,Yy,Nn,Nn,Nn,Nn] rfl rfl (any_of HT_.out (by kernel_rfl)) (fun _ _ _ h => h) (Or.inl ⟨by rfl, ?_⟩) ?_ ?_
   rotate_left
   ·intro w'
    go_simp
    with_reducible rfl
   rotate_left
   ·simp only [Act.put, List.setIfInBounds_toArray, List.set_cons_zero, List.set_cons_succ, i64_w, i32_w]
    rfl
   refine pure_ (i := 16) (N := some 36) (v := undef) (a' := ?_) #[Yy,Yy,Yy,Yy,Yy,Yy,Yy,Yy,Yy,Yy,Yy,Yy,Yy,Yy,Yy,Yy,Yy,Nn,Nn,Nn] rfl rfl (any_of HT_.out (by kernel_rfl)) (fun _ _ _ h => h) (Or.inr ⟨by rfl, rfl⟩) ?_ ?_
   rotate_left
   ·simp only [Act.put, List.setIfInBounds_toArray, List.set_cons_zero, List.set_cons_succ, i64_w, i32_w]
    rfl
   refine pure_ (i := 17) (N := some 37) (v := undef) (a' := ?_) #[Yy,Yy,Yy,Yy,Yy,Yy,Yy,Yy,Yy,Yy,Yy,Yy,Yy,Yy,Yy,Yy,Yy,Yy,Nn,Nn] rfl rfl (any_of HT_.out (by kernel_rfl)) (fun _ _ _ h => h) (Or.inr ⟨by rfl, rfl⟩) ?_ ?_
   rotate_left
   ·simp only [Act.put, List.setIfInBounds_toArray, List.set_cons_zero, List.set_cons_succ, i64_w, i32_w]
    rfl
   refine pure_ (i := 18) (N := some 38) (v := ?_) (a' := ?_) #[Yy,Yy,Yy,Yy,Yy,Yy,Yy,Yy,Yy,Yy,Yy,Yy,Yy,Yy,Yy,Yy,Yy,Yy,Yy,Nn] rfl rfl (any_of HT_.out (by kernel_rfl)) (fun _ _ _ h => h) (Or.inl ⟨by rfl, ?_⟩) ?_ ?_
   rotate_left
   ·intro w'
    go_simp
    with_reducible rfl
   rotate_left
   ·simp only [Act.put, List.setIfInBounds_toArray, List.set_cons_zero, List.set_cons_succ, i64_w, i32_w]
    rfl
   refine pure_ (i := 19) (N := some 0) (v := ?_) (a' := ?_) #[Yy,Yy,Yy,Yy,Yy,Yy,Yy,Yy,Yy,Yy,Yy,Yy,Yy,Yy,Yy,Yy,Yy,Yy,Yy,Yy] rfl rfl (any_of HT_.out (by kernel_rfl)) (fun _ _ _ h => h) (Or.inl ⟨by rfl, ?_⟩) ?_ ?_
   rotate_left
   ·intro w'
    go_simp
    with_reducible rfl
   rotate_left
   ·simp only [Act.put, List.setIfInBounds_toArray, List.set_cons_zero, List.set_cons_succ, i64_w, i32_w]
    rfl
   refine done_ (done_of HT_.out (by kernel_rfl)) ?_
   try go_wp2
   go_ret
   exact ⟨by first | rfl | (simp [errW_none, errW_some] <;> rfl) | (simp [*, errW_none, errW_some] <;> rfl), by repeat (first | (with_reducible first | exact HB.out | apply bA | apply bN | apply bD | refine below_set ?_ (by apply Aside0.out; assumption)) | exact HB.out)⟩
 ·rw [if_neg c4] at H
  have c4b0 : (t192 == 0) = false := beq_eq_false_iff_ne.mpr c4
  have c4b1 : (t192 != 0) = true := bne_iff_ne.mpr c4
  obtain rfl := Option.some.inj H
  go_enter Tryz.func10, Tryz.ntmps10
  try go_wp2_with (first | ((with_reducible refine gate_callee (f := 22) rfl ?_); refine goesL_ (some 8) rfl rfl Tryz.func22 (by kernel_rfl) rfl #[.string (⟨#[49, 48, 46, 48, 46, 48, 46, 48, 47, 51, 48]⟩ : ByteArray)] rfl (by (try simp only [List.map_toArray, List.map_cons, List.map_nil]); first | done | rfl | (simp only [List.length_drop, List.length_take]; rfl)) ?_; (with_reducible refine (ranges_Read.calls k (⟨#[49, 48, 46, 48, 46, 48, 46, 48, 47, 51, 48]⟩ : ByteArray) t188 t189 t190 t191 t192 _ ⟨hG_.out.below (by repeat (first | (with_reducible first | exact HB.out | apply bA | apply bN | apply bD | refine below_set ?_ (by apply Aside0.out; assumption)) | exact HB.out | exact Below.refl _ _))⟩ A1.out).mono ?_); rintro e w72 ⟨rfl, hb⟩; refine ⟨_, rfl, ?_⟩; have n0_ := aM (below_step (by repeat (first | (with_reducible first | exact HB.out | apply bA | apply bN | apply bD) | exact HB.out)) hb); clear HB; have HB := n0_; clear n0_; (try clear hb); (try clear hb2); (try clear hk); (try clear hi)) | ((with_reducible refine gate_dst (N := 1) rfl ?_); refine box_event ?hg (N := 1) ?hd (cs := #[.bool false, .int .u64 0, .int .u64 0, .int .i64 0]) (t := 26) ?hr ?_; (case hd => rfl); (case hg => rfl); (case hr => first | (go_simp; done) | (go_simp; rfl)); intro gb193 hg w73 hbox hb; have n0_ := aM (below_step (by repeat (first | (with_reducible first | exact HB.out | apply bA | apply bN | apply bD) | exact HB.out)) hb); have n1_ := aM (hbox); have n2_ := aM ((by rw [hg]; exact (below_size (by repeat (first | (with_reducible first | exact HB.out | apply bA | apply bN | apply bD) | exact HB.out))) : w.heap.size ≤ gb193)); have n3_ := aM ((by rw [hg]; exact (below_size (by repeat (first | (with_reducible first | exact HB.out | apply bA | apply bN | apply bD) | exact HB.out))) : w.heap.size ≤ gb193)); clear HB; have HB := n0_; have BK193 := n1_; have GW193 := n2_; have GE193 := n3_; clear n0_ n1_ n2_ n3_; clear hb hbox hg; have hcz74_0 : w73.cell? ⟨gb193, 0, none⟩ = some (.bool false) := (kC BK193.out 0).trans rfl; have hcz74_1 : w73.cell? ⟨gb193, 1, none⟩ = some (.int .u64 0) := (kC BK193.out 1).trans rfl; have hcz74_2 : w73.cell? ⟨gb193, 2, none⟩ = some (.int .u64 0) := (kC BK193.out 2).trans rfl; have hcz74_3 : w73.cell? ⟨gb193, 3, none⟩ = some (.int .i64 0) := (kC BK193.out 3).trans rfl; have hfz74_0 := kF BK193.out 0; have hfz74_1 := kF BK193.out 1; have hfz74_2 := kF BK193.out 2; have hfz74_3 := kF BK193.out 3) | ((with_reducible refine gate_callee (f := 13) rfl ?_); refine goesL_ (some 13) rfl rfl Tryz.func13 (by kernel_rfl) rfl #[.agg #[.bool t188, .int .u64 t189, .int .u64 t190, .int .i64 t191], .int .i64 3] rfl (by (try simp only [List.map_toArray, List.map_cons, List.map_nil]); first | done | rfl | (simp only [List.length_drop, List.length_take]; rfl)) ?_; (with_reducible refine (ranges_At.calls t188 t189 t190 t191 3 t194 t195 t196 t197 _ A2.out).mono ?_); rintro e w75 ⟨rfl, hb⟩; refine ⟨_, rfl, ?_⟩; have n0_ := aM (blk_below (o := .cells #[.bool t188, .int .u64 t189, .int .u64 t190, .int .i64 t191] 26 (0, 0)) (by (with_reducible repeat (first | apply kN | apply kD | apply kA)); refine blk_put (cs := #[.bool t188, .int .u64 t189, .int .u64 t190, .int .i64 0]) ?_ 3 _ rfl; (with_reducible repeat (first | apply kN | apply kD | apply kA)); refine blk_put (cs := #[.bool t188, .int .u64 t189, .int .u64 0, .int .i64 0]) ?_ 2 _ rfl; (with_reducible repeat (first | apply kN | apply kD | apply kA)); refine blk_put (cs := #[.bool t188, .int .u64 0, .int .u64 0, .int .i64 0]) ?_ 1 _ rfl; (with_reducible repeat (first | apply kN | apply kD | apply kA)); refine blk_put (cs := #[.bool false, .int .u64 0, .int .u64 0, .int .i64 0]) ?_ 0 _ rfl; (with_reducible repeat (first | apply kN | apply kD | apply kA)); exact BK193.out) hb); have n1_ := aM (below_step (by repeat (first | (with_reducible first | exact HB.out | apply bA | apply bN | apply bD | refine below_set ?_ (by apply Aside0.out; assumption)) | exact HB.out)) hb); clear BK193; clear HB; have BK193 := n0_; have HB := n1_; clear n0_ n1_; (try clear hb); (try clear hb2); (try clear hk); (try clear hi)) | ((with_reducible refine gate_dst (N := 3) rfl ?_); refine box_event ?hg (N := 3) ?hd (cs := #[.bool false, .int .u64 0, .int .u64 0]) (t := 24) ?hr ?_; (case hd => rfl); (case hg => rfl); (case hr => first | (go_simp; done) | (go_simp; rfl)); intro gb198 hg w76 hbox hb; have n0_ := aM (blk_below (o := .cells #[.bool t188, .int .u64 t189, .int .u64 t190, .int .i64 t191] 26 (0, 0)) (by (with_reducible repeat (first | apply kN | apply kD | apply kA)); exact BK193.out) hb); have n1_ := aM (below_step (by repeat (first | (with_reducible first | exact HB.out | apply bA | apply bN | apply bD | refine below_set ?_ (by apply Aside0.out; assumption)) | exact HB.out)) hb); have n2_ := aM (hbox); have n3_ := aM ((by rw [hg]; exact (below_size (by repeat (first | (with_reducible first | exact HB.out | apply bA | apply bN | apply bD | refine below_set ?_ (by apply Aside0.out; assumption)) | exact HB.out))) : w.heap.size ≤ gb198)); have n4_ := aM ((by rw [hg]; exact (below_size (by repeat (first | (with_reducible first | exact HB.out | apply bA | apply bN | apply bD | refine below_set ?_ (by apply Aside0.out; assumption)) | exact HB.out))) : w.heap.size ≤ gb198)); have n5_ := aM ((by rw [hg]; exact Nat.ne_of_lt (blk_lt (g := gb193) (o := .cells #[.bool t188, .int .u64 t189, .int .u64 t190, .int .i64 t191] 26 (0, 0)) (by (with_reducible repeat (first | apply kN | apply kD | apply kA)); exact BK193.out)) : gb193 ≠ gb198)); have n6_ := aM ((by rw [hg]; exact Nat.ne_of_gt (blk_lt (g := gb193) (o := .cells #[.bool t188, .int .u64 t189, .int .u64 t190, .int .i64 t191] 26 (0, 0)) (by (with_reducible repeat (first | apply kN | apply kD | apply kA)); exact BK193.out)) : gb198 ≠ gb193)); clear BK193; clear HB; have BK193 := n0_; have HB := n1_; have BK198 := n2_; have GW198 := n3_; have GE198 := n4_; have NB193_198 := n5_; have NB198_193 := n6_; clear n0_ n1_ n2_ n3_ n4_ n5_ n6_; clear hb hbox hg; have hnb77 := NB198_193.out; have hnc77 := NB193_198.out; have hcz78_0 : w76.cell? ⟨gb198, 0, none⟩ = some (.bool false) := (kC BK198.out 0).trans rfl; have hcz78_1 : w76.cell? ⟨gb198, 1, none⟩ = some (.int .u64 0) := (kC BK198.out 1).trans rfl; have hcz78_2 : w76.cell? ⟨gb198, 2, none⟩ = some (.int .u64 0) := (kC BK198.out 2).trans rfl; have hfz78_0 := kF BK198.out 0; have hfz78_1 := kF BK198.out 1; have hfz78_2 := kF BK198.out 2) | ((with_reducible refine gate_callee (f := 22) rfl ?_); refine goesL_ (some 17) rfl rfl Tryz.func22 (by kernel_rfl) rfl #[.string (⟨#[49, 48, 46, 48, 46, 48, 46, 49, 47, 51, 48]⟩ : ByteArray)] rfl (by (try simp only [List.map_toArray, List.map_cons, List.map_nil]); first | done | rfl | (simp only [List.length_drop, List.length_take]; rfl)) ?_; (with_reducible refine (ranges_Read.calls k (⟨#[49, 48, 46, 48, 46, 48, 46, 49, 47, 51, 48]⟩ : ByteArray) t199 t200 t201 t202 t203 _ ⟨hG_.out.below (by repeat (first | (with_reducible first | exact HB.out | apply bA | apply bN | apply bD | refine below_set ?_ (by apply Aside0.out; assumption)) | exact HB.out | exact Below.refl _ _))⟩ A3.out).mono ?_); rintro e w79 ⟨rfl, hb⟩; refine ⟨_, rfl, ?_⟩; have n0_ := aM (blk_below (o := .cells #[.bool t188, .int .u64 t189, .int .u64 t190, .int .i64 t191] 26 (0, 0)) (by (with_reducible repeat (first | apply kN | apply kD | apply kA)); refine blk_far ?_ NB193_198.out _; (with_reducible repeat (first | apply kN | apply kD | apply kA)); refine blk_far ?_ NB193_198.out _; (with_reducible repeat (first | apply kN | apply kD | apply kA)); refine blk_far ?_ NB193_198.out _; (with_reducible repeat (first | apply kN | apply kD | apply kA)); exact BK193.out) hb); have n1_ := aM (blk_below (o := .cells #[.bool t194, .int .u64 t195, .int .u64 t196] 24 (0, 0)) (by (with_reducible repeat (first | apply kN | apply kD | apply kA)); refine blk_put (cs := #[.bool t194, .int .u64 t195, .int .u64 0]) ?_ 2 _ rfl; (with_reducible repeat (first | apply kN | apply kD | apply kA)); refine blk_put (cs := #[.bool t194, .int .u64 0, .int .u64 0]) ?_ 1 _ rfl; (with_reducible repeat (first | apply kN | apply kD | apply kA)); refine blk_put (cs := #[.bool false, .int .u64 0, .int .u64 0]) ?_ 0 _ rfl; (with_reducible repeat (first | apply kN | apply kD | apply kA)); exact BK198.out) hb); have n2_ := aM (below_step (by repeat (first | (with_reducible first | exact HB.out | apply bA | apply bN | apply bD | refine below_set ?_ (by apply Aside0.out; assumption)) | exact HB.out)) hb); clear BK193; clear BK198; clear HB; have BK193 := n0_; have BK198 := n1_; have HB := n2_; clear n0_ n1_ n2_; (try clear hb); (try clear hb2); (try clear hk); (try clear hi)) | ((with_reducible refine gate_dst (N := 5) rfl ?_); refine box_event ?hg (N := 5) ?hd (cs := #[.bool false, .int .u64 0, .int .u64 0, .int .i64 0]) (t := 26) ?hr ?_; (case hd => rfl); (case hg => rfl); (case hr => first | (go_simp; done) | (go_simp; rfl)); intro gb204 hg w80 hbox hb; have n0_ := aM (blk_below (o := .cells #[.bool t188, .int .u64 t189, .int .u64 t190, .int .i64 t191] 26 (0, 0)) (by (with_reducible repeat (first | apply kN | apply kD | apply kA)); exact BK193.out) hb); have n1_ := aM (blk_below (o := .cells #[.bool t194, .int .u64 t195, .int .u64 t196] 24 (0, 0)) (by (with_reducible repeat (first | apply kN | apply kD | apply kA)); exact BK198.out) hb); have n2_ := aM (below_step (by repeat (first | (with_reducible first | exact HB.out | apply bA | apply bN | apply bD | refine below_set ?_ (by apply Aside0.out; assumption)) | exact HB.out)) hb); have n3_ := aM (hbox); have n4_ := aM ((by rw [hg]; exact (below_size (by repeat (first | (with_reducible first | exact HB.out | apply bA | apply bN | apply bD | refine below_set ?_ (by apply Aside0.out; assumption)) | exact HB.out))) : w.heap.size ≤ gb204)); have n5_ := aM ((by rw [hg]; exact (below_size (by repeat (first | (with_reducible first | exact HB.out | apply bA | apply bN | apply bD | refine below_set ?_ (by apply Aside0.out; assumption)) | exact HB.out))) : w.heap.size ≤ gb204)); have n6_ := aM ((by rw [hg]; exact Nat.ne_of_lt (blk_lt (g := gb193) (o := .cells #[.bool t188, .int .u64 t189, .int .u64 t190, .int .i64 t191] 26 (0, 0)) (by (with_reducible repeat (first | apply kN | apply kD | apply kA)); exact BK193.out)) : gb193 ≠ gb204)); have n7_ := aM ((by rw [hg]; exact Nat.ne_of_gt (blk_lt (g := gb193) (o := .cells #[.bool t188, .int .u64 t189, .int .u64 t190, .int .i64 t191] 26 (0, 0)) (by (with_reducible repeat (first | apply kN | apply kD | apply kA)); exact BK193.out)) : gb204 ≠ gb193)); have n8_ := aM ((by rw [hg]; exact Nat.ne_of_lt (blk_lt (g := gb198) (o := .cells #[.bool t194, .int .u64 t195, .int .u64 t196] 24 (0, 0)) (by (with_reducible repeat (first | apply kN | apply kD | apply kA)); exact BK198.out)) : gb198 ≠ gb204)); have n9_ := aM ((by rw [hg]; exact Nat.ne_of_gt (blk_lt (g := gb198) (o := .cells #[.bool t194, .int .u64 t195, .int .u64 t196] 24 (0, 0)) (by (with_reducible repeat (first | apply kN | apply kD | apply kA)); exact BK198.out)) : gb204 ≠ gb198)); clear BK193; clear BK198; clear HB; have BK193 := n0_; have BK198 := n1_; have HB := n2_; have BK204 := n3_; have GW204 := n4_; have GE204 := n5_; have NB193_204 := n6_; have NB204_193 := n7_; have NB198_204 := n8_; have NB204_198 := n9_; clear n0_ n1_ n2_ n3_ n4_ n5_ n6_ n7_ n8_ n9_; clear hb hbox hg; have hnb81 := NB204_193.out; have hnc81 := NB193_204.out; have hnb82 := NB204_198.out; have hnc82 := NB198_204.out; have hcz83_0 : w80.cell? ⟨gb204, 0, none⟩ = some (.bool false) := (kC BK204.out 0).trans rfl; have hcz83_1 : w80.cell? ⟨gb204, 1, none⟩ = some (.int .u64 0) := (kC BK204.out 1).trans rfl; have hcz83_2 : w80.cell? ⟨gb204, 2, none⟩ = some (.int .u64 0) := (kC BK204.out 2).trans rfl; have hcz83_3 : w80.cell? ⟨gb204, 3, none⟩ = some (.int .i64 0) := (kC BK204.out 3).trans rfl; have hfz83_0 := kF BK204.out 0; have hfz83_1 := kF BK204.out 1; have hfz83_2 := kF BK204.out 2; have hfz83_3 := kF BK204.out 3))
  have n0_ : Aside0 (((((w80.setCell ⟨gb204, 0, none⟩ (.bool t199)).setCell ⟨gb204, 1, none⟩ (.int .u64 t200)).setCell ⟨gb204, 2, none⟩ (.int .u64 t201)).setCell ⟨gb204, 3, none⟩ (.int .i64 t202)).heap[gb193]? = some (.cells #[.bool t188, .int .u64 t189, .int .u64 t190, .int .i64 t191] 26 (0, 0))) := ⟨by (with_reducible repeat (first | apply kN | apply kD | apply kA)); refine blk_far ?_ NB193_204.out _; (with_reducible repeat (first | apply kN | apply kD | apply kA)); refine blk_far ?_ NB193_204.out _; (with_reducible repeat (first | apply kN | apply kD | apply kA)); refine blk_far ?_ NB193_204.out _; (with_reducible repeat (first | apply kN | apply kD | apply kA)); refine blk_far ?_ NB193_204.out _; (with_reducible repeat (first | apply kN | apply kD | apply kA)); exact BK193.out⟩
  have n1_ : Aside0 (((((w80.setCell ⟨gb204, 0, none⟩ (.bool t199)).setCell ⟨gb204, 1, none⟩ (.int .u64 t200)).setCell ⟨gb204, 2, none⟩ (.int .u64 t201)).setCell ⟨gb204, 3, none⟩ (.int .i64 t202)).heap[gb198]? = some (.cells #[.bool t194, .int .u64 t195, .int .u64 t196] 24 (0, 0))) := ⟨by (with_reducible repeat (first | apply kN | apply kD | apply kA)); refine blk_far ?_ NB198_204.out _; (with_reducible repeat (first | apply kN | apply kD | apply kA)); refine blk_far ?_ NB198_204.out _; (with_reducible repeat (first | apply kN | apply kD | apply kA)); refine blk_far ?_ NB198_204.out _; (with_reducible repeat (first | apply kN | apply kD | apply kA)); refine blk_far ?_ NB198_204.out _; (with_reducible repeat (first | apply kN | apply kD | apply kA)); exact BK198.out⟩
  have n2_ : Aside0 (((((w80.setCell ⟨gb204, 0, none⟩ (.bool t199)).setCell ⟨gb204, 1, none⟩ (.int .u64 t200)).setCell ⟨gb204, 2, none⟩ (.int .u64 t201)).setCell ⟨gb204, 3, none⟩ (.int .i64 t202)).heap[gb204]? = some (.cells #[.bool t199, .int .u64 t200, .int .u64 t201, .int .i64 t202] 26 (0, 0))) := ⟨by (with_reducible repeat (first | apply kN | apply kD | apply kA)); refine blk_put (cs := #[.bool t199, .int .u64 t200, .int .u64 t201, .int .i64 0]) ?_ 3 _ rfl; (with_reducible repeat (first | apply kN | apply kD | apply kA)); refine blk_put (cs := #[.bool t199, .int .u64 t200, .int .u64 0, .int .i64 0]) ?_ 2 _ rfl; (with_reducible repeat (first | apply kN | apply kD | apply kA)); refine blk_put (cs := #[.bool t199, .int .u64 0, .int .u64 0, .int .i64 0]) ?_ 1 _ rfl; (with_reducible repeat (first | apply kN | apply kD | apply kA)); refine blk_put (cs := #[.bool false, .int .u64 0, .int .u64 0, .int .i64 0]) ?_ 0 _ rfl; (with_reducible repeat (first | apply kN | apply kD | apply kA)); exact BK204.out⟩
  have n3_ : Aside0 (Below w.heap.size w ((((w80.setCell ⟨gb204, 0, none⟩ (.bool t199)).setCell ⟨gb204, 1, none⟩ (.int .u64 t200)).setCell ⟨gb204, 2, none⟩ (.int .u64 t201)).setCell ⟨gb204, 3, none⟩ (.int .i64 t202))) := ⟨by repeat (first | (with_reducible first | exact HB.out | apply bA | apply bN | apply bD | refine below_set ?_ (by apply Aside0.out; assumption)) | exact HB.out)⟩
  (try clear BK193)
  (try clear BK198)
  (try clear BK204)
  (try clear HB)
  (try (repeat rw [setCell_drewN_]))
  generalize ((((w80.setCell ⟨gb204, 0, none⟩ (.bool t199)).setCell ⟨gb204, 1, none⟩ (.int .u64 t200)).setCell ⟨gb204, 2, none⟩ (.int .u64 t201)).setCell ⟨gb204, 3, none⟩ (.int .i64 t202)) = w84 at n0_ n1_ n2_ n3_ ⊢
  have BK193 := n0_
  have BK198 := n1_
  have BK204 := n2_
  have HB := n3_
  clear n0_ n1_ n2_ n3_
  have n0_ := aM (kD BK193.out)
  have n1_ := aM (kD BK198.out)
  have n2_ := aM (kD BK204.out)
  have n3_ := aM (bD HB.out)
  clear BK193
  clear BK198
  clear BK204
  clear HB
  have BK193 := n0_
  have BK198 := n1_
  have BK204 := n2_
  have HB := n3_
  clear n0_ n1_ n2_ n3_
  refine start_ (n := 20) (S := fun w' => True) (ds := []) #[Nn,Nn,Nn,Nn,Nn,Nn,Nn,Nn,Nn,Nn,Nn,Nn,Nn,Nn,Nn,Nn,Nn,Nn,Nn,Nn] (by kernel_rfl) rfl rfl trivial (fun hHeld => ?_); refine with_tabW nameplatelaw05_lives.tab4 nameplatelaw05_lives.bits4 (fun HT_ HW_ => ?_)
  generalize w84.drew = w85 at BK193 BK198 BK204 HB hHeld ⊢
  refine pure_ (i := 0) (N := some 20) (v := ?_) (a' := ?_) #[Yy,Nn,Nn,Nn,Nn,Nn,Nn,Nn,Nn,Nn,Nn,Nn,Nn,Nn,Nn,Nn,Nn,Nn,Nn,Nn] rfl rfl (any_of HT_.out (by kernel_rfl)) (fun _ _ _ h => h) (Or.inl ⟨by rfl, ?_⟩) ?_ ?_
  rotate_left
  ·intro w'
   go_simp
   with_reducible rfl
  rotate_left
  ·simp only [Act.put, List.setIfInBounds_toArray, List.set_cons_zero, List.set_cons_succ, i64_w, i32_w]
   rfl
  refine pure_ (i := 1) (N := some 21) (v := ?_) (a' := ?_) #[Yy,Yy,Nn,Nn,Nn,Nn,Nn,Nn,Nn,Nn,Nn,Nn,Nn,Nn,Nn,Nn,Nn,Nn,Nn,Nn] rfl rfl (any_of HT_.out (by kernel_rfl)) (fun _ _ _ h => h) (Or.inl ⟨by rfl, ?_⟩) ?_ ?_
  rotate_left
  ·intro w'
   go_simp
   with_reducible rfl
  rotate_left
  ·simp only [Act.put, List.setIfInBounds_toArray, List.set_cons_zero, List.set_cons_succ, i64_w, i32_w]
   rfl
  refine pure_ (i := 2) (N := some 22) (v := ?_) (a' := ?_) #[Yy,Yy,Yy,Nn,Nn,Nn,Nn,Nn,Nn,Nn,Nn,Nn,Nn,Nn,Nn,Nn,Nn,Nn,Nn,Nn] rfl rfl (any_of HT_.out (by kernel_rfl)) (fun _ _ _ h => h) (Or.inl ⟨by rfl, ?_⟩) ?_ ?_
  rotate_left
  ·intro w'
   go_simp
   with_reducible rfl
  rotate_left
  ·simp only [Act.put, List.setIfInBounds_toArray, List.set_cons_zero, List.set_cons_succ, i64_w, i32_w]
   rfl
  refine pure_ (i := 3) (N := some 23) (v := undef) (a' := ?_) #[Yy,Yy,Yy,Yy,Nn,Nn,Nn,Nn,Nn,Nn,Nn,Nn,Nn,Nn,Nn,Nn,Nn,Nn,Nn,Nn] rfl rfl (any_of HT_.out (by kernel_rfl)) (fun _ _ _ h => h) (Or.inr ⟨by rfl, rfl⟩) ?_ ?_
  rotate_left
  ·simp only [Act.put, List.setIfInBounds_toArray, List.set_cons_zero, List.set_cons_succ, i64_w, i32_w]
   rfl
  refine pure_ (i := 4) (N := some 24) (v := undef) (a' := ?_) #[Yy,Yy,Yy,Yy,Yy,Nn,Nn,Nn,Nn,Nn,Nn,Nn,Nn,Nn,Nn,Nn,Nn,Nn,Nn,Nn] rfl rfl (any_of HT_.out (by kernel_rfl)) (fun _ _ _ h => h) (Or.inr ⟨by rfl, rfl⟩) ?_ ?_
  rotate_left
  ·simp only [Act.put, List.setIfInBounds_toArray, List.set_cons_zero, List.set_cons_succ, i64_w, i32_w]
   rfl
  refine pure_ (i := 5) (N := some 25) (v := undef) (a' := ?_) #[Yy,Yy,Yy,Yy,Yy,Yy,Nn,Nn,Nn,Nn,Nn,Nn,Nn,Nn,Nn,Nn,Nn,Nn,Nn,Nn] rfl rfl (any_of HT_.out (by kernel_rfl)) (fun _ _ _ h => h) (Or.inr ⟨by rfl, rfl⟩) ?_ ?_
  rotate_left
  ·simp only [Act.put, List.setIfInBounds_toArray, List.set_cons_zero, List.set_cons_succ, i64_w, i32_w]
   rfl
  refine pure_ (i := 6) (N := some 26) (v := ?_) (a' := ?_) #[Yy,Yy,Yy,Yy,Yy,Yy,Yy,Nn,Nn,Nn,Nn,Nn,Nn,Nn,Nn,Nn,Nn,Nn,Nn,Nn] rfl rfl (any_of HT_.out (by kernel_rfl)) (fun _ _ _ h => h) (Or.inl ⟨by rfl, ?_⟩) ?_ ?_
  rotate_left
  ·intro w'
   go_simp
   with_reducible rfl
  rotate_left
  ·simp only [Act.put, List.setIfInBounds_toArray, List.set_cons_zero, List.set_cons_succ, i64_w, i32_w]
   rfl
  refine pure_ (i := 7) (N := some 27) (v := ?_) (a' := ?_) #[Yy,Yy,Yy,Yy,Yy,Yy,Yy,Yy,Nn,Nn,Nn,Nn,Nn,Nn,Nn,Nn,Nn,Nn,Nn,Nn] rfl rfl (any_of HT_.out (by kernel_rfl)) (fun _ _ _ h => h) (Or.inl ⟨by rfl, ?_⟩) ?_ ?_
  rotate_left
  ·intro w'
   go_simp
   with_reducible rfl
  rotate_left
  ·simp only [Act.put, List.setIfInBounds_toArray, List.set_cons_zero, List.set_cons_succ, i64_w, i32_w]
   rfl
  refine pure_ (i := 8) (N := some 28) (v := undef) (a' := ?_) #[Yy,Yy,Yy,Yy,Yy,Yy,Yy,Yy,Yy,Nn,Nn,Nn,Nn,Nn,Nn,Nn,Nn,Nn,Nn,Nn] rfl rfl (any_of HT_.out (by kernel_rfl)) (fun _ _ _ h => h) (Or.inr ⟨by rfl, rfl⟩) ?_ ?_
  rotate_left
  ·simp only [Act.put, List.setIfInBounds_toArray, List.set_cons_zero, List.set_cons_succ, i64_w, i32_w]
   rfl
  refine pure_ (i := 9) (N := some 29) (v := ?_) (a' := ?_) #[Yy,Yy,Yy,Yy,Yy,Yy,Yy,Yy,Yy,Yy,Nn,Nn,Nn,Nn,Nn,Nn,Nn,Nn,Nn,Nn] rfl rfl (any_of HT_.out (by kernel_rfl)) (fun _ _ _ h => h) (Or.inl ⟨by rfl, ?_⟩) ?_ ?_
  rotate_left
  ·intro w'
   go_simp
   with_reducible rfl
  rotate_left
  ·simp only [Act.put, List.setIfInBounds_toArray, List.set_cons_zero, List.set_cons_succ, i64_w, i32_w]
   rfl
  refine pure_ (i := 10) (N := some 30) (v := ?_) (a' := ?_) #[Yy,Yy,Yy,Yy,Yy,Yy,Yy,Yy,Yy,Yy,Yy,Nn,Nn,Nn,Nn,Nn,Nn,Nn,Nn,Nn] rfl rfl (any_of HT_.out (by kernel_rfl)) (fun _ _ _ h => h) (Or.inl ⟨by rfl, ?_⟩) ?_ ?_
  rotate_left
  ·intro w'
   go_simp
   with_reducible rfl
  rotate_left
  ·simp only [Act.put, List.setIfInBounds_toArray, List.set_cons_zero, List.set_cons_succ, i64_w, i32_w]
   rfl
  refine pure_ (i := 11) (N := some 31) (v := undef) (a' := ?_) #[Yy,Yy,Yy,Yy,Yy,Yy,Yy,Yy,Yy,Yy,Yy,Yy,Nn,Nn,Nn,Nn,Nn,Nn,Nn,Nn] rfl rfl (any_of HT_.out (by kernel_rfl)) (fun _ _ _ h => h) (Or.inr ⟨by rfl, rfl⟩) ?_ ?_
  rotate_left
  ·simp only [Act.put, List.setIfInBounds_toArray, List.set_cons_zero, List.set_cons_succ, i64_w, i32_w]
   rfl
  refine pure_ (i := 12) (N := some 32) (v := undef) (a' := ?_) #[Yy,Yy,Yy,Yy,Yy,Yy,Yy,Yy,Yy,Yy,Yy,Yy,Yy,Nn,Nn,Nn,Nn,Nn,Nn,Nn] rfl rfl (any_of HT_.out (by kernel_rfl)) (fun _ _ _ h => h) (Or.inr ⟨by rfl, rfl⟩) ?_ ?_
  rotate_left
  ·simp only [Act.put, List.setIfInBounds_toArray, List.set_cons_zero, List.set_cons_succ, i64_w, i32_w]
   rfl
  refine pure_ (i := 13) (N := some 33) (v := undef) (a' := ?_) #[Yy,Yy,Yy,Yy,Yy,Yy,Yy,Yy,Yy,Yy,Yy,Yy,Yy,Yy,Nn,Nn,Nn,Nn,Nn,Nn] rfl rfl (any_of HT_.out (by kernel_rfl)) (fun _ _ _ h => h) (Or.inr ⟨by rfl, rfl⟩) ?_ ?_
  rotate_left
  ·simp only [Act.put, List.setIfInBounds_toArray, List.set_cons_zero, List.set_cons_succ, i64_w, i32_w]
   rfl
  refine pure_ (i := 14) (N := some 34) (v := ?_) (a' := ?_) #[Yy,Yy,Yy,Yy,Yy,Yy,Yy,Yy,Yy,Yy,Yy,Yy,Yy,Yy,Yy,Nn,Nn,Nn,Nn,Nn] rfl rfl (any_of HT_.out (by kernel_rfl)) (fun _ _ _ h => h) (Or.inl ⟨by rfl, ?_⟩) ?_ ?_
  rotate_left
  ·intro w'
   go_simp
   with_reducible rfl
  rotate_left
  ·simp only [Act.put, List.setIfInBounds_toArray, List.set_cons_zero, List.set_cons_succ, i64_w, i32_w]
   rfl
  refine pure_ (i := 15) (N := some 35) (v := ?_) (a' := ?_) #[Yy,Yy,Yy,Yy,Yy,Yy,Yy,Yy,Yy,Yy,Yy,Yy,Yy,Yy,Yy,Yy,Nn,Nn,Nn,Nn] rfl rfl (any_of HT_.out (by kernel_rfl)) (fun _ _ _ h => h) (Or.inl ⟨by rfl, ?_⟩) ?_ ?_
  rotate_left
  ·intro w'
   go_simp
   with_reducible rfl
  rotate_left
  ·simp only [Act.put, List.setIfInBounds_toArray, List.set_cons_zero, List.set_cons_succ, i64_w, i32_w]
   rfl
  refine pure_ (i := 16) (N := some 36) (v := undef) (a' := ?_) #[Yy,Yy,Yy,Yy,Yy,Yy,Yy,Yy,Yy,Yy,Yy,Yy,Yy,Yy,Yy,Yy,Yy,Nn,Nn,Nn] rfl rfl (any_of HT_.out (by kernel_rfl)) (fun _ _ _ h => h) (Or.inr ⟨by rfl, rfl⟩) ?_ ?_
  rotate_left
  ·simp only [Act.put, List.setIfInBounds_toArray, List.set_cons_zero, List.set_cons_succ, i64_w, i32_w]
   rfl
  refine pure_ (i := 17) (N := some 37) (v := undef) (a' := ?_) #[Yy,Yy,Yy,Yy,Yy,Yy,Yy,Yy,Yy,Yy,Yy,Yy,Yy,Yy,Yy,Yy,Yy,Yy,Nn,Nn] rfl rfl (any_of HT_.out (by kernel_rfl)) (fun _ _ _ h => h) (Or.inr ⟨by rfl, rfl⟩) ?_ ?_
  rotate_left
  ·simp only [Act.put, List.setIfInBounds_toArray, List.set_cons_zero, List.set_cons_succ, i64_w, i32_w]
   rfl
  refine pure_ (i := 18) (N := some 38) (v := ?_) (a' := ?_) #[Yy,Yy,Yy,Yy,Yy,Yy,Yy,Yy,Yy,Yy,Yy,Yy,Yy,Yy,Yy,Yy,Yy,Yy,Yy,Nn] rfl rfl (any_of HT_.out (by kernel_rfl)) (fun _ _ _ h => h) (Or.inl ⟨by rfl, ?_⟩) ?_ ?_
  rotate_left
  ·intro w'
   go_simp
   with_reducible rfl
  rotate_left
  ·simp only [Act.put, List.setIfInBounds_toArray, List.set_cons_zero, List.set_cons_succ, i64_w, i32_w]
   rfl
  refine pure_ (i := 19) (N := some 0) (v := ?_) (a' := ?_) #[Yy,Yy,Yy,Yy,Yy,Yy,Yy,Yy,Yy,Yy,Yy,Yy,Yy,Yy,Yy,Yy,Yy,Yy,Yy,Yy] rfl rfl (any_of HT_.out (by kernel_rfl)) (fun _ _ _ h => h) (Or.inl ⟨by rfl, ?_⟩) ?_ ?_
  rotate_left
  ·intro w'
   go_simp
   with_reducible rfl
  rotate_left
  ·simp only [Act.put, List.setIfInBounds_toArray, List.set_cons_zero, List.set_cons_succ, i64_w, i32_w]
   rfl
  refine done_ (done_of HT_.out (by kernel_rfl)) ?_
  try go_wp2
  go_ret
  exact ⟨by first | rfl | (simp [errW_none, errW_some] <;> rfl) | (simp [*, errW_none, errW_some] <;> rfl), by repeat (first | (with_reducible first | exact HB.out | apply bA | apply bN | apply bD | refine below_set ?_ (by apply Aside0.out; assumption)) | exact HB.out)⟩

end Go.Proofs.YtilobbjnmnnmnaaGreatDoor.ONames
