/- This text proves, for each Go function named below, which plain Lean function its call computes, in whatever memory; a program of this session has written it. -/
import Derived.Test.YtilobbjnmnnmnaaGreatDoorONestx0
import Derived.Test.YtilobbjnmnnmnaaGreatDoorONestx3
import Derived.Test.YtilobbjnmnnmnaaGreatDoorONestx4
import Derived.Test.YtilobbjnmnnmnaaGreatDoorONestx5
import Derived.Test.YtilobbjnmnnmnaaGreatDoorONestx6
import Derived.Test.YtilobbjnmnnmnaaGreatDoorONestx7
namespace Go.Proofs.YtilobbjnmnnmnaaGreatDoor.ONest
open Go.RowKit Go.Proofs.YtilobbjnmnnmnaaGreatDoorW.PrintWords Go.Proofs.YtilobbjnmnnmnaaGreatDoorW.PrintLast Go.Proofs.YtilobbjnmnnmnaaGreatDoorW.PrintMore
attribute [local go_sem] max2_int min2_int max_two min_two max_three min_three max_four min_four   -- for this text's walks alone
set_option linter.unusedVariables false
set_option linter.unusedSimpArgs false

/-! ### nameplatelaw05_RangesNest: function 4 -/
def nameplatelaw05_RangesNest.j0 : Nat → Int → Int → Int → Int → Option (Bool)
  | 0, _, _, _, _ => none
  | k + 1, x0, x1, x2, x3 => if 0 ≤ (IntKind.u64.wrap (wrap64 (32 - x1))) then (if 0 ≤ (IntKind.u64.wrap (wrap64 (32 - x2))) then ((ranges_Size.f false 0 (shl .u64 (shr .u64 (IntKind.u64.wrap (x0)) (IntKind.u64.wrap (wrap64 (32 - x2)))) (IntKind.u64.wrap (wrap64 (32 - x2)))) x2).bind fun t210 => ((nameplatekit_Pick.f x3 t210).bind fun t211 => ((ranges_At.f false 0 (shl .u64 (shr .u64 (IntKind.u64.wrap (x0)) (IntKind.u64.wrap (wrap64 (32 - x2)))) (IntKind.u64.wrap (wrap64 (32 - x2)))) x2 t211).bind fun bt212 => ((ranges_Check.f false 0 (shl .u64 (shr .u64 (IntKind.u64.wrap (x0)) (IntKind.u64.wrap (wrap64 (32 - x1)))) (IntKind.u64.wrap (wrap64 (32 - x1)))) x1).bind fun t217 => (if t217 = 0 then ((ranges_Check.f false 0 (shl .u64 (shr .u64 (IntKind.u64.wrap (x0)) (IntKind.u64.wrap (wrap64 (32 - x2)))) (IntKind.u64.wrap (wrap64 (32 - x2)))) x2).bind fun t218 => (if t218 = 0 then ((ranges_Has.f false 0 (shl .u64 (shr .u64 (IntKind.u64.wrap (x0)) (IntKind.u64.wrap (wrap64 (32 - x1)))) (IntKind.u64.wrap (wrap64 (32 - x1)))) x1 false 0 (IntKind.u64.wrap (x0))).bind fun t219 => (if t219 = true then ((ranges_Has.f false 0 (shl .u64 (shr .u64 (IntKind.u64.wrap (x0)) (IntKind.u64.wrap (wrap64 (32 - x2)))) (IntKind.u64.wrap (wrap64 (32 - x2)))) x2 false 0 (IntKind.u64.wrap (x0))).bind fun t220 => (if t220 = true then (if bt212.2.2.2 = true then ((ranges_Has.f false 0 (shl .u64 (shr .u64 (IntKind.u64.wrap (x0)) (IntKind.u64.wrap (wrap64 (32 - x2)))) (IntKind.u64.wrap (wrap64 (32 - x2)))) x2 bt212.1 bt212.2.1 bt212.2.2.1).bind fun t221 => (if t221 = true then ((ranges_Has.f false 0 (shl .u64 (shr .u64 (IntKind.u64.wrap (x0)) (IntKind.u64.wrap (wrap64 (32 - x1)))) (IntKind.u64.wrap (wrap64 (32 - x1)))) x1 bt212.1 bt212.2.1 bt212.2.2.1).bind fun t222 => (if t222 = true then ((ranges_Meet.f false 0 (shl .u64 (shr .u64 (IntKind.u64.wrap (x0)) (IntKind.u64.wrap (wrap64 (32 - x1)))) (IntKind.u64.wrap (wrap64 (32 - x1)))) x1 false 0 (shl .u64 (shr .u64 (IntKind.u64.wrap (x0)) (IntKind.u64.wrap (wrap64 (32 - x2)))) (IntKind.u64.wrap (wrap64 (32 - x2)))) x2).bind fun t223 => (if t223 = true then ((ranges_Size.f false 0 (shl .u64 (shr .u64 (IntKind.u64.wrap (x0)) (IntKind.u64.wrap (wrap64 (32 - x1)))) (IntKind.u64.wrap (wrap64 (32 - x1)))) x1).bind fun t224 => ((ranges_Size.f false 0 (shl .u64 (shr .u64 (IntKind.u64.wrap (x0)) (IntKind.u64.wrap (wrap64 (32 - x2)))) (IntKind.u64.wrap (wrap64 (32 - x2)))) x2).bind fun t225 => (if t224 ≥ t225 then ((addr_Compare.f k false 0 (shl .u64 (shr .u64 (IntKind.u64.wrap (x0)) (IntKind.u64.wrap (wrap64 (32 - x1)))) (IntKind.u64.wrap (wrap64 (32 - x1)))) false 0 (shl .u64 (shr .u64 (IntKind.u64.wrap (x0)) (IntKind.u64.wrap (wrap64 (32 - x2)))) (IntKind.u64.wrap (wrap64 (32 - x2))))).bind fun t226 => (if t226 ≤ 0 then ((ranges_Has.f false 0 (shl .u64 (shr .u64 (IntKind.u64.wrap (x0)) (IntKind.u64.wrap (wrap64 (32 - x1)))) (IntKind.u64.wrap (wrap64 (32 - x1)))) x1 true 0 (IntKind.u64.wrap (x0))).bind fun t227 => (some (!t227))) else (some false))) else (some false)))) else (some false))) else (some false))) else (some false))) else (some false)) else (some false))) else (some false))) else (some false))) else (some false)))))) else (none)) else (none)
def nameplatelaw05_RangesNest.f (k : Nat) (a0 : Int) (a1 : Int) (a2 : Int) (a3 : Int) : Option (Bool) := (nameplatelaw05_lives.f k).bind fun t204 => (if t204 = true then ((nameplatekit_Pick.f a1 33).bind fun t205 => ((nameplatekit_Pick.f a2 33).bind fun t206 => (if t205 > t206 then (nameplatelaw05_RangesNest.j0 k a0 t206 t205 a3) else (nameplatelaw05_RangesNest.j0 k a0 t205 t206 a3)))) else (some false))
theorem nameplatelaw05_RangesNest.mono_l : ∀ k, (∀ y0 y1 y2 y3, LeO (nameplatelaw05_RangesNest.j0 k y0 y1 y2 y3) (nameplatelaw05_RangesNest.j0 (k + 1) y0 y1 y2 y3))
  | 0 => fun _ _ _ _ r h => by simp [nameplatelaw05_RangesNest.j0] at h
  | k + 1 => by
    have ih0 := nameplatelaw05_RangesNest.mono_l k
    · intro y0 y1 y2 y3
      unfold nameplatelaw05_RangesNest.j0
      repeat' first
      | (with_reducible exact ih0 _ _ _ _)
      | (with_reducible exact addr_Compare.mono _ _ _ _ _ _ _)
      | (with_reducible exact nameplatelaw05_lives.mono _)
      | (with_reducible exact LeO.refl _)
      | (with_reducible exact LeO.none _)
      | (with_reducible refine LeO.ite ?_ ?_)
      | (with_reducible refine LeO.bind ?_ (fun _ => ?_))
      | exact ih0 _ _ _ _
      | exact addr_Compare.mono _ _ _ _ _ _ _
      | exact nameplatelaw05_lives.mono _
      | exact LeO.none _
      | refine LeO.ite ?_ ?_
      | refine LeO.bind ?_ (fun _ => ?_)
theorem nameplatelaw05_RangesNest.mono : ∀ a0 a1 a2 a3 k, LeO (nameplatelaw05_RangesNest.f k a0 a1 a2 a3) (nameplatelaw05_RangesNest.f (k + 1) a0 a1 a2 a3) := by
  intro a0 a1 a2 a3 k
  have ih0 := nameplatelaw05_RangesNest.mono_l k
  unfold nameplatelaw05_RangesNest.f
  repeat' first
      | (with_reducible exact ih0 _ _ _ _)
      | (with_reducible exact addr_Compare.mono _ _ _ _ _ _ _)
      | (with_reducible exact nameplatelaw05_lives.mono _)
      | (with_reducible exact LeO.refl _)
      | (with_reducible exact LeO.none _)
      | (with_reducible refine LeO.ite ?_ ?_)
      | (with_reducible refine LeO.bind ?_ (fun _ => ?_))
      | exact ih0 _ _ _ _
      | exact addr_Compare.mono _ _ _ _ _ _ _
      | exact nameplatelaw05_lives.mono _
      | exact LeO.none _
      | refine LeO.ite ?_ ?_
      | refine LeO.bind ?_ (fun _ => ?_)
def nameplatelaw05_RangesNest.T9 : Bool × List (List Nat × List Nat) := (true, [([], []), ([], []), ([], []), ([2], [2]), ([1, 3, 3], [1, 3]), ([0, 4, 4], [0, 4]), ([5], [5]), ([6], [6]), ([6], [6]), ([], []), ([9, 7, 5, 0, 1, 2, 3, 4, 5, 6, 7, 9], [7, 9]), ([8, 10, 0, 1, 2, 3, 4, 5, 6, 7, 8, 9, 10], [8])])
def nameplatelaw05_RangesNest.B9 : List Nat := [0, 0, 0, 4, 14, 31, 63, 127, 127, 0, 767, 2047]
theorem nameplatelaw05_RangesNest.tab9 : rtab .any (opsOf Tryz.f4 9) = nameplatelaw05_RangesNest.T9 := by kernel_rfl
theorem nameplatelaw05_RangesNest.bits9 : waitsOk nameplatelaw05_RangesNest.T9.2 nameplatelaw05_RangesNest.B9 = true := by kernel_rfl
def nameplatelaw05_RangesNest.T10 : Bool × List (List Nat × List Nat) := (true, [([], []), ([0], [0]), ([1], [1]), ([2, 1], [2]), ([3], [3]), ([4, 3, 3], [3, 4]), ([5, 3], [3, 5]), ([3, 6], [3, 6]), ([7, 5], [7]), ([8], [8]), ([8], [8]), ([9, 10, 8, 8], [8, 9, 10]), ([8, 11], [8, 11]), ([12, 11], [12]), ([13], [13]), ([13], [13]), ([14, 15, 13, 13], [13, 14, 15]), ([13, 16], [13, 16]), ([17, 16], [17]), ([18], [18]), ([18, 19], [18, 19]), ([20, 18], [20]), ([21], [21]), ([21], [21]), ([22, 23, 21, 21], [21, 22, 23]), ([21, 24], [21, 24]), ([25, 24], [25]), ([26], [26]), ([26], [26]), ([27, 28, 26, 26], [26, 27, 28]), ([26, 29], [26, 29]), ([30, 29], [30]), ([31], [31]), ([31], [31]), ([32, 33, 31, 31], [31, 32, 33]), ([31, 34], [31, 34]), ([35, 34], [35]), ([36], [36]), ([37, 36, 36], [36, 37]), ([36], [36]), ([39, 38, 36], [36, 39]), ([38, 40, 36], [36, 38, 40]), ([36, 41], [36, 41]), ([42, 40], [42]), ([43], [43]), ([44, 43], [43, 44]), ([43], [43]), ([46, 43], [43, 46]), ([45, 47, 43, 43], [43, 45, 47]), ([48, 43], [43, 48]), ([43, 49], [43, 49]), ([50, 48], [50]), ([51], [51]), ([51], [51]), ([53, 51], [51, 53]), ([54, 51], [51, 54]), ([52, 55, 51, 51], [51, 52, 55]), ([56, 51], [51, 56]), ([51, 57], [51, 57]), ([58, 56, 0, 1, 2, 3, 4, 5, 6, 7, 8, 9, 10, 11, 12, 13, 14, 15, 16, 17, 18, 19, 20, 21, 22, 23, 24, 25, 26, 27, 28, 29, 30, 31, 32, 33, 34, 35, 36, 37, 38, 39, 40, 41, 42, 43, 44, 45, 46, 47, 48, 49, 50, 51, 52, 53, 54, 55, 56, 57, 58], [58])])
def nameplatelaw05_RangesNest.B10 : List Nat := [0, 1, 3, 7, 15, 31, 63, 127, 255, 511, 511, 2047, 4095, 8191, 16383, 16383, 65535, 131071, 262143, 524287, 1048575, 2097151, 4194303, 4194303, 16777215, 33554431, 67108863, 134217727, 134217727, 536870911, 1073741823, 2147483647, 4294967295, 4294967295, 17179869183, 34359738367, 68719476735, 137438953471, 274877906943, 137438953471, 1099511627775, 2199023255551, 4398046511103, 8796093022207, 17592186044415, 35184372088831, 17592186044415, 87960930222079, 281474976710655, 562949953421311, 1125899906842623, 2251799813685247, 4503599627370495, 4503599627370495, 13510798882111487, 31525197391593471, 72057594037927935, 144115188075855871, 288230376151711743, 576460752303423487]
theorem nameplatelaw05_RangesNest.tab10 : rtab .any (opsOf Tryz.f4 10) = nameplatelaw05_RangesNest.T10 := by kernel_rfl
theorem nameplatelaw05_RangesNest.bits10 : waitsOk nameplatelaw05_RangesNest.T10.2 nameplatelaw05_RangesNest.B10 = true := by kernel_rfl
set_option maxHeartbeats 8000000 in
set_option maxRecDepth 100000 in
theorem nameplatelaw05_RangesNest.calls (k : Nat) (a0 : Int) (a1 : Int) (a2 : Int) (a3 : Int) (r : Bool) (w : World) (hr_ : Aside0 (r = true)) (h : nameplatelaw05_RangesNest.f k a0 a1 a2 a3 = some r) :
    Calls Tryz.prog 4 #[.int .u32 a0, .int .i64 a1, .int .i64 a2, .int .i64 a3] w fun e w' => e = .returned (.bool r) ∧ Below w.heap.size w w' := by
  have hu24 := Tryz.underlying24
  have hu26 := Tryz.underlying26
  have HB := Aside0.mk (Below.refl w.heap.size w)
  have H : ((nameplatelaw05_lives.f k).bind fun t204 => (if t204 = true then ((nameplatekit_Pick.f a1 33).bind fun t205 => ((nameplatekit_Pick.f a2 33).bind fun t206 => (if t205 > t206 then (nameplatelaw05_RangesNest.j0 k a0 t206 t205 a3) else (nameplatelaw05_RangesNest.j0 k a0 t205 t206 a3)))) else (some false))) = some r := h
  clear h
  replace H := Option.bind_eq_some_iff.mp H
  obtain ⟨t204, A50, H⟩ := H
  replace H : (if t204 = true then ((nameplatekit_Pick.f a1 33).bind fun t205 => ((nameplatekit_Pick.f a2 33).bind fun t206 => (if t205 > t206 then (nameplatelaw05_RangesNest.j0 k a0 t206 t205 a3) else (nameplatelaw05_RangesNest.j0 k a0 t205 t206 a3)))) else (some false)) = some r := H
  have A5 := Aside0.mk A50
  clear A50
  by_cases c6 : t204 = true
  · subst c6
    have H1 : ((nameplatekit_Pick.f a1 33).bind fun t205 => ((nameplatekit_Pick.f a2 33).bind fun t206 => (if t205 > t206 then (nameplatelaw05_RangesNest.j0 k a0 t206 t205 a3) else (nameplatelaw05_RangesNest.j0 k a0 t205 t206 a3)))) = some r := by rw [if_pos rfl] at H; exact H
    clear H
    have H := H1
    clear H1
    replace H := Option.bind_eq_some_iff.mp H
    obtain ⟨t205, A70, H⟩ := H
    replace H : ((nameplatekit_Pick.f a2 33).bind fun t206 => (if t205 > t206 then (nameplatelaw05_RangesNest.j0 k a0 t206 t205 a3) else (nameplatelaw05_RangesNest.j0 k a0 t205 t206 a3))) = some r := H
    have A7 := Aside0.mk A70
    clear A70
    replace H := Option.bind_eq_some_iff.mp H
    obtain ⟨t206, A80, H⟩ := H
    replace H : (if t205 > t206 then (nameplatelaw05_RangesNest.j0 k a0 t206 t205 a3) else (nameplatelaw05_RangesNest.j0 k a0 t205 t206 a3)) = some r := H
    have A8 := Aside0.mk A80
    clear A80
    have HC9 := Aside0.mk H
    clear H
    go_enter Tryz.func4, Tryz.ntmps4
    go_upto_if 22 with (first | ((with_reducible refine gate_callee (f := 10) rfl ?_); refine goesL_ (some 14) rfl rfl Tryz.func10 (by kernel_rfl) rfl #[] rfl (by (try simp only [List.map_toArray, List.map_cons, List.map_nil]); first | done | rfl | (simp only [List.length_drop, List.length_take]; rfl)) ?_; (with_reducible refine (nameplatelaw05_lives.calls k  true _ A5.out).mono ?_); rintro e w10 ⟨rfl, hb⟩; refine ⟨_, rfl, ?_⟩; have n0_ := Aside0.mk (below_step (by repeat (first | (with_reducible first | exact HB.out | apply below_alloc | apply pw_below_drewN | apply below_drew1) | exact HB.out)) hb); clear HB; have HB := n0_; clear n0_; (try clear hb); (try clear hb2); (try clear hk); (try clear hi)) | ((with_reducible refine gate_callee (f := 18) rfl ?_); refine goesL_ (some 17) rfl rfl Tryz.func18 (by kernel_rfl) rfl #[.int .i64 a1, .int .i64 33] rfl (by (try simp only [List.map_toArray, List.map_cons, List.map_nil]); first | done | rfl | (simp only [List.length_drop, List.length_take]; rfl)) ?_; (with_reducible refine (nameplatekit_Pick.calls a1 33 t205 _ A7.out).mono ?_); rintro e w' ⟨rfl, ⟨nd, rfl⟩⟩; refine ⟨_, rfl, ?_⟩) | ((with_reducible refine gate_callee (f := 18) rfl ?_); refine goesL_ (some 19) rfl rfl Tryz.func18 (by kernel_rfl) rfl #[.int .i64 a2, .int .i64 33] rfl (by (try simp only [List.map_toArray, List.map_cons, List.map_nil]); first | done | rfl | (simp only [List.length_drop, List.length_take]; rfl)) ?_; (with_reducible refine (nameplatekit_Pick.calls a2 33 t206 _ A8.out).mono ?_); rintro e w' ⟨rfl, ⟨nd, rfl⟩⟩; refine ⟨_, rfl, ?_⟩))
    (try simp only [Act.put, List.setIfInBounds_toArray, List.set_cons_zero, List.set_cons_succ])
    go_cut [1, 2] (fun v1 v2 wc => ∃ (kq : Nat) (x1_8 : Int) (x2_8 : Int), v1 = .int .i64 x1_8 ∧ v2 = .int .i64 x2_8 ∧ Aside0 (nameplatelaw05_RangesNest.j0 kq a0 x1_8 x2_8 a3 = some r) ∧ Aside0 (kq ≤ k) ∧ Aside0 (Below w.heap.size w wc))
    case first =>
      have H := HC9.out
      clear HC9
      by_cases c11 : t205 > t206
      · rw [if_pos c11] at H
        have c11b0 : decide (t206 < t205) = true := decide_eq_true c11
        clear c11
        (first | rw [c11b0] | (simp only [i64_w, i32_w]; rw [c11b0]) | skip)
        have H' := Aside0.mk H
        clear H
        go_wp2
        go_meet
        case rel => exact ⟨_, (t206), (t205), (by first | rfl | (simp; done) | (simp [*]; done)), (by first | rfl | (simp; done) | (simp [*]; done)), H', ⟨by first | omega | exact Nat.le_refl _⟩, ⟨by repeat (first | (with_reducible first | exact HB.out | apply below_alloc | apply pw_below_drewN | apply below_drew1) | exact HB.out)⟩⟩
      · rw [if_neg c11] at H
        have c11b0 : decide (t206 < t205) = false := decide_eq_false c11
        clear c11
        (first | rw [c11b0] | (simp only [i64_w, i32_w]; rw [c11b0]) | skip)
        have H' := Aside0.mk H
        clear H
        go_wp2
        go_meet
        case rel => exact ⟨_, (t205), (t206), (by first | rfl | (simp; done) | (simp [*]; done)), (by first | rfl | (simp; done) | (simp [*]; done)), H', ⟨by first | omega | exact Nat.le_refl _⟩, ⟨by repeat (first | (with_reducible first | exact HB.out | apply below_alloc | apply pw_below_drewN | apply below_drew1) | exact HB.out)⟩⟩
    case rest =>
      clear HC9
      try clear c1
      try clear p2
      try clear c4
      try clear c6
      try clear c10
      try clear c11
      try clear c11b0
      obtain ⟨kq, x1_8, x2_8, rfl, rfl, HA, HJ8, HB⟩ := hcut
      cases kq with
      | zero => exact absurd HA.out (by simp [nameplatelaw05_RangesNest.j0])
      | succ kj8 =>
        have H := HA.out
        clear HA
        simp only [nameplatelaw05_RangesNest.j0] at H
        obtain ⟨ji12, hji12⟩ : ∃ j_ : Int, (IntKind.u64.wrap (wrap64 (32 - x1_8))) = j_ := ⟨_, rfl⟩
        replace H : (if 0 ≤ (ji12) then (if 0 ≤ (IntKind.u64.wrap (wrap64 (32 - x2_8))) then ((ranges_Size.f false 0 (shl .u64 (shr .u64 (IntKind.u64.wrap (a0)) (IntKind.u64.wrap (wrap64 (32 - x2_8)))) (IntKind.u64.wrap (wrap64 (32 - x2_8)))) x2_8).bind fun t210 => ((nameplatekit_Pick.f a3 t210).bind fun t211 => ((ranges_At.f false 0 (shl .u64 (shr .u64 (IntKind.u64.wrap (a0)) (IntKind.u64.wrap (wrap64 (32 - x2_8)))) (IntKind.u64.wrap (wrap64 (32 - x2_8)))) x2_8 t211).bind fun bt212 => ((ranges_Check.f false 0 (shl .u64 (shr .u64 (IntKind.u64.wrap (a0)) (ji12)) (ji12)) x1_8).bind fun t217 => (if t217 = 0 then ((ranges_Check.f false 0 (shl .u64 (shr .u64 (IntKind.u64.wrap (a0)) (IntKind.u64.wrap (wrap64 (32 - x2_8)))) (IntKind.u64.wrap (wrap64 (32 - x2_8)))) x2_8).bind fun t218 => (if t218 = 0 then ((ranges_Has.f false 0 (shl .u64 (shr .u64 (IntKind.u64.wrap (a0)) (ji12)) (ji12)) x1_8 false 0 (IntKind.u64.wrap (a0))).bind fun t219 => (if t219 = true then ((ranges_Has.f false 0 (shl .u64 (shr .u64 (IntKind.u64.wrap (a0)) (IntKind.u64.wrap (wrap64 (32 - x2_8)))) (IntKind.u64.wrap (wrap64 (32 - x2_8)))) x2_8 false 0 (IntKind.u64.wrap (a0))).bind fun t220 => (if t220 = true then (if bt212.2.2.2 = true then ((ranges_Has.f false 0 (shl .u64 (shr .u64 (IntKind.u64.wrap (a0)) (IntKind.u64.wrap (wrap64 (32 - x2_8)))) (IntKind.u64.wrap (wrap64 (32 - x2_8)))) x2_8 bt212.1 bt212.2.1 bt212.2.2.1).bind fun t221 => (if t221 = true then ((ranges_Has.f false 0 (shl .u64 (shr .u64 (IntKind.u64.wrap (a0)) (ji12)) (ji12)) x1_8 bt212.1 bt212.2.1 bt212.2.2.1).bind fun t222 => (if t222 = true then ((ranges_Meet.f false 0 (shl .u64 (shr .u64 (IntKind.u64.wrap (a0)) (ji12)) (ji12)) x1_8 false 0 (shl .u64 (shr .u64 (IntKind.u64.wrap (a0)) (IntKind.u64.wrap (wrap64 (32 - x2_8)))) (IntKind.u64.wrap (wrap64 (32 - x2_8)))) x2_8).bind fun t223 => (if t223 = true then ((ranges_Size.f false 0 (shl .u64 (shr .u64 (IntKind.u64.wrap (a0)) (ji12)) (ji12)) x1_8).bind fun t224 => ((ranges_Size.f false 0 (shl .u64 (shr .u64 (IntKind.u64.wrap (a0)) (IntKind.u64.wrap (wrap64 (32 - x2_8)))) (IntKind.u64.wrap (wrap64 (32 - x2_8)))) x2_8).bind fun t225 => (if t224 ≥ t225 then ((addr_Compare.f kj8 false 0 (shl .u64 (shr .u64 (IntKind.u64.wrap (a0)) (ji12)) (ji12)) false 0 (shl .u64 (shr .u64 (IntKind.u64.wrap (a0)) (IntKind.u64.wrap (wrap64 (32 - x2_8)))) (IntKind.u64.wrap (wrap64 (32 - x2_8))))).bind fun t226 => (if t226 ≤ 0 then ((ranges_Has.f false 0 (shl .u64 (shr .u64 (IntKind.u64.wrap (a0)) (ji12)) (ji12)) x1_8 true 0 (IntKind.u64.wrap (a0))).bind fun t227 => (some (!t227))) else (some false))) else (some false)))) else (some false))) else (some false))) else (some false))) else (some false)) else (some false))) else (some false))) else (some false))) else (some false)))))) else (none)) else (none)) = some r := by first | (rw [hji12] at H; exact H) | (simp only [hji12] at H ⊢; exact H)
        by_cases c13 : 0 ≤ (ji12)
        · rw [if_pos c13] at H
          have c13b0 := eq_true c13
          have c13b1 : decide (0 ≤ (ji12)) = true := decide_eq_true c13
          clear c13
          obtain ⟨ji14, hji14⟩ : ∃ j_ : Int, (shr .u64 (IntKind.u64.wrap (a0)) (ji12)) = j_ := ⟨_, rfl⟩
          replace H : (if 0 ≤ (IntKind.u64.wrap (wrap64 (32 - x2_8))) then ((ranges_Size.f false 0 (shl .u64 (shr .u64 (IntKind.u64.wrap (a0)) (IntKind.u64.wrap (wrap64 (32 - x2_8)))) (IntKind.u64.wrap (wrap64 (32 - x2_8)))) x2_8).bind fun t210 => ((nameplatekit_Pick.f a3 t210).bind fun t211 => ((ranges_At.f false 0 (shl .u64 (shr .u64 (IntKind.u64.wrap (a0)) (IntKind.u64.wrap (wrap64 (32 - x2_8)))) (IntKind.u64.wrap (wrap64 (32 - x2_8)))) x2_8 t211).bind fun bt212 => ((ranges_Check.f false 0 (shl .u64 (ji14) (ji12)) x1_8).bind fun t217 => (if t217 = 0 then ((ranges_Check.f false 0 (shl .u64 (shr .u64 (IntKind.u64.wrap (a0)) (IntKind.u64.wrap (wrap64 (32 - x2_8)))) (IntKind.u64.wrap (wrap64 (32 - x2_8)))) x2_8).bind fun t218 => (if t218 = 0 then ((ranges_Has.f false 0 (shl .u64 (ji14) (ji12)) x1_8 false 0 (IntKind.u64.wrap (a0))).bind fun t219 => (if t219 = true then ((ranges_Has.f false 0 (shl .u64 (shr .u64 (IntKind.u64.wrap (a0)) (IntKind.u64.wrap (wrap64 (32 - x2_8)))) (IntKind.u64.wrap (wrap64 (32 - x2_8)))) x2_8 false 0 (IntKind.u64.wrap (a0))).bind fun t220 => (if t220 = true then (if bt212.2.2.2 = true then ((ranges_Has.f false 0 (shl .u64 (shr .u64 (IntKind.u64.wrap (a0)) (IntKind.u64.wrap (wrap64 (32 - x2_8)))) (IntKind.u64.wrap (wrap64 (32 - x2_8)))) x2_8 bt212.1 bt212.2.1 bt212.2.2.1).bind fun t221 => (if t221 = true then ((ranges_Has.f false 0 (shl .u64 (ji14) (ji12)) x1_8 bt212.1 bt212.2.1 bt212.2.2.1).bind fun t222 => (if t222 = true then ((ranges_Meet.f false 0 (shl .u64 (ji14) (ji12)) x1_8 false 0 (shl .u64 (shr .u64 (IntKind.u64.wrap (a0)) (IntKind.u64.wrap (wrap64 (32 - x2_8)))) (IntKind.u64.wrap (wrap64 (32 - x2_8)))) x2_8).bind fun t223 => (if t223 = true then ((ranges_Size.f false 0 (shl .u64 (ji14) (ji12)) x1_8).bind fun t224 => ((ranges_Size.f false 0 (shl .u64 (shr .u64 (IntKind.u64.wrap (a0)) (IntKind.u64.wrap (wrap64 (32 - x2_8)))) (IntKind.u64.wrap (wrap64 (32 - x2_8)))) x2_8).bind fun t225 => (if t224 ≥ t225 then ((addr_Compare.f kj8 false 0 (shl .u64 (ji14) (ji12)) false 0 (shl .u64 (shr .u64 (IntKind.u64.wrap (a0)) (IntKind.u64.wrap (wrap64 (32 - x2_8)))) (IntKind.u64.wrap (wrap64 (32 - x2_8))))).bind fun t226 => (if t226 ≤ 0 then ((ranges_Has.f false 0 (shl .u64 (ji14) (ji12)) x1_8 true 0 (IntKind.u64.wrap (a0))).bind fun t227 => (some (!t227))) else (some false))) else (some false)))) else (some false))) else (some false))) else (some false))) else (some false)) else (some false))) else (some false))) else (some false))) else (some false)))))) else (none)) = some r := by first | (rw [hji14] at H; exact H) | (simp only [hji14] at H ⊢; exact H)
          have hji14_ : ((IntKind.u64.wrap (a0)) / 2 ^ min (ji12).toNat 64) = ji14 := hji14
          have hji14z : (ji12) ≤ 64 → ((IntKind.u64.wrap (a0)) / 2 ^ (ji12).toNat) = ji14 := shr_small hji14
          have c15b0 := eq_true (of_decide_eq_true (by first | (with_reducible assumption) | assumption) : 0 ≤ (ji12))
          obtain ⟨ji16, hji16⟩ : ∃ j_ : Int, (shl .u64 (ji14) (ji12)) = j_ := ⟨_, rfl⟩
          replace H : (if 0 ≤ (IntKind.u64.wrap (wrap64 (32 - x2_8))) then ((ranges_Size.f false 0 (shl .u64 (shr .u64 (IntKind.u64.wrap (a0)) (IntKind.u64.wrap (wrap64 (32 - x2_8)))) (IntKind.u64.wrap (wrap64 (32 - x2_8)))) x2_8).bind fun t210 => ((nameplatekit_Pick.f a3 t210).bind fun t211 => ((ranges_At.f false 0 (shl .u64 (shr .u64 (IntKind.u64.wrap (a0)) (IntKind.u64.wrap (wrap64 (32 - x2_8)))) (IntKind.u64.wrap (wrap64 (32 - x2_8)))) x2_8 t211).bind fun bt212 => ((ranges_Check.f false 0 (ji16) x1_8).bind fun t217 => (if t217 = 0 then ((ranges_Check.f false 0 (shl .u64 (shr .u64 (IntKind.u64.wrap (a0)) (IntKind.u64.wrap (wrap64 (32 - x2_8)))) (IntKind.u64.wrap (wrap64 (32 - x2_8)))) x2_8).bind fun t218 => (if t218 = 0 then ((ranges_Has.f false 0 (ji16) x1_8 false 0 (IntKind.u64.wrap (a0))).bind fun t219 => (if t219 = true then ((ranges_Has.f false 0 (shl .u64 (shr .u64 (IntKind.u64.wrap (a0)) (IntKind.u64.wrap (wrap64 (32 - x2_8)))) (IntKind.u64.wrap (wrap64 (32 - x2_8)))) x2_8 false 0 (IntKind.u64.wrap (a0))).bind fun t220 => (if t220 = true then (if bt212.2.2.2 = true then ((ranges_Has.f false 0 (shl .u64 (shr .u64 (IntKind.u64.wrap (a0)) (IntKind.u64.wrap (wrap64 (32 - x2_8)))) (IntKind.u64.wrap (wrap64 (32 - x2_8)))) x2_8 bt212.1 bt212.2.1 bt212.2.2.1).bind fun t221 => (if t221 = true then ((ranges_Has.f false 0 (ji16) x1_8 bt212.1 bt212.2.1 bt212.2.2.1).bind fun t222 => (if t222 = true then ((ranges_Meet.f false 0 (ji16) x1_8 false 0 (shl .u64 (shr .u64 (IntKind.u64.wrap (a0)) (IntKind.u64.wrap (wrap64 (32 - x2_8)))) (IntKind.u64.wrap (wrap64 (32 - x2_8)))) x2_8).bind fun t223 => (if t223 = true then ((ranges_Size.f false 0 (ji16) x1_8).bind fun t224 => ((ranges_Size.f false 0 (shl .u64 (shr .u64 (IntKind.u64.wrap (a0)) (IntKind.u64.wrap (wrap64 (32 - x2_8)))) (IntKind.u64.wrap (wrap64 (32 - x2_8)))) x2_8).bind fun t225 => (if t224 ≥ t225 then ((addr_Compare.f kj8 false 0 (ji16) false 0 (shl .u64 (shr .u64 (IntKind.u64.wrap (a0)) (IntKind.u64.wrap (wrap64 (32 - x2_8)))) (IntKind.u64.wrap (wrap64 (32 - x2_8))))).bind fun t226 => (if t226 ≤ 0 then ((ranges_Has.f false 0 (ji16) x1_8 true 0 (IntKind.u64.wrap (a0))).bind fun t227 => (some (!t227))) else (some false))) else (some false)))) else (some false))) else (some false))) else (some false))) else (some false)) else (some false))) else (some false))) else (some false))) else (some false)))))) else (none)) = some r := by first | (rw [hji16] at H; exact H) | (simp only [hji16] at H ⊢; exact H)
          have hji16_ : (IntKind.u64.wrap ((ji14) * 2 ^ min (ji12).toNat 64)) = ji16 := hji16
          have hji16z : (ji12) ≤ 64 → (IntKind.u64.wrap ((ji14) * 2 ^ (ji12).toNat)) = ji16 := shl_small hji16
          obtain ⟨ji17, hji17⟩ : ∃ j_ : Int, (IntKind.u64.wrap (wrap64 (32 - x2_8))) = j_ := ⟨_, rfl⟩
          replace H : (if 0 ≤ (ji17) then ((ranges_Size.f false 0 (shl .u64 (shr .u64 (IntKind.u64.wrap (a0)) (ji17)) (ji17)) x2_8).bind fun t210 => ((nameplatekit_Pick.f a3 t210).bind fun t211 => ((ranges_At.f false 0 (shl .u64 (shr .u64 (IntKind.u64.wrap (a0)) (ji17)) (ji17)) x2_8 t211).bind fun bt212 => ((ranges_Check.f false 0 (ji16) x1_8).bind fun t217 => (if t217 = 0 then ((ranges_Check.f false 0 (shl .u64 (shr .u64 (IntKind.u64.wrap (a0)) (ji17)) (ji17)) x2_8).bind fun t218 => (if t218 = 0 then ((ranges_Has.f false 0 (ji16) x1_8 false 0 (IntKind.u64.wrap (a0))).bind fun t219 => (if t219 = true then ((ranges_Has.f false 0 (shl .u64 (shr .u64 (IntKind.u64.wrap (a0)) (ji17)) (ji17)) x2_8 false 0 (IntKind.u64.wrap (a0))).bind fun t220 => (if t220 = true then (if bt212.2.2.2 = true then ((ranges_Has.f false 0 (shl .u64 (shr .u64 (IntKind.u64.wrap (a0)) (ji17)) (ji17)) x2_8 bt212.1 bt212.2.1 bt212.2.2.1).bind fun t221 => (if t221 = true then ((ranges_Has.f false 0 (ji16) x1_8 bt212.1 bt212.2.1 bt212.2.2.1).bind fun t222 => (if t222 = true then ((ranges_Meet.f false 0 (ji16) x1_8 false 0 (shl .u64 (shr .u64 (IntKind.u64.wrap (a0)) (ji17)) (ji17)) x2_8).bind fun t223 => (if t223 = true then ((ranges_Size.f false 0 (ji16) x1_8).bind fun t224 => ((ranges_Size.f false 0 (shl .u64 (shr .u64 (IntKind.u64.wrap (a0)) (ji17)) (ji17)) x2_8).bind fun t225 => (if t224 ≥ t225 then ((addr_Compare.f kj8 false 0 (ji16) false 0 (shl .u64 (shr .u64 (IntKind.u64.wrap (a0)) (ji17)) (ji17))).bind fun t226 => (if t226 ≤ 0 then ((ranges_Has.f false 0 (ji16) x1_8 true 0 (IntKind.u64.wrap (a0))).bind fun t227 => (some (!t227))) else (some false))) else (some false)))) else (some false))) else (some false))) else (some false))) else (some false)) else (some false))) else (some false))) else (some false))) else (some false)))))) else (none)) = some r := by first | (rw [hji17] at H; exact H) | (simp only [hji17] at H ⊢; exact H)
          by_cases c18 : 0 ≤ (ji17)
          · rw [if_pos c18] at H
            have c18b0 := eq_true c18
            have c18b1 : decide (0 ≤ (ji17)) = true := decide_eq_true c18
            clear c18
            obtain ⟨ji19, hji19⟩ : ∃ j_ : Int, (shr .u64 (IntKind.u64.wrap (a0)) (ji17)) = j_ := ⟨_, rfl⟩
            replace H : ((ranges_Size.f false 0 (shl .u64 (ji19) (ji17)) x2_8).bind fun t210 => ((nameplatekit_Pick.f a3 t210).bind fun t211 => ((ranges_At.f false 0 (shl .u64 (ji19) (ji17)) x2_8 t211).bind fun bt212 => ((ranges_Check.f false 0 (ji16) x1_8).bind fun t217 => (if t217 = 0 then ((ranges_Check.f false 0 (shl .u64 (ji19) (ji17)) x2_8).bind fun t218 => (if t218 = 0 then ((ranges_Has.f false 0 (ji16) x1_8 false 0 (IntKind.u64.wrap (a0))).bind fun t219 => (if t219 = true then ((ranges_Has.f false 0 (shl .u64 (ji19) (ji17)) x2_8 false 0 (IntKind.u64.wrap (a0))).bind fun t220 => (if t220 = true then (if bt212.2.2.2 = true then ((ranges_Has.f false 0 (shl .u64 (ji19) (ji17)) x2_8 bt212.1 bt212.2.1 bt212.2.2.1).bind fun t221 => (if t221 = true then ((ranges_Has.f false 0 (ji16) x1_8 bt212.1 bt212.2.1 bt212.2.2.1).bind fun t222 => (if t222 = true then ((ranges_Meet.f false 0 (ji16) x1_8 false 0 (shl .u64 (ji19) (ji17)) x2_8).bind fun t223 => (if t223 = true then ((ranges_Size.f false 0 (ji16) x1_8).bind fun t224 => ((ranges_Size.f false 0 (shl .u64 (ji19) (ji17)) x2_8).bind fun t225 => (if t224 ≥ t225 then ((addr_Compare.f kj8 false 0 (ji16) false 0 (shl .u64 (ji19) (ji17))).bind fun t226 => (if t226 ≤ 0 then ((ranges_Has.f false 0 (ji16) x1_8 true 0 (IntKind.u64.wrap (a0))).bind fun t227 => (some (!t227))) else (some false))) else (some false)))) else (some false))) else (some false))) else (some false))) else (some false)) else (some false))) else (some false))) else (some false))) else (some false)))))) = some r := by first | (rw [hji19] at H; exact H) | (simp only [hji19] at H ⊢; exact H)
            have hji19_ : ((IntKind.u64.wrap (a0)) / 2 ^ min (ji17).toNat 64) = ji19 := hji19
            have hji19z : (ji17) ≤ 64 → ((IntKind.u64.wrap (a0)) / 2 ^ (ji17).toNat) = ji19 := shr_small hji19
            have c20b0 := eq_true (of_decide_eq_true (by first | (with_reducible assumption) | assumption) : 0 ≤ (ji17))
            obtain ⟨ji21, hji21⟩ : ∃ j_ : Int, (shl .u64 (ji19) (ji17)) = j_ := ⟨_, rfl⟩
            replace H : ((ranges_Size.f false 0 (ji21) x2_8).bind fun t210 => ((nameplatekit_Pick.f a3 t210).bind fun t211 => ((ranges_At.f false 0 (ji21) x2_8 t211).bind fun bt212 => ((ranges_Check.f false 0 (ji16) x1_8).bind fun t217 => (if t217 = 0 then ((ranges_Check.f false 0 (ji21) x2_8).bind fun t218 => (if t218 = 0 then ((ranges_Has.f false 0 (ji16) x1_8 false 0 (IntKind.u64.wrap (a0))).bind fun t219 => (if t219 = true then ((ranges_Has.f false 0 (ji21) x2_8 false 0 (IntKind.u64.wrap (a0))).bind fun t220 => (if t220 = true then (if bt212.2.2.2 = true then ((ranges_Has.f false 0 (ji21) x2_8 bt212.1 bt212.2.1 bt212.2.2.1).bind fun t221 => (if t221 = true then ((ranges_Has.f false 0 (ji16) x1_8 bt212.1 bt212.2.1 bt212.2.2.1).bind fun t222 => (if t222 = true then ((ranges_Meet.f false 0 (ji16) x1_8 false 0 (ji21) x2_8).bind fun t223 => (if t223 = true then ((ranges_Size.f false 0 (ji16) x1_8).bind fun t224 => ((ranges_Size.f false 0 (ji21) x2_8).bind fun t225 => (if t224 ≥ t225 then ((addr_Compare.f kj8 false 0 (ji16) false 0 (ji21)).bind fun t226 => (if t226 ≤ 0 then ((ranges_Has.f false 0 (ji16) x1_8 true 0 (IntKind.u64.wrap (a0))).bind fun t227 => (some (!t227))) else (some false))) else (some false)))) else (some false))) else (some false))) else (some false))) else (some false)) else (some false))) else (some false))) else (some false))) else (some false)))))) = some r := by first | (rw [hji21] at H; exact H) | (simp only [hji21] at H ⊢; exact H)
            have hji21_ : (IntKind.u64.wrap ((ji19) * 2 ^ min (ji17).toNat 64)) = ji21 := hji21
            have hji21z : (ji17) ≤ 64 → (IntKind.u64.wrap ((ji19) * 2 ^ (ji17).toNat)) = ji21 := shl_small hji21
            replace H := Option.bind_eq_some_iff.mp H
            obtain ⟨t210, A220, H⟩ := H
            replace H : ((nameplatekit_Pick.f a3 t210).bind fun t211 => ((ranges_At.f false 0 (ji21) x2_8 t211).bind fun bt212 => ((ranges_Check.f false 0 (ji16) x1_8).bind fun t217 => (if t217 = 0 then ((ranges_Check.f false 0 (ji21) x2_8).bind fun t218 => (if t218 = 0 then ((ranges_Has.f false 0 (ji16) x1_8 false 0 (IntKind.u64.wrap (a0))).bind fun t219 => (if t219 = true then ((ranges_Has.f false 0 (ji21) x2_8 false 0 (IntKind.u64.wrap (a0))).bind fun t220 => (if t220 = true then (if bt212.2.2.2 = true then ((ranges_Has.f false 0 (ji21) x2_8 bt212.1 bt212.2.1 bt212.2.2.1).bind fun t221 => (if t221 = true then ((ranges_Has.f false 0 (ji16) x1_8 bt212.1 bt212.2.1 bt212.2.2.1).bind fun t222 => (if t222 = true then ((ranges_Meet.f false 0 (ji16) x1_8 false 0 (ji21) x2_8).bind fun t223 => (if t223 = true then ((ranges_Size.f false 0 (ji16) x1_8).bind fun t224 => ((ranges_Size.f false 0 (ji21) x2_8).bind fun t225 => (if t224 ≥ t225 then ((addr_Compare.f kj8 false 0 (ji16) false 0 (ji21)).bind fun t226 => (if t226 ≤ 0 then ((ranges_Has.f false 0 (ji16) x1_8 true 0 (IntKind.u64.wrap (a0))).bind fun t227 => (some (!t227))) else (some false))) else (some false)))) else (some false))) else (some false))) else (some false))) else (some false)) else (some false))) else (some false))) else (some false))) else (some false))))) = some r := H
            have A22 := Aside0.mk A220
            clear A220
            replace H := Option.bind_eq_some_iff.mp H
            obtain ⟨t211, A230, H⟩ := H
            replace H : ((ranges_At.f false 0 (ji21) x2_8 t211).bind fun bt212 => ((ranges_Check.f false 0 (ji16) x1_8).bind fun t217 => (if t217 = 0 then ((ranges_Check.f false 0 (ji21) x2_8).bind fun t218 => (if t218 = 0 then ((ranges_Has.f false 0 (ji16) x1_8 false 0 (IntKind.u64.wrap (a0))).bind fun t219 => (if t219 = true then ((ranges_Has.f false 0 (ji21) x2_8 false 0 (IntKind.u64.wrap (a0))).bind fun t220 => (if t220 = true then (if bt212.2.2.2 = true then ((ranges_Has.f false 0 (ji21) x2_8 bt212.1 bt212.2.1 bt212.2.2.1).bind fun t221 => (if t221 = true then ((ranges_Has.f false 0 (ji16) x1_8 bt212.1 bt212.2.1 bt212.2.2.1).bind fun t222 => (if t222 = true then ((ranges_Meet.f false 0 (ji16) x1_8 false 0 (ji21) x2_8).bind fun t223 => (if t223 = true then ((ranges_Size.f false 0 (ji16) x1_8).bind fun t224 => ((ranges_Size.f false 0 (ji21) x2_8).bind fun t225 => (if t224 ≥ t225 then ((addr_Compare.f kj8 false 0 (ji16) false 0 (ji21)).bind fun t226 => (if t226 ≤ 0 then ((ranges_Has.f false 0 (ji16) x1_8 true 0 (IntKind.u64.wrap (a0))).bind fun t227 => (some (!t227))) else (some false))) else (some false)))) else (some false))) else (some false))) else (some false))) else (some false)) else (some false))) else (some false))) else (some false))) else (some false)))) = some r := H
            have A23 := Aside0.mk A230
            clear A230
            replace H := Option.bind_eq_some_iff.mp H
            obtain ⟨⟨t212, t213, t214, t215⟩, A240, H⟩ := H
            replace H : ((ranges_Check.f false 0 (ji16) x1_8).bind fun t217 => (if t217 = 0 then ((ranges_Check.f false 0 (ji21) x2_8).bind fun t218 => (if t218 = 0 then ((ranges_Has.f false 0 (ji16) x1_8 false 0 (IntKind.u64.wrap (a0))).bind fun t219 => (if t219 = true then ((ranges_Has.f false 0 (ji21) x2_8 false 0 (IntKind.u64.wrap (a0))).bind fun t220 => (if t220 = true then (if t215 = true then ((ranges_Has.f false 0 (ji21) x2_8 t212 t213 t214).bind fun t221 => (if t221 = true then ((ranges_Has.f false 0 (ji16) x1_8 t212 t213 t214).bind fun t222 => (if t222 = true then ((ranges_Meet.f false 0 (ji16) x1_8 false 0 (ji21) x2_8).bind fun t223 => (if t223 = true then ((ranges_Size.f false 0 (ji16) x1_8).bind fun t224 => ((ranges_Size.f false 0 (ji21) x2_8).bind fun t225 => (if t224 ≥ t225 then ((addr_Compare.f kj8 false 0 (ji16) false 0 (ji21)).bind fun t226 => (if t226 ≤ 0 then ((ranges_Has.f false 0 (ji16) x1_8 true 0 (IntKind.u64.wrap (a0))).bind fun t227 => (some (!t227))) else (some false))) else (some false)))) else (some false))) else (some false))) else (some false))) else (some false)) else (some false))) else (some false))) else (some false))) else (some false))) = some r := H
            have A24 := Aside0.mk A240
            clear A240
            replace H := Option.bind_eq_some_iff.mp H
            obtain ⟨t217, A250, H⟩ := H
            replace H : (if t217 = 0 then ((ranges_Check.f false 0 (ji21) x2_8).bind fun t218 => (if t218 = 0 then ((ranges_Has.f false 0 (ji16) x1_8 false 0 (IntKind.u64.wrap (a0))).bind fun t219 => (if t219 = true then ((ranges_Has.f false 0 (ji21) x2_8 false 0 (IntKind.u64.wrap (a0))).bind fun t220 => (if t220 = true then (if t215 = true then ((ranges_Has.f false 0 (ji21) x2_8 t212 t213 t214).bind fun t221 => (if t221 = true then ((ranges_Has.f false 0 (ji16) x1_8 t212 t213 t214).bind fun t222 => (if t222 = true then ((ranges_Meet.f false 0 (ji16) x1_8 false 0 (ji21) x2_8).bind fun t223 => (if t223 = true then ((ranges_Size.f false 0 (ji16) x1_8).bind fun t224 => ((ranges_Size.f false 0 (ji21) x2_8).bind fun t225 => (if t224 ≥ t225 then ((addr_Compare.f kj8 false 0 (ji16) false 0 (ji21)).bind fun t226 => (if t226 ≤ 0 then ((ranges_Has.f false 0 (ji16) x1_8 true 0 (IntKind.u64.wrap (a0))).bind fun t227 => (some (!t227))) else (some false))) else (some false)))) else (some false))) else (some false))) else (some false))) else (some false)) else (some false))) else (some false))) else (some false))) else (some false)) = some r := H
            have A25 := Aside0.mk A250
            clear A250
            by_cases c26 : t217 = 0
            · rw [if_pos c26] at H
              have c26b0 : (t217 == 0) = true := beq_iff_eq.mpr c26
              have c26b1 : (t217 != 0) = false := bne_eq_false_iff_eq.mpr c26
              clear c26
              replace H := Option.bind_eq_some_iff.mp H
              obtain ⟨t218, A270, H⟩ := H
              replace H : (if t218 = 0 then ((ranges_Has.f false 0 (ji16) x1_8 false 0 (IntKind.u64.wrap (a0))).bind fun t219 => (if t219 = true then ((ranges_Has.f false 0 (ji21) x2_8 false 0 (IntKind.u64.wrap (a0))).bind fun t220 => (if t220 = true then (if t215 = true then ((ranges_Has.f false 0 (ji21) x2_8 t212 t213 t214).bind fun t221 => (if t221 = true then ((ranges_Has.f false 0 (ji16) x1_8 t212 t213 t214).bind fun t222 => (if t222 = true then ((ranges_Meet.f false 0 (ji16) x1_8 false 0 (ji21) x2_8).bind fun t223 => (if t223 = true then ((ranges_Size.f false 0 (ji16) x1_8).bind fun t224 => ((ranges_Size.f false 0 (ji21) x2_8).bind fun t225 => (if t224 ≥ t225 then ((addr_Compare.f kj8 false 0 (ji16) false 0 (ji21)).bind fun t226 => (if t226 ≤ 0 then ((ranges_Has.f false 0 (ji16) x1_8 true 0 (IntKind.u64.wrap (a0))).bind fun t227 => (some (!t227))) else (some false))) else (some false)))) else (some false))) else (some false))) else (some false))) else (some false)) else (some false))) else (some false))) else (some false)) = some r := H
              have A27 := Aside0.mk A270
              clear A270
              by_cases c28 : t218 = 0
              · rw [if_pos c28] at H
                have c28b0 : (t218 == 0) = true := beq_iff_eq.mpr c28
                have c28b1 : (t218 != 0) = false := bne_eq_false_iff_eq.mpr c28
                clear c28
                replace H := Option.bind_eq_some_iff.mp H
                obtain ⟨t219, A290, H⟩ := H
                replace H : (if t219 = true then ((ranges_Has.f false 0 (ji21) x2_8 false 0 (IntKind.u64.wrap (a0))).bind fun t220 => (if t220 = true then (if t215 = true then ((ranges_Has.f false 0 (ji21) x2_8 t212 t213 t214).bind fun t221 => (if t221 = true then ((ranges_Has.f false 0 (ji16) x1_8 t212 t213 t214).bind fun t222 => (if t222 = true then ((ranges_Meet.f false 0 (ji16) x1_8 false 0 (ji21) x2_8).bind fun t223 => (if t223 = true then ((ranges_Size.f false 0 (ji16) x1_8).bind fun t224 => ((ranges_Size.f false 0 (ji21) x2_8).bind fun t225 => (if t224 ≥ t225 then ((addr_Compare.f kj8 false 0 (ji16) false 0 (ji21)).bind fun t226 => (if t226 ≤ 0 then ((ranges_Has.f false 0 (ji16) x1_8 true 0 (IntKind.u64.wrap (a0))).bind fun t227 => (some (!t227))) else (some false))) else (some false)))) else (some false))) else (some false))) else (some false))) else (some false)) else (some false))) else (some false)) = some r := H
                have A29 := Aside0.mk A290
                clear A290
                by_cases c30 : t219 = true
                · subst c30
                  have H1 : ((ranges_Has.f false 0 (ji21) x2_8 false 0 (IntKind.u64.wrap (a0))).bind fun t220 => (if t220 = true then (if t215 = true then ((ranges_Has.f false 0 (ji21) x2_8 t212 t213 t214).bind fun t221 => (if t221 = true then ((ranges_Has.f false 0 (ji16) x1_8 t212 t213 t214).bind fun t222 => (if t222 = true then ((ranges_Meet.f false 0 (ji16) x1_8 false 0 (ji21) x2_8).bind fun t223 => (if t223 = true then ((ranges_Size.f false 0 (ji16) x1_8).bind fun t224 => ((ranges_Size.f false 0 (ji21) x2_8).bind fun t225 => (if t224 ≥ t225 then ((addr_Compare.f kj8 false 0 (ji16) false 0 (ji21)).bind fun t226 => (if t226 ≤ 0 then ((ranges_Has.f false 0 (ji16) x1_8 true 0 (IntKind.u64.wrap (a0))).bind fun t227 => (some (!t227))) else (some false))) else (some false)))) else (some false))) else (some false))) else (some false))) else (some false)) else (some false))) = some r := by rw [if_pos rfl] at H; exact H
                  clear H
                  have H := H1
                  clear H1
                  replace H := Option.bind_eq_some_iff.mp H
                  obtain ⟨t220, A310, H⟩ := H
                  replace H : (if t220 = true then (if t215 = true then ((ranges_Has.f false 0 (ji21) x2_8 t212 t213 t214).bind fun t221 => (if t221 = true then ((ranges_Has.f false 0 (ji16) x1_8 t212 t213 t214).bind fun t222 => (if t222 = true then ((ranges_Meet.f false 0 (ji16) x1_8 false 0 (ji21) x2_8).bind fun t223 => (if t223 = true then ((ranges_Size.f false 0 (ji16) x1_8).bind fun t224 => ((ranges_Size.f false 0 (ji21) x2_8).bind fun t225 => (if t224 ≥ t225 then ((addr_Compare.f kj8 false 0 (ji16) false 0 (ji21)).bind fun t226 => (if t226 ≤ 0 then ((ranges_Has.f false 0 (ji16) x1_8 true 0 (IntKind.u64.wrap (a0))).bind fun t227 => (some (!t227))) else (some false))) else (some false)))) else (some false))) else (some false))) else (some false))) else (some false)) else (some false)) = some r := H
                  have A31 := Aside0.mk A310
                  clear A310
                  by_cases c32 : t220 = true
                  · subst c32
                    have H1 : (if t215 = true then ((ranges_Has.f false 0 (ji21) x2_8 t212 t213 t214).bind fun t221 => (if t221 = true then ((ranges_Has.f false 0 (ji16) x1_8 t212 t213 t214).bind fun t222 => (if t222 = true then ((ranges_Meet.f false 0 (ji16) x1_8 false 0 (ji21) x2_8).bind fun t223 => (if t223 = true then ((ranges_Size.f false 0 (ji16) x1_8).bind fun t224 => ((ranges_Size.f false 0 (ji21) x2_8).bind fun t225 => (if t224 ≥ t225 then ((addr_Compare.f kj8 false 0 (ji16) false 0 (ji21)).bind fun t226 => (if t226 ≤ 0 then ((ranges_Has.f false 0 (ji16) x1_8 true 0 (IntKind.u64.wrap (a0))).bind fun t227 => (some (!t227))) else (some false))) else (some false)))) else (some false))) else (some false))) else (some false))) else (some false)) = some r := by rw [if_pos rfl] at H; exact H
                    clear H
                    have H := H1
                    clear H1
                    by_cases c33 : t215 = true
                    · subst c33
                      have H1 : ((ranges_Has.f false 0 (ji21) x2_8 t212 t213 t214).bind fun t221 => (if t221 = true then ((ranges_Has.f false 0 (ji16) x1_8 t212 t213 t214).bind fun t222 => (if t222 = true then ((ranges_Meet.f false 0 (ji16) x1_8 false 0 (ji21) x2_8).bind fun t223 => (if t223 = true then ((ranges_Size.f false 0 (ji16) x1_8).bind fun t224 => ((ranges_Size.f false 0 (ji21) x2_8).bind fun t225 => (if t224 ≥ t225 then ((addr_Compare.f kj8 false 0 (ji16) false 0 (ji21)).bind fun t226 => (if t226 ≤ 0 then ((ranges_Has.f false 0 (ji16) x1_8 true 0 (IntKind.u64.wrap (a0))).bind fun t227 => (some (!t227))) else (some false))) else (some false)))) else (some false))) else (some false))) else (some false))) = some r := by rw [if_pos rfl] at H; exact H
                      clear H
                      have H := H1
                      clear H1
                      replace H := Option.bind_eq_some_iff.mp H
                      obtain ⟨t221, A340, H⟩ := H
                      replace H : (if t221 = true then ((ranges_Has.f false 0 (ji16) x1_8 t212 t213 t214).bind fun t222 => (if t222 = true then ((ranges_Meet.f false 0 (ji16) x1_8 false 0 (ji21) x2_8).bind fun t223 => (if t223 = true then ((ranges_Size.f false 0 (ji16) x1_8).bind fun t224 => ((ranges_Size.f false 0 (ji21) x2_8).bind fun t225 => (if t224 ≥ t225 then ((addr_Compare.f kj8 false 0 (ji16) false 0 (ji21)).bind fun t226 => (if t226 ≤ 0 then ((ranges_Has.f false 0 (ji16) x1_8 true 0 (IntKind.u64.wrap (a0))).bind fun t227 => (some (!t227))) else (some false))) else (some false)))) else (some false))) else (some false))) else (some false)) = some r := H
                      have A34 := Aside0.mk A340
                      clear A340
                      by_cases c35 : t221 = true
                      · subst c35
                        have H1 : ((ranges_Has.f false 0 (ji16) x1_8 t212 t213 t214).bind fun t222 => (if t222 = true then ((ranges_Meet.f false 0 (ji16) x1_8 false 0 (ji21) x2_8).bind fun t223 => (if t223 = true then ((ranges_Size.f false 0 (ji16) x1_8).bind fun t224 => ((ranges_Size.f false 0 (ji21) x2_8).bind fun t225 => (if t224 ≥ t225 then ((addr_Compare.f kj8 false 0 (ji16) false 0 (ji21)).bind fun t226 => (if t226 ≤ 0 then ((ranges_Has.f false 0 (ji16) x1_8 true 0 (IntKind.u64.wrap (a0))).bind fun t227 => (some (!t227))) else (some false))) else (some false)))) else (some false))) else (some false))) = some r := by rw [if_pos rfl] at H; exact H
                        clear H
                        have H := H1
                        clear H1
                        replace H := Option.bind_eq_some_iff.mp H
                        obtain ⟨t222, A360, H⟩ := H
                        replace H : (if t222 = true then ((ranges_Meet.f false 0 (ji16) x1_8 false 0 (ji21) x2_8).bind fun t223 => (if t223 = true then ((ranges_Size.f false 0 (ji16) x1_8).bind fun t224 => ((ranges_Size.f false 0 (ji21) x2_8).bind fun t225 => (if t224 ≥ t225 then ((addr_Compare.f kj8 false 0 (ji16) false 0 (ji21)).bind fun t226 => (if t226 ≤ 0 then ((ranges_Has.f false 0 (ji16) x1_8 true 0 (IntKind.u64.wrap (a0))).bind fun t227 => (some (!t227))) else (some false))) else (some false)))) else (some false))) else (some false)) = some r := H
                        have A36 := Aside0.mk A360
                        clear A360
                        by_cases c37 : t222 = true
                        · subst c37
                          have H1 : ((ranges_Meet.f false 0 (ji16) x1_8 false 0 (ji21) x2_8).bind fun t223 => (if t223 = true then ((ranges_Size.f false 0 (ji16) x1_8).bind fun t224 => ((ranges_Size.f false 0 (ji21) x2_8).bind fun t225 => (if t224 ≥ t225 then ((addr_Compare.f kj8 false 0 (ji16) false 0 (ji21)).bind fun t226 => (if t226 ≤ 0 then ((ranges_Has.f false 0 (ji16) x1_8 true 0 (IntKind.u64.wrap (a0))).bind fun t227 => (some (!t227))) else (some false))) else (some false)))) else (some false))) = some r := by rw [if_pos rfl] at H; exact H
                          clear H
                          have H := H1
                          clear H1
                          replace H := Option.bind_eq_some_iff.mp H
                          obtain ⟨t223, A380, H⟩ := H
                          replace H : (if t223 = true then ((ranges_Size.f false 0 (ji16) x1_8).bind fun t224 => ((ranges_Size.f false 0 (ji21) x2_8).bind fun t225 => (if t224 ≥ t225 then ((addr_Compare.f kj8 false 0 (ji16) false 0 (ji21)).bind fun t226 => (if t226 ≤ 0 then ((ranges_Has.f false 0 (ji16) x1_8 true 0 (IntKind.u64.wrap (a0))).bind fun t227 => (some (!t227))) else (some false))) else (some false)))) else (some false)) = some r := H
                          have A38 := Aside0.mk A380
                          clear A380
                          by_cases c39 : t223 = true
                          · subst c39
                            have H1 : ((ranges_Size.f false 0 (ji16) x1_8).bind fun t224 => ((ranges_Size.f false 0 (ji21) x2_8).bind fun t225 => (if t224 ≥ t225 then ((addr_Compare.f kj8 false 0 (ji16) false 0 (ji21)).bind fun t226 => (if t226 ≤ 0 then ((ranges_Has.f false 0 (ji16) x1_8 true 0 (IntKind.u64.wrap (a0))).bind fun t227 => (some (!t227))) else (some false))) else (some false)))) = some r := by rw [if_pos rfl] at H; exact H
                            clear H
                            have H := H1
                            clear H1
                            replace H := Option.bind_eq_some_iff.mp H
                            obtain ⟨t224, A400, H⟩ := H
                            replace H : ((ranges_Size.f false 0 (ji21) x2_8).bind fun t225 => (if t224 ≥ t225 then ((addr_Compare.f kj8 false 0 (ji16) false 0 (ji21)).bind fun t226 => (if t226 ≤ 0 then ((ranges_Has.f false 0 (ji16) x1_8 true 0 (IntKind.u64.wrap (a0))).bind fun t227 => (some (!t227))) else (some false))) else (some false))) = some r := H
                            have A40 := Aside0.mk A400
                            clear A400
                            replace H := Option.bind_eq_some_iff.mp H
                            obtain ⟨t225, A410, H⟩ := H
                            replace H : (if t224 ≥ t225 then ((addr_Compare.f kj8 false 0 (ji16) false 0 (ji21)).bind fun t226 => (if t226 ≤ 0 then ((ranges_Has.f false 0 (ji16) x1_8 true 0 (IntKind.u64.wrap (a0))).bind fun t227 => (some (!t227))) else (some false))) else (some false)) = some r := H
                            have A41 := Aside0.mk A410
                            clear A410
                            by_cases c42 : t224 ≥ t225
                            · rw [if_pos c42] at H
                              have c42b0 : decide (t225 ≤ t224) = true := decide_eq_true c42
                              clear c42
                              replace H := Option.bind_eq_some_iff.mp H
                              obtain ⟨t226, A430, H⟩ := H
                              replace H : (if t226 ≤ 0 then ((ranges_Has.f false 0 (ji16) x1_8 true 0 (IntKind.u64.wrap (a0))).bind fun t227 => (some (!t227))) else (some false)) = some r := H
                              have A43 := Aside0.mk A430
                              clear A430
                              by_cases c44 : t226 ≤ 0
                              · rw [if_pos c44] at H
                                have c44b0 : decide (t226 ≤ 0) = true := decide_eq_true c44
                                clear c44
                                replace H := Option.bind_eq_some_iff.mp H
                                obtain ⟨t227, A450, H⟩ := H
                                replace H : (some (!t227)) = some r := H
                                have A45 := Aside0.mk A450
                                clear A450
                                obtain rfl := Option.some.inj H
                                try go_wp2_with (first | ((with_reducible refine gate_dst (N := 9) rfl ?_); refine box_event ?hg (N := 9) ?hd (cs := #[.bool false, .int .u64 0, .int .u64 0]) (t := 24) ?hr ?_; (case hd => rfl); (case hg => rfl); (case hr => first | (go_simp; done) | (go_simp; rfl)); intro gb207 hg w46 hbox hb; have n0_ := Aside0.mk (below_step (by repeat (first | (with_reducible first | exact HB.out | apply below_alloc | apply pw_below_drewN | apply below_drew1) | exact HB.out)) hb); have n1_ := Aside0.mk (hbox); have n2_ := Aside0.mk ((by rw [hg]; exact (below_size (by repeat (first | (with_reducible first | exact HB.out | apply below_alloc | apply pw_below_drewN | apply below_drew1) | exact HB.out))) : w.heap.size ≤ gb207)); have n3_ := Aside0.mk ((by rw [hg]; exact (below_size (by repeat (first | (with_reducible first | exact HB.out | apply below_alloc | apply pw_below_drewN | apply below_drew1) | exact HB.out))) : w.heap.size ≤ gb207)); clear HB; have HB := n0_; have BK207 := n1_; have GW207 := n2_; have GE207 := n3_; clear n0_ n1_ n2_ n3_; clear hb hbox hg; have hcz47_0 : w46.cell? ⟨gb207, 0, none⟩ = some (.bool false) := (blk_cell BK207.out 0).trans rfl; have hcz47_1 : w46.cell? ⟨gb207, 1, none⟩ = some (.int .u64 0) := (blk_cell BK207.out 1).trans rfl; have hcz47_2 : w46.cell? ⟨gb207, 2, none⟩ = some (.int .u64 0) := (blk_cell BK207.out 2).trans rfl; have hfz47_0 := blk_frozen BK207.out 0; have hfz47_1 := blk_frozen BK207.out 1; have hfz47_2 := blk_frozen BK207.out 2) | ((with_reducible refine gate_dst (N := 10) rfl ?_); refine box_event ?hg (N := 10) ?hd (cs := #[.bool false, .int .u64 0, .int .u64 0, .int .i64 0]) (t := 26) ?hr ?_; (case hd => rfl); (case hg => rfl); (case hr => first | (go_simp; done) | (go_simp; rfl)); intro gb208 hg w48 hbox hb; have n0_ := Aside0.mk (blk_below (g := gb207) (o := .cells #[.bool false, .int .u64 0, .int .u64 (IntKind.u64.wrap (a0))] 24 (0, 0)) (by (with_reducible repeat (first | refine blk_drewN ?_ _ | refine blk_drew ?_ | refine blk_alloc ?_ _)); refine blk_put (cs := #[.bool false, .int .u64 0, .int .u64 0]) ?_ 2 _ rfl; (with_reducible repeat (first | refine blk_drewN ?_ _ | refine blk_drew ?_ | refine blk_alloc ?_ _)); refine blk_put (cs := #[.bool false, .int .u64 0, .int .u64 0]) ?_ 1 _ rfl; (with_reducible repeat (first | refine blk_drewN ?_ _ | refine blk_drew ?_ | refine blk_alloc ?_ _)); refine blk_put (cs := #[.bool false, .int .u64 0, .int .u64 0]) ?_ 0 _ rfl; (with_reducible repeat (first | refine blk_drewN ?_ _ | refine blk_drew ?_ | refine blk_alloc ?_ _)); exact BK207.out) hb); have n1_ := Aside0.mk (below_step (by repeat (first | (with_reducible first | exact HB.out | apply below_alloc | apply pw_below_drewN | apply below_drew1 | refine below_set ?_ GE207.out) | exact HB.out)) hb); have n2_ := Aside0.mk (hbox); have n3_ := Aside0.mk ((by rw [hg]; exact (below_size (by repeat (first | (with_reducible first | exact HB.out | apply below_alloc | apply pw_below_drewN | apply below_drew1 | refine below_set ?_ GE207.out) | exact HB.out))) : w.heap.size ≤ gb208)); have n4_ := Aside0.mk ((by rw [hg]; exact (below_size (by repeat (first | (with_reducible first | exact HB.out | apply below_alloc | apply pw_below_drewN | apply below_drew1 | refine below_set ?_ GE207.out) | exact HB.out))) : w.heap.size ≤ gb208)); have n5_ := Aside0.mk ((by rw [hg]; exact Nat.ne_of_lt (blk_lt (g := gb207) (o := .cells #[.bool false, .int .u64 0, .int .u64 (IntKind.u64.wrap (a0))] 24 (0, 0)) (by (with_reducible repeat (first | refine blk_drewN ?_ _ | refine blk_drew ?_ | refine blk_alloc ?_ _)); refine blk_put (cs := #[.bool false, .int .u64 0, .int .u64 0]) ?_ 2 _ rfl; (with_reducible repeat (first | refine blk_drewN ?_ _ | refine blk_drew ?_ | refine blk_alloc ?_ _)); refine blk_put (cs := #[.bool false, .int .u64 0, .int .u64 0]) ?_ 1 _ rfl; (with_reducible repeat (first | refine blk_drewN ?_ _ | refine blk_drew ?_ | refine blk_alloc ?_ _)); refine blk_put (cs := #[.bool false, .int .u64 0, .int .u64 0]) ?_ 0 _ rfl; (with_reducible repeat (first | refine blk_drewN ?_ _ | refine blk_drew ?_ | refine blk_alloc ?_ _)); exact BK207.out)) : gb207 ≠ gb208)); have n6_ := Aside0.mk ((by rw [hg]; exact Nat.ne_of_gt (blk_lt (g := gb207) (o := .cells #[.bool false, .int .u64 0, .int .u64 (IntKind.u64.wrap (a0))] 24 (0, 0)) (by (with_reducible repeat (first | refine blk_drewN ?_ _ | refine blk_drew ?_ | refine blk_alloc ?_ _)); refine blk_put (cs := #[.bool false, .int .u64 0, .int .u64 0]) ?_ 2 _ rfl; (with_reducible repeat (first | refine blk_drewN ?_ _ | refine blk_drew ?_ | refine blk_alloc ?_ _)); refine blk_put (cs := #[.bool false, .int .u64 0, .int .u64 0]) ?_ 1 _ rfl; (with_reducible repeat (first | refine blk_drewN ?_ _ | refine blk_drew ?_ | refine blk_alloc ?_ _)); refine blk_put (cs := #[.bool false, .int .u64 0, .int .u64 0]) ?_ 0 _ rfl; (with_reducible repeat (first | refine blk_drewN ?_ _ | refine blk_drew ?_ | refine blk_alloc ?_ _)); exact BK207.out)) : gb208 ≠ gb207)); clear BK207; clear HB; have BK207 := n0_; have HB := n1_; have BK208 := n2_; have GW208 := n3_; have GE208 := n4_; have NB207_208 := n5_; have NB208_207 := n6_; clear n0_ n1_ n2_ n3_ n4_ n5_ n6_; clear hb hbox hg; have hnb49 := NB208_207.out; have hnc49 := NB207_208.out; have hcz50_0 : w48.cell? ⟨gb208, 0, none⟩ = some (.bool false) := (blk_cell BK208.out 0).trans rfl; have hcz50_1 : w48.cell? ⟨gb208, 1, none⟩ = some (.int .u64 0) := (blk_cell BK208.out 1).trans rfl; have hcz50_2 : w48.cell? ⟨gb208, 2, none⟩ = some (.int .u64 0) := (blk_cell BK208.out 2).trans rfl; have hcz50_3 : w48.cell? ⟨gb208, 3, none⟩ = some (.int .i64 0) := (blk_cell BK208.out 3).trans rfl; have hfz50_0 := blk_frozen BK208.out 0; have hfz50_1 := blk_frozen BK208.out 1; have hfz50_2 := blk_frozen BK208.out 2; have hfz50_3 := blk_frozen BK208.out 3; have hcz51_0 : w48.cell? ⟨gb207, 0, none⟩ = some (.bool false) := (blk_cell BK207.out 0).trans rfl; have hcz51_1 : w48.cell? ⟨gb207, 1, none⟩ = some (.int .u64 0) := (blk_cell BK207.out 1).trans rfl; have hcz51_2 : w48.cell? ⟨gb207, 2, none⟩ = some (.int .u64 (IntKind.u64.wrap (a0))) := (blk_cell BK207.out 2).trans rfl; have hfz51_0 := blk_frozen BK207.out 0; have hfz51_1 := blk_frozen BK207.out 1; have hfz51_2 := blk_frozen BK207.out 2) | ((with_reducible refine gate_dst (N := 11) rfl ?_); refine box_event ?hg (N := 11) ?hd (cs := #[.bool false, .int .u64 0, .int .u64 0, .int .i64 0]) (t := 26) ?hr ?_; (case hd => rfl); (case hg => rfl); (case hr => first | (go_simp; done) | (go_simp; rfl)); intro gb209 hg w52 hbox hb; have n0_ := Aside0.mk (blk_below (g := gb207) (o := .cells #[.bool false, .int .u64 0, .int .u64 (IntKind.u64.wrap (a0))] 24 (0, 0)) (by (with_reducible repeat (first | refine blk_drewN ?_ _ | refine blk_drew ?_ | refine blk_alloc ?_ _)); refine blk_far ?_ NB207_208.out _; (with_reducible repeat (first | refine blk_drewN ?_ _ | refine blk_drew ?_ | refine blk_alloc ?_ _)); refine blk_far ?_ NB207_208.out _; (with_reducible repeat (first | refine blk_drewN ?_ _ | refine blk_drew ?_ | refine blk_alloc ?_ _)); refine blk_far ?_ NB207_208.out _; (with_reducible repeat (first | refine blk_drewN ?_ _ | refine blk_drew ?_ | refine blk_alloc ?_ _)); refine blk_far ?_ NB207_208.out _; (with_reducible repeat (first | refine blk_drewN ?_ _ | refine blk_drew ?_ | refine blk_alloc ?_ _)); exact BK207.out) hb); have n1_ := Aside0.mk (blk_below (g := gb208) (o := .cells #[.bool false, .int .u64 0, .int .u64 ji16, .int .i64 x1_8] 26 (0, 0)) (by (with_reducible repeat (first | refine blk_drewN ?_ _ | refine blk_drew ?_ | refine blk_alloc ?_ _)); refine blk_put (cs := #[.bool false, .int .u64 0, .int .u64 ji16, .int .i64 0]) ?_ 3 _ rfl; (with_reducible repeat (first | refine blk_drewN ?_ _ | refine blk_drew ?_ | refine blk_alloc ?_ _)); refine blk_put (cs := #[.bool false, .int .u64 0, .int .u64 0, .int .i64 0]) ?_ 2 _ rfl; (with_reducible repeat (first | refine blk_drewN ?_ _ | refine blk_drew ?_ | refine blk_alloc ?_ _)); refine blk_put (cs := #[.bool false, .int .u64 0, .int .u64 0, .int .i64 0]) ?_ 1 _ rfl; (with_reducible repeat (first | refine blk_drewN ?_ _ | refine blk_drew ?_ | refine blk_alloc ?_ _)); refine blk_put (cs := #[.bool false, .int .u64 0, .int .u64 0, .int .i64 0]) ?_ 0 _ rfl; (with_reducible repeat (first | refine blk_drewN ?_ _ | refine blk_drew ?_ | refine blk_alloc ?_ _)); exact BK208.out) hb); have n2_ := Aside0.mk (below_step (by repeat (first | (with_reducible first | exact HB.out | apply below_alloc | apply pw_below_drewN | apply below_drew1 | refine below_set ?_ GE207.out | refine below_set ?_ GE208.out) | exact HB.out)) hb); have n3_ := Aside0.mk (hbox); have n4_ := Aside0.mk ((by rw [hg]; exact (below_size (by repeat (first | (with_reducible first | exact HB.out | apply below_alloc | apply pw_below_drewN | apply below_drew1 | refine below_set ?_ GE207.out | refine below_set ?_ GE208.out) | exact HB.out))) : w.heap.size ≤ gb209)); have n5_ := Aside0.mk ((by rw [hg]; exact (below_size (by repeat (first | (with_reducible first | exact HB.out | apply below_alloc | apply pw_below_drewN | apply below_drew1 | refine below_set ?_ GE207.out | refine below_set ?_ GE208.out) | exact HB.out))) : w.heap.size ≤ gb209)); have n6_ := Aside0.mk ((by rw [hg]; exact Nat.ne_of_lt (blk_lt (g := gb207) (o := .cells #[.bool false, .int .u64 0, .int .u64 (IntKind.u64.wrap (a0))] 24 (0, 0)) (by (with_reducible repeat (first | refine blk_drewN ?_ _ | refine blk_drew ?_ | refine blk_alloc ?_ _)); refine blk_far ?_ NB207_208.out _; (with_reducible repeat (first | refine blk_drewN ?_ _ | refine blk_drew ?_ | refine blk_alloc ?_ _)); refine blk_far ?_ NB207_208.out _; (with_reducible repeat (first | refine blk_drewN ?_ _ | refine blk_drew ?_ | refine blk_alloc ?_ _)); refine blk_far ?_ NB207_208.out _; (with_reducible repeat (first | refine blk_drewN ?_ _ | refine blk_drew ?_ | refine blk_alloc ?_ _)); refine blk_far ?_ NB207_208.out _; (with_reducible repeat (first | refine blk_drewN ?_ _ | refine blk_drew ?_ | refine blk_alloc ?_ _)); exact BK207.out)) : gb207 ≠ gb209)); have n7_ := Aside0.mk ((by rw [hg]; exact Nat.ne_of_gt (blk_lt (g := gb207) (o := .cells #[.bool false, .int .u64 0, .int .u64 (IntKind.u64.wrap (a0))] 24 (0, 0)) (by (with_reducible repeat (first | refine blk_drewN ?_ _ | refine blk_drew ?_ | refine blk_alloc ?_ _)); refine blk_far ?_ NB207_208.out _; (with_reducible repeat (first | refine blk_drewN ?_ _ | refine blk_drew ?_ | refine blk_alloc ?_ _)); refine blk_far ?_ NB207_208.out _; (with_reducible repeat (first | refine blk_drewN ?_ _ | refine blk_drew ?_ | refine blk_alloc ?_ _)); refine blk_far ?_ NB207_208.out _; (with_reducible repeat (first | refine blk_drewN ?_ _ | refine blk_drew ?_ | refine blk_alloc ?_ _)); refine blk_far ?_ NB207_208.out _; (with_reducible repeat (first | refine blk_drewN ?_ _ | refine blk_drew ?_ | refine blk_alloc ?_ _)); exact BK207.out)) : gb209 ≠ gb207)); have n8_ := Aside0.mk ((by rw [hg]; exact Nat.ne_of_lt (blk_lt (g := gb208) (o := .cells #[.bool false, .int .u64 0, .int .u64 ji16, .int .i64 x1_8] 26 (0, 0)) (by (with_reducible repeat (first | refine blk_drewN ?_ _ | refine blk_drew ?_ | refine blk_alloc ?_ _)); refine blk_put (cs := #[.bool false, .int .u64 0, .int .u64 ji16, .int .i64 0]) ?_ 3 _ rfl; (with_reducible repeat (first | refine blk_drewN ?_ _ | refine blk_drew ?_ | refine blk_alloc ?_ _)); refine blk_put (cs := #[.bool false, .int .u64 0, .int .u64 0, .int .i64 0]) ?_ 2 _ rfl; (with_reducible repeat (first | refine blk_drewN ?_ _ | refine blk_drew ?_ | refine blk_alloc ?_ _)); refine blk_put (cs := #[.bool false, .int .u64 0, .int .u64 0, .int .i64 0]) ?_ 1 _ rfl; (with_reducible repeat (first | refine blk_drewN ?_ _ | refine blk_drew ?_ | refine blk_alloc ?_ _)); refine blk_put (cs := #[.bool false, .int .u64 0, .int .u64 0, .int .i64 0]) ?_ 0 _ rfl; (with_reducible repeat (first | refine blk_drewN ?_ _ | refine blk_drew ?_ | refine blk_alloc ?_ _)); exact BK208.out)) : gb208 ≠ gb209)); have n9_ := Aside0.mk ((by rw [hg]; exact Nat.ne_of_gt (blk_lt (g := gb208) (o := .cells #[.bool false, .int .u64 0, .int .u64 ji16, .int .i64 x1_8] 26 (0, 0)) (by (with_reducible repeat (first | refine blk_drewN ?_ _ | refine blk_drew ?_ | refine blk_alloc ?_ _)); refine blk_put (cs := #[.bool false, .int .u64 0, .int .u64 ji16, .int .i64 0]) ?_ 3 _ rfl; (with_reducible repeat (first | refine blk_drewN ?_ _ | refine blk_drew ?_ | refine blk_alloc ?_ _)); refine blk_put (cs := #[.bool false, .int .u64 0, .int .u64 0, .int .i64 0]) ?_ 2 _ rfl; (with_reducible repeat (first | refine blk_drewN ?_ _ | refine blk_drew ?_ | refine blk_alloc ?_ _)); refine blk_put (cs := #[.bool false, .int .u64 0, .int .u64 0, .int .i64 0]) ?_ 1 _ rfl; (with_reducible repeat (first | refine blk_drewN ?_ _ | refine blk_drew ?_ | refine blk_alloc ?_ _)); refine blk_put (cs := #[.bool false, .int .u64 0, .int .u64 0, .int .i64 0]) ?_ 0 _ rfl; (with_reducible repeat (first | refine blk_drewN ?_ _ | refine blk_drew ?_ | refine blk_alloc ?_ _)); exact BK208.out)) : gb209 ≠ gb208)); clear BK207; clear BK208; clear HB; have BK207 := n0_; have BK208 := n1_; have HB := n2_; have BK209 := n3_; have GW209 := n4_; have GE209 := n5_; have NB207_209 := n6_; have NB209_207 := n7_; have NB208_209 := n8_; have NB209_208 := n9_; clear n0_ n1_ n2_ n3_ n4_ n5_ n6_ n7_ n8_ n9_; clear hb hbox hg; have hnb53 := NB209_207.out; have hnc53 := NB207_209.out; have hnb54 := NB209_208.out; have hnc54 := NB208_209.out; have hcz55_0 : w52.cell? ⟨gb209, 0, none⟩ = some (.bool false) := (blk_cell BK209.out 0).trans rfl; have hcz55_1 : w52.cell? ⟨gb209, 1, none⟩ = some (.int .u64 0) := (blk_cell BK209.out 1).trans rfl; have hcz55_2 : w52.cell? ⟨gb209, 2, none⟩ = some (.int .u64 0) := (blk_cell BK209.out 2).trans rfl; have hcz55_3 : w52.cell? ⟨gb209, 3, none⟩ = some (.int .i64 0) := (blk_cell BK209.out 3).trans rfl; have hfz55_0 := blk_frozen BK209.out 0; have hfz55_1 := blk_frozen BK209.out 1; have hfz55_2 := blk_frozen BK209.out 2; have hfz55_3 := blk_frozen BK209.out 3))
                                have n0_ : Aside0 (((((w52.setCell ⟨gb209, 0, none⟩ (.bool false)).setCell ⟨gb209, 1, none⟩ (.int .u64 0)).setCell ⟨gb209, 2, none⟩ (.int .u64 ji21)).setCell ⟨gb209, 3, none⟩ (.int .i64 x2_8)).heap[gb207]? = some (.cells #[.bool false, .int .u64 0, .int .u64 (IntKind.u64.wrap (a0))] 24 (0, 0))) := ⟨by (with_reducible repeat (first | refine blk_drewN ?_ _ | refine blk_drew ?_ | refine blk_alloc ?_ _)); refine blk_far ?_ NB207_209.out _; (with_reducible repeat (first | refine blk_drewN ?_ _ | refine blk_drew ?_ | refine blk_alloc ?_ _)); refine blk_far ?_ NB207_209.out _; (with_reducible repeat (first | refine blk_drewN ?_ _ | refine blk_drew ?_ | refine blk_alloc ?_ _)); refine blk_far ?_ NB207_209.out _; (with_reducible repeat (first | refine blk_drewN ?_ _ | refine blk_drew ?_ | refine blk_alloc ?_ _)); refine blk_far ?_ NB207_209.out _; (with_reducible repeat (first | refine blk_drewN ?_ _ | refine blk_drew ?_ | refine blk_alloc ?_ _)); exact BK207.out⟩
                                have n1_ : Aside0 (((((w52.setCell ⟨gb209, 0, none⟩ (.bool false)).setCell ⟨gb209, 1, none⟩ (.int .u64 0)).setCell ⟨gb209, 2, none⟩ (.int .u64 ji21)).setCell ⟨gb209, 3, none⟩ (.int .i64 x2_8)).heap[gb208]? = some (.cells #[.bool false, .int .u64 0, .int .u64 ji16, .int .i64 x1_8] 26 (0, 0))) := ⟨by (with_reducible repeat (first | refine blk_drewN ?_ _ | refine blk_drew ?_ | refine blk_alloc ?_ _)); refine blk_far ?_ NB208_209.out _; (with_reducible repeat (first | refine blk_drewN ?_ _ | refine blk_drew ?_ | refine blk_alloc ?_ _)); refine blk_far ?_ NB208_209.out _; (with_reducible repeat (first | refine blk_drewN ?_ _ | refine blk_drew ?_ | refine blk_alloc ?_ _)); refine blk_far ?_ NB208_209.out _; (with_reducible repeat (first | refine blk_drewN ?_ _ | refine blk_drew ?_ | refine blk_alloc ?_ _)); refine blk_far ?_ NB208_209.out _; (with_reducible repeat (first | refine blk_drewN ?_ _ | refine blk_drew ?_ | refine blk_alloc ?_ _)); exact BK208.out⟩
                                have n2_ : Aside0 (((((w52.setCell ⟨gb209, 0, none⟩ (.bool false)).setCell ⟨gb209, 1, none⟩ (.int .u64 0)).setCell ⟨gb209, 2, none⟩ (.int .u64 ji21)).setCell ⟨gb209, 3, none⟩ (.int .i64 x2_8)).heap[gb209]? = some (.cells #[.bool false, .int .u64 0, .int .u64 ji21, .int .i64 x2_8] 26 (0, 0))) := ⟨by (with_reducible repeat (first | refine blk_drewN ?_ _ | refine blk_drew ?_ | refine blk_alloc ?_ _)); refine blk_put (cs := #[.bool false, .int .u64 0, .int .u64 ji21, .int .i64 0]) ?_ 3 _ rfl; (with_reducible repeat (first | refine blk_drewN ?_ _ | refine blk_drew ?_ | refine blk_alloc ?_ _)); refine blk_put (cs := #[.bool false, .int .u64 0, .int .u64 0, .int .i64 0]) ?_ 2 _ rfl; (with_reducible repeat (first | refine blk_drewN ?_ _ | refine blk_drew ?_ | refine blk_alloc ?_ _)); refine blk_put (cs := #[.bool false, .int .u64 0, .int .u64 0, .int .i64 0]) ?_ 1 _ rfl; (with_reducible repeat (first | refine blk_drewN ?_ _ | refine blk_drew ?_ | refine blk_alloc ?_ _)); refine blk_put (cs := #[.bool false, .int .u64 0, .int .u64 0, .int .i64 0]) ?_ 0 _ rfl; (with_reducible repeat (first | refine blk_drewN ?_ _ | refine blk_drew ?_ | refine blk_alloc ?_ _)); exact BK209.out⟩
                                have n3_ : Aside0 (Below w.heap.size w ((((w52.setCell ⟨gb209, 0, none⟩ (.bool false)).setCell ⟨gb209, 1, none⟩ (.int .u64 0)).setCell ⟨gb209, 2, none⟩ (.int .u64 ji21)).setCell ⟨gb209, 3, none⟩ (.int .i64 x2_8))) := ⟨by repeat (first | (with_reducible first | exact HB.out | apply below_alloc | apply pw_below_drewN | apply below_drew1 | refine below_set ?_ GE207.out | refine below_set ?_ GE208.out | refine below_set ?_ GE209.out) | exact HB.out)⟩
                                (try clear BK207)
                                (try clear BK208)
                                (try clear BK209)
                                (try clear HB)
                                (try (repeat rw [setCell_drewN_]))
                                generalize ((((w52.setCell ⟨gb209, 0, none⟩ (.bool false)).setCell ⟨gb209, 1, none⟩ (.int .u64 0)).setCell ⟨gb209, 2, none⟩ (.int .u64 ji21)).setCell ⟨gb209, 3, none⟩ (.int .i64 x2_8)) = w56 at n0_ n1_ n2_ n3_ ⊢
                                have BK207 := n0_
                                have BK208 := n1_
                                have BK209 := n2_
                                have HB := n3_
                                clear n0_ n1_ n2_ n3_
                                have n0_ := Aside0.mk (blk_drew BK207.out)
                                have n1_ := Aside0.mk (blk_drew BK208.out)
                                have n2_ := Aside0.mk (blk_drew BK209.out)
                                have n3_ := Aside0.mk (below_drew1 HB.out)
                                clear BK207
                                clear BK208
                                clear BK209
                                clear HB
                                have BK207 := n0_
                                have BK208 := n1_
                                have BK209 := n2_
                                have HB := n3_
                                clear n0_ n1_ n2_ n3_
                                refine start_ (n := 12) (S := fun w' => w'.cell? ⟨gb209, 0, none⟩ = some (.bool false) ∧ w'.cell? ⟨gb209, 1, none⟩ = some (.int .u64 0) ∧ w'.cell? ⟨gb209, 2, none⟩ = some (.int .u64 ji21) ∧ w'.cell? ⟨gb209, 3, none⟩ = some (.int .i64 x2_8)) (ds := []) #[false, false, false, false, false, false, false, false, false, false, false, false] (by kernel_rfl) rfl rfl ⟨(blk_cell BK209.out 0).trans rfl, (blk_cell BK209.out 1).trans rfl, (blk_cell BK209.out 2).trans rfl, (blk_cell BK209.out 3).trans rfl⟩ (fun hHeld => ?_); refine with_tabW nameplatelaw05_RangesNest.tab9 nameplatelaw05_RangesNest.bits9 (fun HT_ HW_ => ?_)
                                generalize w56.drew = w57 at BK207 BK208 BK209 HB hHeld ⊢
                                refine pure_ (i := 1) (N := some 56) (v := ?_) (a' := ?_) #[false, true, false, false, false, false, false, false, false, false, false, false] rfl rfl (any_of HT_.out (by kernel_rfl)) (fun _ _ _ h => h) (Or.inl ⟨by rfl, ?_⟩) ?_ ?_
                                rotate_left
                                · intro w'
                                  go_simp
                                  with_reducible rfl
                                rotate_left
                                · simp only [Act.put, List.setIfInBounds_toArray, List.set_cons_zero, List.set_cons_succ, i64_w, i32_w]
                                  rfl
                                refine take_ (i := 0) (N := some 55) (v := ?_) (a' := ?_) #[true, true, false, false, false, false, false, false, false, false, false, false] rfl rfl (take_ofW HT_.out HW_.out (by kernel_rfl)) (fun _ _ _ h => h) (Or.inl ⟨by rfl, ?_⟩) hHeld ?_ ?_
                                rotate_left
                                · rintro w' ⟨s0, s1, s2, s3⟩
                                  go_simp
                                  with_reducible rfl
                                rotate_left
                                · simp only [Act.put, List.setIfInBounds_toArray, List.set_cons_zero, List.set_cons_succ, i64_w, i32_w]
                                  rfl
                                refine take_ (i := 2) (N := some 57) (v := ?_) (a' := ?_) #[true, true, true, false, false, false, false, false, false, false, false, false] rfl rfl (take_ofW HT_.out HW_.out (by kernel_rfl)) (fun _ _ _ h => h) (Or.inl ⟨by rfl, ?_⟩) hHeld ?_ ?_
                                rotate_left
                                · rintro w' ⟨s0, s1, s2, s3⟩
                                  go_simp
                                  with_reducible rfl
                                rotate_left
                                · simp only [Act.put, List.setIfInBounds_toArray, List.set_cons_zero, List.set_cons_succ, i64_w, i32_w]
                                  rfl
                                refine join_ (σ := Nat) 2 #[true, true, true, true, true, true, true, true, true, true, false, false] (fun s_ => [(58, .int .i64 t210), (59, .int .i64 t211), (60, .tuple #[.agg #[.bool t212, .int .u64 t213, .int .u64 t214], .bool true]), (12, .pointer (some ⟨s_, 0, none⟩)), (54, .tuple #[.agg #[.bool t212, .int .u64 t213, .int .u64 t214], .bool true]), (61, .agg #[.bool t212, .int .u64 t213, .int .u64 t214]), (62, .bool true)]) (fun s_ w' => (w'.cell? ⟨gb209, 0, none⟩ = some (.bool false) ∧ w'.cell? ⟨gb209, 1, none⟩ = some (.int .u64 0) ∧ w'.cell? ⟨gb209, 2, none⟩ = some (.int .u64 ji21) ∧ w'.cell? ⟨gb209, 3, none⟩ = some (.int .i64 x2_8)) ∧ (w'.heap[gb207]? = some (.cells #[.bool false, .int .u64 0, .int .u64 (IntKind.u64.wrap (a0))] 24 (0, 0))) ∧ (w'.heap[gb208]? = some (.cells #[.bool false, .int .u64 0, .int .u64 ji16, .int .i64 x1_8] 26 (0, 0))) ∧ (w'.heap[gb209]? = some (.cells #[.bool false, .int .u64 0, .int .u64 ji21, .int .i64 x2_8] 26 (0, 0))) ∧ (w'.heap[s_]? = some (.cells #[.bool false, .int .u64 0, .int .u64 0] 24 (0, 0))) ∧ (w.heap.size ≤ s_) ∧ (w.heap.size ≤ s_) ∧ (gb207 ≠ s_) ∧ (s_ ≠ gb207) ∧ (gb208 ≠ s_) ∧ (s_ ≠ gb208) ∧ (gb209 ≠ s_) ∧ (s_ ≠ gb209) ∧ (Below w.heap.size w w')) ?_ ?_
                                rotate_left
                                · intro hCont
                                  refine two_ (i := 3) (j := 9) (Ni := some 58) (Nj := some 12) #[true, true, true, true, false, false, false, false, false, false, false, false] #[true, true, true, false, false, false, false, false, false, true, false, false] rfl rfl rfl rfl (two_of HT_.out (by kernel_rfl)) (by decide) (by decide) (fun K hK => ?_) (fun K hK => ?_)
                                  · skip
                                    refine goes_ Tryz.func12 (by kernel_rfl) rfl #[.agg #[.bool false, .int .u64 0, .int .u64 ji21, .int .i64 x2_8]] (by rfl) rfl rfl (by (try simp only [List.map_toArray, List.map_cons, List.map_nil]); first | done | (simp only [hji21]; rfl) | rfl | (simp only [List.length_drop, List.length_take]; rfl)) ?_
                                    with_reducible refine (ranges_Size.calls false 0 ji21 x2_8 t210 _ A22.out).mono ?_
                                    rintro e w58 ⟨rfl, hb⟩
                                    refine ⟨_, rfl, ?_⟩
                                    have n0_ := Aside0.mk (blk_below (g := gb207) (o := .cells #[.bool false, .int .u64 0, .int .u64 (IntKind.u64.wrap (a0))] 24 (0, 0)) (by (with_reducible repeat (first | refine blk_drewN ?_ _ | refine blk_drew ?_ | refine blk_alloc ?_ _)); exact BK207.out) hb)
                                    have n1_ := Aside0.mk (blk_below (g := gb208) (o := .cells #[.bool false, .int .u64 0, .int .u64 ji16, .int .i64 x1_8] 26 (0, 0)) (by (with_reducible repeat (first | refine blk_drewN ?_ _ | refine blk_drew ?_ | refine blk_alloc ?_ _)); exact BK208.out) hb)
                                    have n2_ := Aside0.mk (blk_below (g := gb209) (o := .cells #[.bool false, .int .u64 0, .int .u64 ji21, .int .i64 x2_8] 26 (0, 0)) (by (with_reducible repeat (first | refine blk_drewN ?_ _ | refine blk_drew ?_ | refine blk_alloc ?_ _)); exact BK209.out) hb)
                                    have n3_ := Aside0.mk (below_step (by repeat (first | (with_reducible first | exact HB.out | apply below_alloc | apply pw_below_drewN | apply below_drew1 | refine below_set ?_ GE207.out | refine below_set ?_ GE208.out | refine below_set ?_ GE209.out) | exact HB.out)) hb)
                                    clear BK207
                                    clear BK208
                                    clear BK209
                                    clear HB
                                    have BK207 := n0_
                                    have BK208 := n1_
                                    have BK209 := n2_
                                    have HB := n3_
                                    clear n0_ n1_ n2_ n3_
                                    (try clear hb)
                                    (try clear hb2)
                                    (try clear hk)
                                    (try clear hi)
                                    refine hK.out _ _ ⟨(blk_cell BK209.out 0).trans rfl, (blk_cell BK209.out 1).trans rfl, (blk_cell BK209.out 2).trans rfl, (blk_cell BK209.out 3).trans rfl⟩ (fun hHeld => ?_)
                                    clear hK K
                                    refine norm_ (a' := ?_) ?_ ?_
                                    rotate_left
                                    · show Act.put _ (some 58) _ = _
                                      simp only [Act.put, List.setIfInBounds_toArray, List.set_cons_zero, List.set_cons_succ, i64_w, i32_w]
                                      rfl
                                    refine two_ (i := 4) (j := 9) (Ni := some 59) (Nj := some 12) #[true, true, true, true, true, false, false, false, false, false, false, false] #[true, true, true, true, false, false, false, false, false, true, false, false] rfl rfl rfl rfl (two_of HT_.out (by kernel_rfl)) (by decide) (by decide) (fun K hK => ?_) (fun K hK => ?_)
                                    · skip
                                      refine goes_ Tryz.func18 (by kernel_rfl) rfl #[.int .i64 a3, .int .i64 t210] (by rfl) rfl rfl (by (try simp only [List.map_toArray, List.map_cons, List.map_nil]); first | done | rfl | (simp only [List.length_drop, List.length_take]; rfl)) ?_
                                      with_reducible refine (nameplatekit_Pick.calls a3 t210 t211 _ A23.out).mono ?_
                                      rintro e w' ⟨rfl, ⟨nd, rfl⟩⟩
                                      refine ⟨_, rfl, ?_⟩
                                      refine hK.out _ _ ⟨(blk_cell BK209.out 0).trans rfl, (blk_cell BK209.out 1).trans rfl, (blk_cell BK209.out 2).trans rfl, (blk_cell BK209.out 3).trans rfl⟩ (fun hHeld => ?_)
                                      clear hK K
                                      refine norm_ (a' := ?_) ?_ ?_
                                      rotate_left
                                      · show Act.put _ (some 59) _ = _
                                        simp only [Act.put, List.setIfInBounds_toArray, List.set_cons_zero, List.set_cons_succ, i64_w, i32_w]
                                        rfl
                                      refine two_ (i := 5) (j := 9) (Ni := some 60) (Nj := some 12) #[true, true, true, true, true, true, false, false, false, false, false, false] #[true, true, true, true, true, false, false, false, false, true, false, false] rfl rfl rfl rfl (two_of HT_.out (by kernel_rfl)) (by decide) (by decide) (fun K hK => ?_) (fun K hK => ?_)
                                      · skip
                                        refine goes_ Tryz.func13 (by kernel_rfl) rfl #[.agg #[.bool false, .int .u64 0, .int .u64 ji21, .int .i64 x2_8], .int .i64 t211] (by rfl) rfl rfl (by (try simp only [List.map_toArray, List.map_cons, List.map_nil]); first | done | (simp only [hji21]; rfl) | rfl | (simp only [List.length_drop, List.length_take]; rfl)) ?_
                                        with_reducible refine (ranges_At.calls false 0 ji21 x2_8 t211 t212 t213 t214 true _ A24.out).mono ?_
                                        rintro e w59 ⟨rfl, hb⟩
                                        refine ⟨_, rfl, ?_⟩
                                        have n0_ := Aside0.mk (blk_below (g := gb207) (o := .cells #[.bool false, .int .u64 0, .int .u64 (IntKind.u64.wrap (a0))] 24 (0, 0)) (by (with_reducible repeat (first | refine blk_drewN ?_ _ | refine blk_drew ?_ | refine blk_alloc ?_ _)); exact BK207.out) hb)
                                        have n1_ := Aside0.mk (blk_below (g := gb208) (o := .cells #[.bool false, .int .u64 0, .int .u64 ji16, .int .i64 x1_8] 26 (0, 0)) (by (with_reducible repeat (first | refine blk_drewN ?_ _ | refine blk_drew ?_ | refine blk_alloc ?_ _)); exact BK208.out) hb)
                                        have n2_ := Aside0.mk (blk_below (g := gb209) (o := .cells #[.bool false, .int .u64 0, .int .u64 ji21, .int .i64 x2_8] 26 (0, 0)) (by (with_reducible repeat (first | refine blk_drewN ?_ _ | refine blk_drew ?_ | refine blk_alloc ?_ _)); exact BK209.out) hb)
                                        have n3_ := Aside0.mk (below_step (by repeat (first | (with_reducible first | exact HB.out | apply below_alloc | apply pw_below_drewN | apply below_drew1 | refine below_set ?_ GE207.out | refine below_set ?_ GE208.out | refine below_set ?_ GE209.out) | exact HB.out)) hb)
                                        clear BK207
                                        clear BK208
                                        clear BK209
                                        clear HB
                                        have BK207 := n0_
                                        have BK208 := n1_
                                        have BK209 := n2_
                                        have HB := n3_
                                        clear n0_ n1_ n2_ n3_
                                        (try clear hb)
                                        (try clear hb2)
                                        (try clear hk)
                                        (try clear hi)
                                        refine hK.out _ _ ⟨(blk_cell BK209.out 0).trans rfl, (blk_cell BK209.out 1).trans rfl, (blk_cell BK209.out 2).trans rfl, (blk_cell BK209.out 3).trans rfl⟩ (fun hHeld => ?_)
                                        clear hK K
                                        refine norm_ (a' := ?_) ?_ ?_
                                        rotate_left
                                        · show Act.put _ (some 60) _ = _
                                          simp only [Act.put, List.setIfInBounds_toArray, List.set_cons_zero, List.set_cons_succ, i64_w, i32_w]
                                          rfl
                                        refine pure_ (i := 6) (N := some 54) (v := ?_) (a' := ?_) #[true, true, true, true, true, true, true, false, false, false, false, false] rfl rfl (any_of HT_.out (by kernel_rfl)) (fun _ _ _ h => h) (Or.inl ⟨by rfl, ?_⟩) ?_ ?_
                                        rotate_left
                                        · intro w'
                                          go_simp
                                          with_reducible rfl
                                        rotate_left
                                        · simp only [Act.put, List.setIfInBounds_toArray, List.set_cons_zero, List.set_cons_succ, i64_w, i32_w]
                                          rfl
                                        refine pure_ (i := 7) (N := some 61) (v := ?_) (a' := ?_) #[true, true, true, true, true, true, true, true, false, false, false, false] rfl rfl (any_of HT_.out (by kernel_rfl)) (fun _ _ _ h => h) (Or.inl ⟨by rfl, ?_⟩) ?_ ?_
                                        rotate_left
                                        · intro w'
                                          go_simp
                                          with_reducible rfl
                                        rotate_left
                                        · simp only [Act.put, List.setIfInBounds_toArray, List.set_cons_zero, List.set_cons_succ, i64_w, i32_w]
                                          rfl
                                        refine pure_ (i := 8) (N := some 62) (v := ?_) (a' := ?_) #[true, true, true, true, true, true, true, true, true, false, false, false] rfl rfl (any_of HT_.out (by kernel_rfl)) (fun _ _ _ h => h) (Or.inl ⟨by rfl, ?_⟩) ?_ ?_
                                        rotate_left
                                        · intro w'
                                          go_simp
                                          with_reducible rfl
                                        rotate_left
                                        · simp only [Act.put, List.setIfInBounds_toArray, List.set_cons_zero, List.set_cons_succ, i64_w, i32_w]
                                          rfl
                                        refine one_ (i := 9) (N := some 12) #[true, true, true, true, true, true, true, true, true, true, false, false] rfl rfl (one_of HT_.out (by kernel_rfl)) (by decide) (fun K hK => ?_)
                                        refine box_step ?hg (N := 12) ?hd (cs := #[.bool false, .int .u64 0, .int .u64 0]) (t := 24) ?hr ?_; (case hd => rfl); (case hg => rfl); (case hr => first | (go_simp; done) | (go_simp; rfl))
                                        intro gb216 hg w60 hbox hb
                                        have n0_ := Aside0.mk (blk_below (g := gb207) (o := .cells #[.bool false, .int .u64 0, .int .u64 (IntKind.u64.wrap (a0))] 24 (0, 0)) (by (with_reducible repeat (first | refine blk_drewN ?_ _ | refine blk_drew ?_ | refine blk_alloc ?_ _)); exact BK207.out) hb)
                                        have n1_ := Aside0.mk (blk_below (g := gb208) (o := .cells #[.bool false, .int .u64 0, .int .u64 ji16, .int .i64 x1_8] 26 (0, 0)) (by (with_reducible repeat (first | refine blk_drewN ?_ _ | refine blk_drew ?_ | refine blk_alloc ?_ _)); exact BK208.out) hb)
                                        have n2_ := Aside0.mk (blk_below (g := gb209) (o := .cells #[.bool false, .int .u64 0, .int .u64 ji21, .int .i64 x2_8] 26 (0, 0)) (by (with_reducible repeat (first | refine blk_drewN ?_ _ | refine blk_drew ?_ | refine blk_alloc ?_ _)); exact BK209.out) hb)
                                        have n3_ := Aside0.mk (below_step (by repeat (first | (with_reducible first | exact HB.out | apply below_alloc | apply pw_below_drewN | apply below_drew1 | refine below_set ?_ GE207.out | refine below_set ?_ GE208.out | refine below_set ?_ GE209.out) | exact HB.out)) hb)
                                        have n4_ := Aside0.mk (hbox)
                                        have n5_ := Aside0.mk ((by rw [hg]; exact (below_size (by repeat (first | (with_reducible first | exact HB.out | apply below_alloc | apply pw_below_drewN | apply below_drew1 | refine below_set ?_ GE207.out | refine below_set ?_ GE208.out | refine below_set ?_ GE209.out) | exact HB.out))) : w.heap.size ≤ gb216))
                                        have n6_ := Aside0.mk ((by rw [hg]; exact (below_size (by repeat (first | (with_reducible first | exact HB.out | apply below_alloc | apply pw_below_drewN | apply below_drew1 | refine below_set ?_ GE207.out | refine below_set ?_ GE208.out | refine below_set ?_ GE209.out) | exact HB.out))) : w.heap.size ≤ gb216))
                                        have n7_ := Aside0.mk ((by rw [hg]; exact Nat.ne_of_lt (blk_lt (g := gb207) (o := .cells #[.bool false, .int .u64 0, .int .u64 (IntKind.u64.wrap (a0))] 24 (0, 0)) (by (with_reducible repeat (first | refine blk_drewN ?_ _ | refine blk_drew ?_ | refine blk_alloc ?_ _)); exact BK207.out)) : gb207 ≠ gb216))
                                        have n8_ := Aside0.mk ((by rw [hg]; exact Nat.ne_of_gt (blk_lt (g := gb207) (o := .cells #[.bool false, .int .u64 0, .int .u64 (IntKind.u64.wrap (a0))] 24 (0, 0)) (by (with_reducible repeat (first | refine blk_drewN ?_ _ | refine blk_drew ?_ | refine blk_alloc ?_ _)); exact BK207.out)) : gb216 ≠ gb207))
                                        have n9_ := Aside0.mk ((by rw [hg]; exact Nat.ne_of_lt (blk_lt (g := gb208) (o := .cells #[.bool false, .int .u64 0, .int .u64 ji16, .int .i64 x1_8] 26 (0, 0)) (by (with_reducible repeat (first | refine blk_drewN ?_ _ | refine blk_drew ?_ | refine blk_alloc ?_ _)); exact BK208.out)) : gb208 ≠ gb216))
                                        have n10_ := Aside0.mk ((by rw [hg]; exact Nat.ne_of_gt (blk_lt (g := gb208) (o := .cells #[.bool false, .int .u64 0, .int .u64 ji16, .int .i64 x1_8] 26 (0, 0)) (by (with_reducible repeat (first | refine blk_drewN ?_ _ | refine blk_drew ?_ | refine blk_alloc ?_ _)); exact BK208.out)) : gb216 ≠ gb208))
                                        have n11_ := Aside0.mk ((by rw [hg]; exact Nat.ne_of_lt (blk_lt (g := gb209) (o := .cells #[.bool false, .int .u64 0, .int .u64 ji21, .int .i64 x2_8] 26 (0, 0)) (by (with_reducible repeat (first | refine blk_drewN ?_ _ | refine blk_drew ?_ | refine blk_alloc ?_ _)); exact BK209.out)) : gb209 ≠ gb216))
                                        have n12_ := Aside0.mk ((by rw [hg]; exact Nat.ne_of_gt (blk_lt (g := gb209) (o := .cells #[.bool false, .int .u64 0, .int .u64 ji21, .int .i64 x2_8] 26 (0, 0)) (by (with_reducible repeat (first | refine blk_drewN ?_ _ | refine blk_drew ?_ | refine blk_alloc ?_ _)); exact BK209.out)) : gb216 ≠ gb209))
                                        clear BK207
                                        clear BK208
                                        clear BK209
                                        clear HB
                                        have BK207 := n0_
                                        have BK208 := n1_
                                        have BK209 := n2_
                                        have HB := n3_
                                        have BK216 := n4_
                                        have GW216 := n5_
                                        have GE216 := n6_
                                        have NB207_216 := n7_
                                        have NB216_207 := n8_
                                        have NB208_216 := n9_
                                        have NB216_208 := n10_
                                        have NB209_216 := n11_
                                        have NB216_209 := n12_
                                        clear n0_ n1_ n2_ n3_ n4_ n5_ n6_ n7_ n8_ n9_ n10_ n11_ n12_
                                        clear hb hbox hg
                                        refine hK.out _ _ ⟨(blk_cell BK209.out 0).trans rfl, (blk_cell BK209.out 1).trans rfl, (blk_cell BK209.out 2).trans rfl, (blk_cell BK209.out 3).trans rfl⟩ (fun hHeld => ?_)
                                        clear hK K
                                        refine norm_ (a' := ?_) ?_ ?_
                                        rotate_left
                                        · show Act.put _ (some 12) _ = _
                                          simp only [Act.put, List.setIfInBounds_toArray, List.set_cons_zero, List.set_cons_succ, i64_w, i32_w]
                                          rfl
                                        exact norm_ (by simp only [putAll, Act.put, List.setIfInBounds_toArray, List.set_cons_zero, List.set_cons_succ]) (hCont (gb216) _ ⟨hHeld, (by (with_reducible repeat (first | refine blk_drewN ?_ _ | refine blk_drew ?_ | refine blk_alloc ?_ _)); exact BK207.out), (by (with_reducible repeat (first | refine blk_drewN ?_ _ | refine blk_drew ?_ | refine blk_alloc ?_ _)); exact BK208.out), (by (with_reducible repeat (first | refine blk_drewN ?_ _ | refine blk_drew ?_ | refine blk_alloc ?_ _)); exact BK209.out), (by (with_reducible repeat (first | refine blk_drewN ?_ _ | refine blk_drew ?_ | refine blk_alloc ?_ _)); exact BK216.out), GW216.out, GE216.out, NB207_216.out, NB216_207.out, NB208_216.out, NB216_208.out, NB209_216.out, NB216_209.out, (by repeat (first | (with_reducible first | exact HB.out | apply below_alloc | apply pw_below_drewN | apply below_drew1 | refine below_set ?_ GE207.out | refine below_set ?_ GE208.out | refine below_set ?_ GE209.out | refine below_set ?_ GE216.out) | exact HB.out))⟩)
                                      · skip
                                        refine box_step ?hg (N := 12) ?hd (cs := #[.bool false, .int .u64 0, .int .u64 0]) (t := 24) ?hr ?_; (case hd => rfl); (case hg => rfl); (case hr => first | (go_simp; done) | (go_simp; rfl))
                                        intro gb216 hg w59 hbox hb
                                        have n0_ := Aside0.mk (blk_below (g := gb207) (o := .cells #[.bool false, .int .u64 0, .int .u64 (IntKind.u64.wrap (a0))] 24 (0, 0)) (by (with_reducible repeat (first | refine blk_drewN ?_ _ | refine blk_drew ?_ | refine blk_alloc ?_ _)); exact BK207.out) hb)
                                        have n1_ := Aside0.mk (blk_below (g := gb208) (o := .cells #[.bool false, .int .u64 0, .int .u64 ji16, .int .i64 x1_8] 26 (0, 0)) (by (with_reducible repeat (first | refine blk_drewN ?_ _ | refine blk_drew ?_ | refine blk_alloc ?_ _)); exact BK208.out) hb)
                                        have n2_ := Aside0.mk (blk_below (g := gb209) (o := .cells #[.bool false, .int .u64 0, .int .u64 ji21, .int .i64 x2_8] 26 (0, 0)) (by (with_reducible repeat (first | refine blk_drewN ?_ _ | refine blk_drew ?_ | refine blk_alloc ?_ _)); exact BK209.out) hb)
                                        have n3_ := Aside0.mk (below_step (by repeat (first | (with_reducible first | exact HB.out | apply below_alloc | apply pw_below_drewN | apply below_drew1 | refine below_set ?_ GE207.out | refine below_set ?_ GE208.out | refine below_set ?_ GE209.out) | exact HB.out)) hb)
                                        have n4_ := Aside0.mk (hbox)
                                        have n5_ := Aside0.mk ((by rw [hg]; exact (below_size (by repeat (first | (with_reducible first | exact HB.out | apply below_alloc | apply pw_below_drewN | apply below_drew1 | refine below_set ?_ GE207.out | refine below_set ?_ GE208.out | refine below_set ?_ GE209.out) | exact HB.out))) : w.heap.size ≤ gb216))
                                        have n6_ := Aside0.mk ((by rw [hg]; exact (below_size (by repeat (first | (with_reducible first | exact HB.out | apply below_alloc | apply pw_below_drewN | apply below_drew1 | refine below_set ?_ GE207.out | refine below_set ?_ GE208.out | refine below_set ?_ GE209.out) | exact HB.out))) : w.heap.size ≤ gb216))
                                        have n7_ := Aside0.mk ((by rw [hg]; exact Nat.ne_of_lt (blk_lt (g := gb207) (o := .cells #[.bool false, .int .u64 0, .int .u64 (IntKind.u64.wrap (a0))] 24 (0, 0)) (by (with_reducible repeat (first | refine blk_drewN ?_ _ | refine blk_drew ?_ | refine blk_alloc ?_ _)); exact BK207.out)) : gb207 ≠ gb216))
                                        have n8_ := Aside0.mk ((by rw [hg]; exact Nat.ne_of_gt (blk_lt (g := gb207) (o := .cells #[.bool false, .int .u64 0, .int .u64 (IntKind.u64.wrap (a0))] 24 (0, 0)) (by (with_reducible repeat (first | refine blk_drewN ?_ _ | refine blk_drew ?_ | refine blk_alloc ?_ _)); exact BK207.out)) : gb216 ≠ gb207))
                                        have n9_ := Aside0.mk ((by rw [hg]; exact Nat.ne_of_lt (blk_lt (g := gb208) (o := .cells #[.bool false, .int .u64 0, .int .u64 ji16, .int .i64 x1_8] 26 (0, 0)) (by (with_reducible repeat (first | refine blk_drewN ?_ _ | refine blk_drew ?_ | refine blk_alloc ?_ _)); exact BK208.out)) : gb208 ≠ gb216))
                                        have n10_ := Aside0.mk ((by rw [hg]; exact Nat.ne_of_gt (blk_lt (g := gb208) (o := .cells #[.bool false, .int .u64 0, .int .u64 ji16, .int .i64 x1_8] 26 (0, 0)) (by (with_reducible repeat (first | refine blk_drewN ?_ _ | refine blk_drew ?_ | refine blk_alloc ?_ _)); exact BK208.out)) : gb216 ≠ gb208))
                                        have n11_ := Aside0.mk ((by rw [hg]; exact Nat.ne_of_lt (blk_lt (g := gb209) (o := .cells #[.bool false, .int .u64 0, .int .u64 ji21, .int .i64 x2_8] 26 (0, 0)) (by (with_reducible repeat (first | refine blk_drewN ?_ _ | refine blk_drew ?_ | refine blk_alloc ?_ _)); exact BK209.out)) : gb209 ≠ gb216))
                                        have n12_ := Aside0.mk ((by rw [hg]; exact Nat.ne_of_gt (blk_lt (g := gb209) (o := .cells #[.bool false, .int .u64 0, .int .u64 ji21, .int .i64 x2_8] 26 (0, 0)) (by (with_reducible repeat (first | refine blk_drewN ?_ _ | refine blk_drew ?_ | refine blk_alloc ?_ _)); exact BK209.out)) : gb216 ≠ gb209))
                                        clear BK207
                                        clear BK208
                                        clear BK209
                                        clear HB
                                        have BK207 := n0_
                                        have BK208 := n1_
                                        have BK209 := n2_
                                        have HB := n3_
                                        have BK216 := n4_
                                        have GW216 := n5_
                                        have GE216 := n6_
                                        have NB207_216 := n7_
                                        have NB216_207 := n8_
                                        have NB208_216 := n9_
                                        have NB216_208 := n10_
                                        have NB209_216 := n11_
                                        have NB216_209 := n12_
                                        clear n0_ n1_ n2_ n3_ n4_ n5_ n6_ n7_ n8_ n9_ n10_ n11_ n12_
                                        clear hb hbox hg
                                        refine hK.out _ _ ⟨(blk_cell BK209.out 0).trans rfl, (blk_cell BK209.out 1).trans rfl, (blk_cell BK209.out 2).trans rfl, (blk_cell BK209.out 3).trans rfl⟩ (fun hHeld => ?_)
                                        clear hK K
                                        refine norm_ (a' := ?_) ?_ ?_
                                        rotate_left
                                        · show Act.put _ (some 12) _ = _
                                          simp only [Act.put, List.setIfInBounds_toArray, List.set_cons_zero, List.set_cons_succ, i64_w, i32_w]
                                          rfl
                                        refine one_ (i := 5) (N := some 60) #[true, true, true, true, true, true, false, false, false, true, false, false] rfl rfl (one_of HT_.out (by kernel_rfl)) (by decide) (fun K hK => ?_)
                                        refine goes_ Tryz.func13 (by kernel_rfl) rfl #[.agg #[.bool false, .int .u64 0, .int .u64 ji21, .int .i64 x2_8], .int .i64 t211] (by rfl) rfl rfl (by (try simp only [List.map_toArray, List.map_cons, List.map_nil]); first | done | (simp only [hji21]; rfl) | rfl | (simp only [List.length_drop, List.length_take]; rfl)) ?_
                                        with_reducible refine (ranges_At.calls false 0 ji21 x2_8 t211 t212 t213 t214 true _ A24.out).mono ?_
                                        rintro e w60 ⟨rfl, hb⟩
                                        refine ⟨_, rfl, ?_⟩
                                        have n0_ := Aside0.mk (blk_below (g := gb207) (o := .cells #[.bool false, .int .u64 0, .int .u64 (IntKind.u64.wrap (a0))] 24 (0, 0)) (by (with_reducible repeat (first | refine blk_drewN ?_ _ | refine blk_drew ?_ | refine blk_alloc ?_ _)); exact BK207.out) hb)
                                        have n1_ := Aside0.mk (blk_below (g := gb208) (o := .cells #[.bool false, .int .u64 0, .int .u64 ji16, .int .i64 x1_8] 26 (0, 0)) (by (with_reducible repeat (first | refine blk_drewN ?_ _ | refine blk_drew ?_ | refine blk_alloc ?_ _)); exact BK208.out) hb)
                                        have n2_ := Aside0.mk (blk_below (g := gb209) (o := .cells #[.bool false, .int .u64 0, .int .u64 ji21, .int .i64 x2_8] 26 (0, 0)) (by (with_reducible repeat (first | refine blk_drewN ?_ _ | refine blk_drew ?_ | refine blk_alloc ?_ _)); exact BK209.out) hb)
                                        have n3_ := Aside0.mk (blk_below (g := gb216) (o := .cells #[.bool false, .int .u64 0, .int .u64 0] 24 (0, 0)) (by (with_reducible repeat (first | refine blk_drewN ?_ _ | refine blk_drew ?_ | refine blk_alloc ?_ _)); exact BK216.out) hb)
                                        have n4_ := Aside0.mk (below_step (by repeat (first | (with_reducible first | exact HB.out | apply below_alloc | apply pw_below_drewN | apply below_drew1 | refine below_set ?_ GE207.out | refine below_set ?_ GE208.out | refine below_set ?_ GE209.out | refine below_set ?_ GE216.out) | exact HB.out)) hb)
                                        clear BK207
                                        clear BK208
                                        clear BK209
                                        clear BK216
                                        clear HB
                                        have BK207 := n0_
                                        have BK208 := n1_
                                        have BK209 := n2_
                                        have BK216 := n3_
                                        have HB := n4_
                                        clear n0_ n1_ n2_ n3_ n4_
                                        (try clear hb)
                                        (try clear hb2)
                                        (try clear hk)
                                        (try clear hi)
                                        refine hK.out _ _ ⟨(blk_cell BK209.out 0).trans rfl, (blk_cell BK209.out 1).trans rfl, (blk_cell BK209.out 2).trans rfl, (blk_cell BK209.out 3).trans rfl⟩ (fun hHeld => ?_)
                                        clear hK K
                                        refine norm_ (a' := ?_) ?_ ?_
                                        rotate_left
                                        · show Act.put _ (some 60) _ = _
                                          simp only [Act.put, List.setIfInBounds_toArray, List.set_cons_zero, List.set_cons_succ, i64_w, i32_w]
                                          rfl
                                        refine pure_ (i := 6) (N := some 54) (v := ?_) (a' := ?_) #[true, true, true, true, true, true, true, false, false, true, false, false] rfl rfl (any_of HT_.out (by kernel_rfl)) (fun _ _ _ h => h) (Or.inl ⟨by rfl, ?_⟩) ?_ ?_
                                        rotate_left
                                        · intro w'
                                          go_simp
                                          with_reducible rfl
                                        rotate_left
                                        · simp only [Act.put, List.setIfInBounds_toArray, List.set_cons_zero, List.set_cons_succ, i64_w, i32_w]
                                          rfl
                                        refine pure_ (i := 7) (N := some 61) (v := ?_) (a' := ?_) #[true, true, true, true, true, true, true, true, false, true, false, false] rfl rfl (any_of HT_.out (by kernel_rfl)) (fun _ _ _ h => h) (Or.inl ⟨by rfl, ?_⟩) ?_ ?_
                                        rotate_left
                                        · intro w'
                                          go_simp
                                          with_reducible rfl
                                        rotate_left
                                        · simp only [Act.put, List.setIfInBounds_toArray, List.set_cons_zero, List.set_cons_succ, i64_w, i32_w]
                                          rfl
                                        refine pure_ (i := 8) (N := some 62) (v := ?_) (a' := ?_) #[true, true, true, true, true, true, true, true, true, true, false, false] rfl rfl (any_of HT_.out (by kernel_rfl)) (fun _ _ _ h => h) (Or.inl ⟨by rfl, ?_⟩) ?_ ?_
                                        rotate_left
                                        · intro w'
                                          go_simp
                                          with_reducible rfl
                                        rotate_left
                                        · simp only [Act.put, List.setIfInBounds_toArray, List.set_cons_zero, List.set_cons_succ, i64_w, i32_w]
                                          rfl
                                        exact norm_ (by simp only [putAll, Act.put, List.setIfInBounds_toArray, List.set_cons_zero, List.set_cons_succ]) (hCont (gb216) _ ⟨hHeld, (by (with_reducible repeat (first | refine blk_drewN ?_ _ | refine blk_drew ?_ | refine blk_alloc ?_ _)); exact BK207.out), (by (with_reducible repeat (first | refine blk_drewN ?_ _ | refine blk_drew ?_ | refine blk_alloc ?_ _)); exact BK208.out), (by (with_reducible repeat (first | refine blk_drewN ?_ _ | refine blk_drew ?_ | refine blk_alloc ?_ _)); exact BK209.out), (by (with_reducible repeat (first | refine blk_drewN ?_ _ | refine blk_drew ?_ | refine blk_alloc ?_ _)); exact BK216.out), GW216.out, GE216.out, NB207_216.out, NB216_207.out, NB208_216.out, NB216_208.out, NB209_216.out, NB216_209.out, (by repeat (first | (with_reducible first | exact HB.out | apply below_alloc | apply pw_below_drewN | apply below_drew1 | refine below_set ?_ GE207.out | refine below_set ?_ GE208.out | refine below_set ?_ GE209.out | refine below_set ?_ GE216.out) | exact HB.out))⟩)
                                    · skip
                                      refine box_step ?hg (N := 12) ?hd (cs := #[.bool false, .int .u64 0, .int .u64 0]) (t := 24) ?hr ?_; (case hd => rfl); (case hg => rfl); (case hr => first | (go_simp; done) | (go_simp; rfl))
                                      intro gb216 hg w59 hbox hb
                                      have n0_ := Aside0.mk (blk_below (g := gb207) (o := .cells #[.bool false, .int .u64 0, .int .u64 (IntKind.u64.wrap (a0))] 24 (0, 0)) (by (with_reducible repeat (first | refine blk_drewN ?_ _ | refine blk_drew ?_ | refine blk_alloc ?_ _)); exact BK207.out) hb)
                                      have n1_ := Aside0.mk (blk_below (g := gb208) (o := .cells #[.bool false, .int .u64 0, .int .u64 ji16, .int .i64 x1_8] 26 (0, 0)) (by (with_reducible repeat (first | refine blk_drewN ?_ _ | refine blk_drew ?_ | refine blk_alloc ?_ _)); exact BK208.out) hb)
                                      have n2_ := Aside0.mk (blk_below (g := gb209) (o := .cells #[.bool false, .int .u64 0, .int .u64 ji21, .int .i64 x2_8] 26 (0, 0)) (by (with_reducible repeat (first | refine blk_drewN ?_ _ | refine blk_drew ?_ | refine blk_alloc ?_ _)); exact BK209.out) hb)
                                      have n3_ := Aside0.mk (below_step (by repeat (first | (with_reducible first | exact HB.out | apply below_alloc | apply pw_below_drewN | apply below_drew1 | refine below_set ?_ GE207.out | refine below_set ?_ GE208.out | refine below_set ?_ GE209.out) | exact HB.out)) hb)
                                      have n4_ := Aside0.mk (hbox)
                                      have n5_ := Aside0.mk ((by rw [hg]; exact (below_size (by repeat (first | (with_reducible first | exact HB.out | apply below_alloc | apply pw_below_drewN | apply below_drew1 | refine below_set ?_ GE207.out | refine below_set ?_ GE208.out | refine below_set ?_ GE209.out) | exact HB.out))) : w.heap.size ≤ gb216))
                                      have n6_ := Aside0.mk ((by rw [hg]; exact (below_size (by repeat (first | (with_reducible first | exact HB.out | apply below_alloc | apply pw_below_drewN | apply below_drew1 | refine below_set ?_ GE207.out | refine below_set ?_ GE208.out | refine below_set ?_ GE209.out) | exact HB.out))) : w.heap.size ≤ gb216))
                                      have n7_ := Aside0.mk ((by rw [hg]; exact Nat.ne_of_lt (blk_lt (g := gb207) (o := .cells #[.bool false, .int .u64 0, .int .u64 (IntKind.u64.wrap (a0))] 24 (0, 0)) (by (with_reducible repeat (first | refine blk_drewN ?_ _ | refine blk_drew ?_ | refine blk_alloc ?_ _)); exact BK207.out)) : gb207 ≠ gb216))
                                      have n8_ := Aside0.mk ((by rw [hg]; exact Nat.ne_of_gt (blk_lt (g := gb207) (o := .cells #[.bool false, .int .u64 0, .int .u64 (IntKind.u64.wrap (a0))] 24 (0, 0)) (by (with_reducible repeat (first | refine blk_drewN ?_ _ | refine blk_drew ?_ | refine blk_alloc ?_ _)); exact BK207.out)) : gb216 ≠ gb207))
                                      have n9_ := Aside0.mk ((by rw [hg]; exact Nat.ne_of_lt (blk_lt (g := gb208) (o := .cells #[.bool false, .int .u64 0, .int .u64 ji16, .int .i64 x1_8] 26 (0, 0)) (by (with_reducible repeat (first | refine blk_drewN ?_ _ | refine blk_drew ?_ | refine blk_alloc ?_ _)); exact BK208.out)) : gb208 ≠ gb216))
                                      have n10_ := Aside0.mk ((by rw [hg]; exact Nat.ne_of_gt (blk_lt (g := gb208) (o := .cells #[.bool false, .int .u64 0, .int .u64 ji16, .int .i64 x1_8] 26 (0, 0)) (by (with_reducible repeat (first | refine blk_drewN ?_ _ | refine blk_drew ?_ | refine blk_alloc ?_ _)); exact BK208.out)) : gb216 ≠ gb208))
                                      have n11_ := Aside0.mk ((by rw [hg]; exact Nat.ne_of_lt (blk_lt (g := gb209) (o := .cells #[.bool false, .int .u64 0, .int .u64 ji21, .int .i64 x2_8] 26 (0, 0)) (by (with_reducible repeat (first | refine blk_drewN ?_ _ | refine blk_drew ?_ | refine blk_alloc ?_ _)); exact BK209.out)) : gb209 ≠ gb216))
                                      have n12_ := Aside0.mk ((by rw [hg]; exact Nat.ne_of_gt (blk_lt (g := gb209) (o := .cells #[.bool false, .int .u64 0, .int .u64 ji21, .int .i64 x2_8] 26 (0, 0)) (by (with_reducible repeat (first | refine blk_drewN ?_ _ | refine blk_drew ?_ | refine blk_alloc ?_ _)); exact BK209.out)) : gb216 ≠ gb209))
                                      clear BK207
                                      clear BK208
                                      clear BK209
                                      clear HB
                                      have BK207 := n0_
                                      have BK208 := n1_
                                      have BK209 := n2_
                                      have HB := n3_
                                      have BK216 := n4_
                                      have GW216 := n5_
                                      have GE216 := n6_
                                      have NB207_216 := n7_
                                      have NB216_207 := n8_
                                      have NB208_216 := n9_
                                      have NB216_208 := n10_
                                      have NB209_216 := n11_
                                      have NB216_209 := n12_
                                      clear n0_ n1_ n2_ n3_ n4_ n5_ n6_ n7_ n8_ n9_ n10_ n11_ n12_
                                      clear hb hbox hg
                                      refine hK.out _ _ ⟨(blk_cell BK209.out 0).trans rfl, (blk_cell BK209.out 1).trans rfl, (blk_cell BK209.out 2).trans rfl, (blk_cell BK209.out 3).trans rfl⟩ (fun hHeld => ?_)
                                      clear hK K
                                      refine norm_ (a' := ?_) ?_ ?_
                                      rotate_left
                                      · show Act.put _ (some 12) _ = _
                                        simp only [Act.put, List.setIfInBounds_toArray, List.set_cons_zero, List.set_cons_succ, i64_w, i32_w]
                                        rfl
                                      refine one_ (i := 4) (N := some 59) #[true, true, true, true, true, false, false, false, false, true, false, false] rfl rfl (one_of HT_.out (by kernel_rfl)) (by decide) (fun K hK => ?_)
                                      refine goes_ Tryz.func18 (by kernel_rfl) rfl #[.int .i64 a3, .int .i64 t210] (by rfl) rfl rfl (by (try simp only [List.map_toArray, List.map_cons, List.map_nil]); first | done | rfl | (simp only [List.length_drop, List.length_take]; rfl)) ?_
                                      with_reducible refine (nameplatekit_Pick.calls a3 t210 t211 _ A23.out).mono ?_
                                      rintro e w' ⟨rfl, ⟨nd, rfl⟩⟩
                                      refine ⟨_, rfl, ?_⟩
                                      refine hK.out _ _ ⟨(blk_cell BK209.out 0).trans rfl, (blk_cell BK209.out 1).trans rfl, (blk_cell BK209.out 2).trans rfl, (blk_cell BK209.out 3).trans rfl⟩ (fun hHeld => ?_)
                                      clear hK K
                                      refine norm_ (a' := ?_) ?_ ?_
                                      rotate_left
                                      · show Act.put _ (some 59) _ = _
                                        simp only [Act.put, List.setIfInBounds_toArray, List.set_cons_zero, List.set_cons_succ, i64_w, i32_w]
                                        rfl
                                      refine one_ (i := 5) (N := some 60) #[true, true, true, true, true, true, false, false, false, true, false, false] rfl rfl (one_of HT_.out (by kernel_rfl)) (by decide) (fun K hK => ?_)
                                      refine goes_ Tryz.func13 (by kernel_rfl) rfl #[.agg #[.bool false, .int .u64 0, .int .u64 ji21, .int .i64 x2_8], .int .i64 t211] (by rfl) rfl rfl (by (try simp only [List.map_toArray, List.map_cons, List.map_nil]); first | done | (simp only [hji21]; rfl) | rfl | (simp only [List.length_drop, List.length_take]; rfl)) ?_
                                      with_reducible refine (ranges_At.calls false 0 ji21 x2_8 t211 t212 t213 t214 true _ A24.out).mono ?_
                                      rintro e w60 ⟨rfl, hb⟩
                                      refine ⟨_, rfl, ?_⟩
                                      have n0_ := Aside0.mk (blk_below (g := gb207) (o := .cells #[.bool false, .int .u64 0, .int .u64 (IntKind.u64.wrap (a0))] 24 (0, 0)) (by (with_reducible repeat (first | refine blk_drewN ?_ _ | refine blk_drew ?_ | refine blk_alloc ?_ _)); exact BK207.out) hb)
                                      have n1_ := Aside0.mk (blk_below (g := gb208) (o := .cells #[.bool false, .int .u64 0, .int .u64 ji16, .int .i64 x1_8] 26 (0, 0)) (by (with_reducible repeat (first | refine blk_drewN ?_ _ | refine blk_drew ?_ | refine blk_alloc ?_ _)); exact BK208.out) hb)
                                      have n2_ := Aside0.mk (blk_below (g := gb209) (o := .cells #[.bool false, .int .u64 0, .int .u64 ji21, .int .i64 x2_8] 26 (0, 0)) (by (with_reducible repeat (first | refine blk_drewN ?_ _ | refine blk_drew ?_ | refine blk_alloc ?_ _)); exact BK209.out) hb)
                                      have n3_ := Aside0.mk (blk_below (g := gb216) (o := .cells #[.bool false, .int .u64 0, .int .u64 0] 24 (0, 0)) (by (with_reducible repeat (first | refine blk_drewN ?_ _ | refine blk_drew ?_ | refine blk_alloc ?_ _)); exact BK216.out) hb)
                                      have n4_ := Aside0.mk (below_step (by repeat (first | (with_reducible first | exact HB.out | apply below_alloc | apply pw_below_drewN | apply below_drew1 | refine below_set ?_ GE207.out | refine below_set ?_ GE208.out | refine below_set ?_ GE209.out | refine below_set ?_ GE216.out) | exact HB.out)) hb)
                                      clear BK207
                                      clear BK208
                                      clear BK209
                                      clear BK216
                                      clear HB
                                      have BK207 := n0_
                                      have BK208 := n1_
                                      have BK209 := n2_
                                      have BK216 := n3_
                                      have HB := n4_
                                      clear n0_ n1_ n2_ n3_ n4_
                                      (try clear hb)
                                      (try clear hb2)
                                      (try clear hk)
                                      (try clear hi)
                                      refine hK.out _ _ ⟨(blk_cell BK209.out 0).trans rfl, (blk_cell BK209.out 1).trans rfl, (blk_cell BK209.out 2).trans rfl, (blk_cell BK209.out 3).trans rfl⟩ (fun hHeld => ?_)
                                      clear hK K
                                      refine norm_ (a' := ?_) ?_ ?_
                                      rotate_left
                                      · show Act.put _ (some 60) _ = _
                                        simp only [Act.put, List.setIfInBounds_toArray, List.set_cons_zero, List.set_cons_succ, i64_w, i32_w]
                                        rfl
                                      refine pure_ (i := 6) (N := some 54) (v := ?_) (a' := ?_) #[true, true, true, true, true, true, true, false, false, true, false, false] rfl rfl (any_of HT_.out (by kernel_rfl)) (fun _ _ _ h => h) (Or.inl ⟨by rfl, ?_⟩) ?_ ?_
                                      rotate_left
                                      · intro w'
                                        go_simp
                                        with_reducible rfl
                                      rotate_left
                                      · simp only [Act.put, List.setIfInBounds_toArray, List.set_cons_zero, List.set_cons_succ, i64_w, i32_w]
                                        rfl
                                      refine pure_ (i := 7) (N := some 61) (v := ?_) (a' := ?_) #[true, true, true, true, true, true, true, true, false, true, false, false] rfl rfl (any_of HT_.out (by kernel_rfl)) (fun _ _ _ h => h) (Or.inl ⟨by rfl, ?_⟩) ?_ ?_
                                      rotate_left
                                      · intro w'
                                        go_simp
                                        with_reducible rfl
                                      rotate_left
                                      · simp only [Act.put, List.setIfInBounds_toArray, List.set_cons_zero, List.set_cons_succ, i64_w, i32_w]
                                        rfl
                                      refine pure_ (i := 8) (N := some 62) (v := ?_) (a' := ?_) #[true, true, true, true, true, true, true, true, true, true, false, false] rfl rfl (any_of HT_.out (by kernel_rfl)) (fun _ _ _ h => h) (Or.inl ⟨by rfl, ?_⟩) ?_ ?_
                                      rotate_left
                                      · intro w'
                                        go_simp
                                        with_reducible rfl
                                      rotate_left
                                      · simp only [Act.put, List.setIfInBounds_toArray, List.set_cons_zero, List.set_cons_succ, i64_w, i32_w]
                                        rfl
                                      exact norm_ (by simp only [putAll, Act.put, List.setIfInBounds_toArray, List.set_cons_zero, List.set_cons_succ]) (hCont (gb216) _ ⟨hHeld, (by (with_reducible repeat (first | refine blk_drewN ?_ _ | refine blk_drew ?_ | refine blk_alloc ?_ _)); exact BK207.out), (by (with_reducible repeat (first | refine blk_drewN ?_ _ | refine blk_drew ?_ | refine blk_alloc ?_ _)); exact BK208.out), (by (with_reducible repeat (first | refine blk_drewN ?_ _ | refine blk_drew ?_ | refine blk_alloc ?_ _)); exact BK209.out), (by (with_reducible repeat (first | refine blk_drewN ?_ _ | refine blk_drew ?_ | refine blk_alloc ?_ _)); exact BK216.out), GW216.out, GE216.out, NB207_216.out, NB216_207.out, NB208_216.out, NB216_208.out, NB209_216.out, NB216_209.out, (by repeat (first | (with_reducible first | exact HB.out | apply below_alloc | apply pw_below_drewN | apply below_drew1 | refine below_set ?_ GE207.out | refine below_set ?_ GE208.out | refine below_set ?_ GE209.out | refine below_set ?_ GE216.out) | exact HB.out))⟩)
                                  · skip
                                    refine box_step ?hg (N := 12) ?hd (cs := #[.bool false, .int .u64 0, .int .u64 0]) (t := 24) ?hr ?_; (case hd => rfl); (case hg => rfl); (case hr => first | (go_simp; done) | (go_simp; rfl))
                                    intro gb216 hg w58 hbox hb
                                    have n0_ := Aside0.mk (blk_below (g := gb207) (o := .cells #[.bool false, .int .u64 0, .int .u64 (IntKind.u64.wrap (a0))] 24 (0, 0)) (by (with_reducible repeat (first | refine blk_drewN ?_ _ | refine blk_drew ?_ | refine blk_alloc ?_ _)); exact BK207.out) hb)
                                    have n1_ := Aside0.mk (blk_below (g := gb208) (o := .cells #[.bool false, .int .u64 0, .int .u64 ji16, .int .i64 x1_8] 26 (0, 0)) (by (with_reducible repeat (first | refine blk_drewN ?_ _ | refine blk_drew ?_ | refine blk_alloc ?_ _)); exact BK208.out) hb)
                                    have n2_ := Aside0.mk (blk_below (g := gb209) (o := .cells #[.bool false, .int .u64 0, .int .u64 ji21, .int .i64 x2_8] 26 (0, 0)) (by (with_reducible repeat (first | refine blk_drewN ?_ _ | refine blk_drew ?_ | refine blk_alloc ?_ _)); exact BK209.out) hb)
                                    have n3_ := Aside0.mk (below_step (by repeat (first | (with_reducible first | exact HB.out | apply below_alloc | apply pw_below_drewN | apply below_drew1 | refine below_set ?_ GE207.out | refine below_set ?_ GE208.out | refine below_set ?_ GE209.out) | exact HB.out)) hb)
                                    have n4_ := Aside0.mk (hbox)
                                    have n5_ := Aside0.mk ((by rw [hg]; exact (below_size (by repeat (first | (with_reducible first | exact HB.out | apply below_alloc | apply pw_below_drewN | apply below_drew1 | refine below_set ?_ GE207.out | refine below_set ?_ GE208.out | refine below_set ?_ GE209.out) | exact HB.out))) : w.heap.size ≤ gb216))
                                    have n6_ := Aside0.mk ((by rw [hg]; exact (below_size (by repeat (first | (with_reducible first | exact HB.out | apply below_alloc | apply pw_below_drewN | apply below_drew1 | refine below_set ?_ GE207.out | refine below_set ?_ GE208.out | refine below_set ?_ GE209.out) | exact HB.out))) : w.heap.size ≤ gb216))
                                    have n7_ := Aside0.mk ((by rw [hg]; exact Nat.ne_of_lt (blk_lt (g := gb207) (o := .cells #[.bool false, .int .u64 0, .int .u64 (IntKind.u64.wrap (a0))] 24 (0, 0)) (by (with_reducible repeat (first | refine blk_drewN ?_ _ | refine blk_drew ?_ | refine blk_alloc ?_ _)); exact BK207.out)) : gb207 ≠ gb216))
                                    have n8_ := Aside0.mk ((by rw [hg]; exact Nat.ne_of_gt (blk_lt (g := gb207) (o := .cells #[.bool false, .int .u64 0, .int .u64 (IntKind.u64.wrap (a0))] 24 (0, 0)) (by (with_reducible repeat (first | refine blk_drewN ?_ _ | refine blk_drew ?_ | refine blk_alloc ?_ _)); exact BK207.out)) : gb216 ≠ gb207))
                                    have n9_ := Aside0.mk ((by rw [hg]; exact Nat.ne_of_lt (blk_lt (g := gb208) (o := .cells #[.bool false, .int .u64 0, .int .u64 ji16, .int .i64 x1_8] 26 (0, 0)) (by (with_reducible repeat (first | refine blk_drewN ?_ _ | refine blk_drew ?_ | refine blk_alloc ?_ _)); exact BK208.out)) : gb208 ≠ gb216))
                                    have n10_ := Aside0.mk ((by rw [hg]; exact Nat.ne_of_gt (blk_lt (g := gb208) (o := .cells #[.bool false, .int .u64 0, .int .u64 ji16, .int .i64 x1_8] 26 (0, 0)) (by (with_reducible repeat (first | refine blk_drewN ?_ _ | refine blk_drew ?_ | refine blk_alloc ?_ _)); exact BK208.out)) : gb216 ≠ gb208))
                                    have n11_ := Aside0.mk ((by rw [hg]; exact Nat.ne_of_lt (blk_lt (g := gb209) (o := .cells #[.bool false, .int .u64 0, .int .u64 ji21, .int .i64 x2_8] 26 (0, 0)) (by (with_reducible repeat (first | refine blk_drewN ?_ _ | refine blk_drew ?_ | refine blk_alloc ?_ _)); exact BK209.out)) : gb209 ≠ gb216))
                                    have n12_ := Aside0.mk ((by rw [hg]; exact Nat.ne_of_gt (blk_lt (g := gb209) (o := .cells #[.bool false, .int .u64 0, .int .u64 ji21, .int .i64 x2_8] 26 (0, 0)) (by (with_reducible repeat (first | refine blk_drewN ?_ _ | refine blk_drew ?_ | refine blk_alloc ?_ _)); exact BK209.out)) : gb216 ≠ gb209))
                                    clear BK207
                                    clear BK208
                                    clear BK209
                                    clear HB
                                    have BK207 := n0_
                                    have BK208 := n1_
                                    have BK209 := n2_
                                    have HB := n3_
                                    have BK216 := n4_
                                    have GW216 := n5_
                                    have GE216 := n6_
                                    have NB207_216 := n7_
                                    have NB216_207 := n8_
                                    have NB208_216 := n9_
                                    have NB216_208 := n10_
                                    have NB209_216 := n11_
                                    have NB216_209 := n12_
                                    clear n0_ n1_ n2_ n3_ n4_ n5_ n6_ n7_ n8_ n9_ n10_ n11_ n12_
                                    clear hb hbox hg
                                    refine hK.out _ _ ⟨(blk_cell BK209.out 0).trans rfl, (blk_cell BK209.out 1).trans rfl, (blk_cell BK209.out 2).trans rfl, (blk_cell BK209.out 3).trans rfl⟩ (fun hHeld => ?_)
                                    clear hK K
                                    refine norm_ (a' := ?_) ?_ ?_
                                    rotate_left
                                    · show Act.put _ (some 12) _ = _
                                      simp only [Act.put, List.setIfInBounds_toArray, List.set_cons_zero, List.set_cons_succ, i64_w, i32_w]
                                      rfl
                                    refine one_ (i := 3) (N := some 58) #[true, true, true, true, false, false, false, false, false, true, false, false] rfl rfl (one_of HT_.out (by kernel_rfl)) (by decide) (fun K hK => ?_)
                                    refine goes_ Tryz.func12 (by kernel_rfl) rfl #[.agg #[.bool false, .int .u64 0, .int .u64 ji21, .int .i64 x2_8]] (by rfl) rfl rfl (by (try simp only [List.map_toArray, List.map_cons, List.map_nil]); first | done | (simp only [hji21]; rfl) | rfl | (simp only [List.length_drop, List.length_take]; rfl)) ?_
                                    with_reducible refine (ranges_Size.calls false 0 ji21 x2_8 t210 _ A22.out).mono ?_
                                    rintro e w59 ⟨rfl, hb⟩
                                    refine ⟨_, rfl, ?_⟩
                                    have n0_ := Aside0.mk (blk_below (g := gb207) (o := .cells #[.bool false, .int .u64 0, .int .u64 (IntKind.u64.wrap (a0))] 24 (0, 0)) (by (with_reducible repeat (first | refine blk_drewN ?_ _ | refine blk_drew ?_ | refine blk_alloc ?_ _)); exact BK207.out) hb)
                                    have n1_ := Aside0.mk (blk_below (g := gb208) (o := .cells #[.bool false, .int .u64 0, .int .u64 ji16, .int .i64 x1_8] 26 (0, 0)) (by (with_reducible repeat (first | refine blk_drewN ?_ _ | refine blk_drew ?_ | refine blk_alloc ?_ _)); exact BK208.out) hb)
                                    have n2_ := Aside0.mk (blk_below (g := gb209) (o := .cells #[.bool false, .int .u64 0, .int .u64 ji21, .int .i64 x2_8] 26 (0, 0)) (by (with_reducible repeat (first | refine blk_drewN ?_ _ | refine blk_drew ?_ | refine blk_alloc ?_ _)); exact BK209.out) hb)
                                    have n3_ := Aside0.mk (blk_below (g := gb216) (o := .cells #[.bool false, .int .u64 0, .int .u64 0] 24 (0, 0)) (by (with_reducible repeat (first | refine blk_drewN ?_ _ | refine blk_drew ?_ | refine blk_alloc ?_ _)); exact BK216.out) hb)
                                    have n4_ := Aside0.mk (below_step (by repeat (first | (with_reducible first | exact HB.out | apply below_alloc | apply pw_below_drewN | apply below_drew1 | refine below_set ?_ GE207.out | refine below_set ?_ GE208.out | refine below_set ?_ GE209.out | refine below_set ?_ GE216.out) | exact HB.out)) hb)
                                    clear BK207
                                    clear BK208
                                    clear BK209
                                    clear BK216
                                    clear HB
                                    have BK207 := n0_
                                    have BK208 := n1_
                                    have BK209 := n2_
                                    have BK216 := n3_
                                    have HB := n4_
                                    clear n0_ n1_ n2_ n3_ n4_
                                    (try clear hb)
                                    (try clear hb2)
                                    (try clear hk)
                                    (try clear hi)
                                    refine hK.out _ _ ⟨(blk_cell BK209.out 0).trans rfl, (blk_cell BK209.out 1).trans rfl, (blk_cell BK209.out 2).trans rfl, (blk_cell BK209.out 3).trans rfl⟩ (fun hHeld => ?_)
                                    clear hK K
                                    refine norm_ (a' := ?_) ?_ ?_
                                    rotate_left
                                    · show Act.put _ (some 58) _ = _
                                      simp only [Act.put, List.setIfInBounds_toArray, List.set_cons_zero, List.set_cons_succ, i64_w, i32_w]
                                      rfl
                                    refine one_ (i := 4) (N := some 59) #[true, true, true, true, true, false, false, false, false, true, false, false] rfl rfl (one_of HT_.out (by kernel_rfl)) (by decide) (fun K hK => ?_)
                                    refine goes_ Tryz.func18 (by kernel_rfl) rfl #[.int .i64 a3, .int .i64 t210] (by rfl) rfl rfl (by (try simp only [List.map_toArray, List.map_cons, List.map_nil]); first | done | rfl | (simp only [List.length_drop, List.length_take]; rfl)) ?_
                                    with_reducible refine (nameplatekit_Pick.calls a3 t210 t211 _ A23.out).mono ?_
                                    rintro e w' ⟨rfl, ⟨nd, rfl⟩⟩
                                    refine ⟨_, rfl, ?_⟩
                                    refine hK.out _ _ ⟨(blk_cell BK209.out 0).trans rfl, (blk_cell BK209.out 1).trans rfl, (blk_cell BK209.out 2).trans rfl, (blk_cell BK209.out 3).trans rfl⟩ (fun hHeld => ?_)
                                    clear hK K
                                    refine norm_ (a' := ?_) ?_ ?_
                                    rotate_left
                                    · show Act.put _ (some 59) _ = _
                                      simp only [Act.put, List.setIfInBounds_toArray, List.set_cons_zero, List.set_cons_succ, i64_w, i32_w]
                                      rfl
                                    refine one_ (i := 5) (N := some 60) #[true, true, true, true, true, true, false, false, false, true, false, false] rfl rfl (one_of HT_.out (by kernel_rfl)) (by decide) (fun K hK => ?_)
                                    refine goes_ Tryz.func13 (by kernel_rfl) rfl #[.agg #[.bool false, .int .u64 0, .int .u64 ji21, .int .i64 x2_8], .int .i64 t211] (by rfl) rfl rfl (by (try simp only [List.map_toArray, List.map_cons, List.map_nil]); first | done | (simp only [hji21]; rfl) | rfl | (simp only [List.length_drop, List.length_take]; rfl)) ?_
                                    with_reducible refine (ranges_At.calls false 0 ji21 x2_8 t211 t212 t213 t214 true _ A24.out).mono ?_
                                    rintro e w60 ⟨rfl, hb⟩
                                    refine ⟨_, rfl, ?_⟩
                                    have n0_ := Aside0.mk (blk_below (g := gb207) (o := .cells #[.bool false, .int .u64 0, .int .u64 (IntKind.u64.wrap (a0))] 24 (0, 0)) (by (with_reducible repeat (first | refine blk_drewN ?_ _ | refine blk_drew ?_ | refine blk_alloc ?_ _)); exact BK207.out) hb)
                                    have n1_ := Aside0.mk (blk_below (g := gb208) (o := .cells #[.bool false, .int .u64 0, .int .u64 ji16, .int .i64 x1_8] 26 (0, 0)) (by (with_reducible repeat (first | refine blk_drewN ?_ _ | refine blk_drew ?_ | refine blk_alloc ?_ _)); exact BK208.out) hb)
                                    have n2_ := Aside0.mk (blk_below (g := gb209) (o := .cells #[.bool false, .int .u64 0, .int .u64 ji21, .int .i64 x2_8] 26 (0, 0)) (by (with_reducible repeat (first | refine blk_drewN ?_ _ | refine blk_drew ?_ | refine blk_alloc ?_ _)); exact BK209.out) hb)
                                    have n3_ := Aside0.mk (blk_below (g := gb216) (o := .cells #[.bool false, .int .u64 0, .int .u64 0] 24 (0, 0)) (by (with_reducible repeat (first | refine blk_drewN ?_ _ | refine blk_drew ?_ | refine blk_alloc ?_ _)); exact BK216.out) hb)
                                    have n4_ := Aside0.mk (below_step (by repeat (first | (with_reducible first | exact HB.out | apply below_alloc | apply pw_below_drewN | apply below_drew1 | refine below_set ?_ GE207.out | refine below_set ?_ GE208.out | refine below_set ?_ GE209.out | refine below_set ?_ GE216.out) | exact HB.out)) hb)
                                    clear BK207
                                    clear BK208
                                    clear BK209
                                    clear BK216
                                    clear HB
                                    have BK207 := n0_
                                    have BK208 := n1_
                                    have BK209 := n2_
                                    have BK216 := n3_
                                    have HB := n4_
                                    clear n0_ n1_ n2_ n3_ n4_
                                    (try clear hb)
                                    (try clear hb2)
                                    (try clear hk)
                                    (try clear hi)
                                    refine hK.out _ _ ⟨(blk_cell BK209.out 0).trans rfl, (blk_cell BK209.out 1).trans rfl, (blk_cell BK209.out 2).trans rfl, (blk_cell BK209.out 3).trans rfl⟩ (fun hHeld => ?_)
                                    clear hK K
                                    refine norm_ (a' := ?_) ?_ ?_
                                    rotate_left
                                    · show Act.put _ (some 60) _ = _
                                      simp only [Act.put, List.setIfInBounds_toArray, List.set_cons_zero, List.set_cons_succ, i64_w, i32_w]
                                      rfl
                                    refine pure_ (i := 6) (N := some 54) (v := ?_) (a' := ?_) #[true, true, true, true, true, true, true, false, false, true, false, false] rfl rfl (any_of HT_.out (by kernel_rfl)) (fun _ _ _ h => h) (Or.inl ⟨by rfl, ?_⟩) ?_ ?_
                                    rotate_left
                                    · intro w'
                                      go_simp
                                      with_reducible rfl
                                    rotate_left
                                    · simp only [Act.put, List.setIfInBounds_toArray, List.set_cons_zero, List.set_cons_succ, i64_w, i32_w]
                                      rfl
                                    refine pure_ (i := 7) (N := some 61) (v := ?_) (a' := ?_) #[true, true, true, true, true, true, true, true, false, true, false, false] rfl rfl (any_of HT_.out (by kernel_rfl)) (fun _ _ _ h => h) (Or.inl ⟨by rfl, ?_⟩) ?_ ?_
                                    rotate_left
                                    · intro w'
                                      go_simp
                                      with_reducible rfl
                                    rotate_left
                                    · simp only [Act.put, List.setIfInBounds_toArray, List.set_cons_zero, List.set_cons_succ, i64_w, i32_w]
                                      rfl
                                    refine pure_ (i := 8) (N := some 62) (v := ?_) (a' := ?_) #[true, true, true, true, true, true, true, true, true, true, false, false] rfl rfl (any_of HT_.out (by kernel_rfl)) (fun _ _ _ h => h) (Or.inl ⟨by rfl, ?_⟩) ?_ ?_
                                    rotate_left
                                    · intro w'
                                      go_simp
                                      with_reducible rfl
                                    rotate_left
                                    · simp only [Act.put, List.setIfInBounds_toArray, List.set_cons_zero, List.set_cons_succ, i64_w, i32_w]
                                      rfl
                                    exact norm_ (by simp only [putAll, Act.put, List.setIfInBounds_toArray, List.set_cons_zero, List.set_cons_succ]) (hCont (gb216) _ ⟨hHeld, (by (with_reducible repeat (first | refine blk_drewN ?_ _ | refine blk_drew ?_ | refine blk_alloc ?_ _)); exact BK207.out), (by (with_reducible repeat (first | refine blk_drewN ?_ _ | refine blk_drew ?_ | refine blk_alloc ?_ _)); exact BK208.out), (by (with_reducible repeat (first | refine blk_drewN ?_ _ | refine blk_drew ?_ | refine blk_alloc ?_ _)); exact BK209.out), (by (with_reducible repeat (first | refine blk_drewN ?_ _ | refine blk_drew ?_ | refine blk_alloc ?_ _)); exact BK216.out), GW216.out, GE216.out, NB207_216.out, NB216_207.out, NB208_216.out, NB216_208.out, NB209_216.out, NB216_209.out, (by repeat (first | (with_reducible first | exact HB.out | apply below_alloc | apply pw_below_drewN | apply below_drew1 | refine below_set ?_ GE207.out | refine below_set ?_ GE208.out | refine below_set ?_ GE209.out | refine below_set ?_ GE216.out) | exact HB.out))⟩)
                                rintro gb216 w61 ⟨hS_, h0_, h1_, h2_, h3_, h4_, h5_, h6_, h7_, h8_, h9_, h10_, h11_, h12_⟩
                                have n0_ : Aside0 (w61.heap[gb207]? = some (.cells #[.bool false, .int .u64 0, .int .u64 (IntKind.u64.wrap (a0))] 24 (0, 0))) := ⟨h0_⟩
                                have n1_ : Aside0 (w61.heap[gb208]? = some (.cells #[.bool false, .int .u64 0, .int .u64 ji16, .int .i64 x1_8] 26 (0, 0))) := ⟨h1_⟩
                                have n2_ : Aside0 (w61.heap[gb209]? = some (.cells #[.bool false, .int .u64 0, .int .u64 ji21, .int .i64 x2_8] 26 (0, 0))) := ⟨h2_⟩
                                have n3_ : Aside0 (w61.heap[gb216]? = some (.cells #[.bool false, .int .u64 0, .int .u64 0] 24 (0, 0))) := ⟨h3_⟩
                                have n4_ : Aside0 (w.heap.size ≤ gb216) := ⟨h4_⟩
                                have n5_ : Aside0 (w.heap.size ≤ gb216) := ⟨h5_⟩
                                have n6_ : Aside0 (gb207 ≠ gb216) := ⟨h6_⟩
                                have n7_ : Aside0 (gb216 ≠ gb207) := ⟨h7_⟩
                                have n8_ : Aside0 (gb208 ≠ gb216) := ⟨h8_⟩
                                have n9_ : Aside0 (gb216 ≠ gb208) := ⟨h9_⟩
                                have n10_ : Aside0 (gb209 ≠ gb216) := ⟨h10_⟩
                                have n11_ : Aside0 (gb216 ≠ gb209) := ⟨h11_⟩
                                have n12_ : Aside0 (Below w.heap.size w w61) := ⟨h12_⟩
                                clear BK207
                                clear BK208
                                clear BK209
                                clear HB
                                clear h0_ h1_ h2_ h3_ h4_ h5_ h6_ h7_ h8_ h9_ h10_ h11_ h12_
                                have BK207 := n0_
                                have BK208 := n1_
                                have BK209 := n2_
                                have BK216 := n3_
                                have GW216 := n4_
                                have GE216 := n5_
                                have NB207_216 := n6_
                                have NB216_207 := n7_
                                have NB208_216 := n8_
                                have NB216_208 := n9_
                                have NB209_216 := n10_
                                have NB216_209 := n11_
                                have HB := n12_
                                clear n0_ n1_ n2_ n3_ n4_ n5_ n6_ n7_ n8_ n9_ n10_ n11_ n12_
                                have hHeld : w61.cell? ⟨gb209, 0, none⟩ = some (.bool false) ∧ w61.cell? ⟨gb209, 1, none⟩ = some (.int .u64 0) ∧ w61.cell? ⟨gb209, 2, none⟩ = some (.int .u64 ji21) ∧ w61.cell? ⟨gb209, 3, none⟩ = some (.int .i64 x2_8) := hS_
                                refine norm_ (a' := ?_) ?_ ?_
                                rotate_left
                                · simp only [putAll, Act.put, List.setIfInBounds_toArray, List.set_cons_zero, List.set_cons_succ]
                                  rfl
                                refine one_ (i := 10) (N := none) #[true, true, true, true, true, true, true, true, true, true, true, false] rfl rfl (one_of HT_.out (by kernel_rfl)) (by decide) (fun K hK => ?_)
                                have hs62 : w61.cell? ⟨gb216, 0, none⟩ = some (.bool false) := (blk_cell BK216.out 0).trans rfl
                                have hfs62 := blk_frozen BK216.out 0
                                have hns62_0 := NB207_216.out
                                have hns62_1 := NB208_216.out
                                have hns62_2 := NB209_216.out
                                have hms62_0 := NB216_207.out
                                have hms62_1 := NB216_208.out
                                have hms62_2 := NB216_209.out
                                have hs63 : w61.cell? ⟨gb216, 1, none⟩ = some (.int .u64 0) := (blk_cell BK216.out 1).trans rfl
                                have hfs63 := blk_frozen BK216.out 1
                                have hns63_0 := NB207_216.out
                                have hns63_1 := NB208_216.out
                                have hns63_2 := NB209_216.out
                                have hms63_0 := NB216_207.out
                                have hms63_1 := NB216_208.out
                                have hms63_2 := NB216_209.out
                                have hs64 : w61.cell? ⟨gb216, 2, none⟩ = some (.int .u64 0) := (blk_cell BK216.out 2).trans rfl
                                have hfs64 := blk_frozen BK216.out 2
                                have hns64_0 := NB207_216.out
                                have hns64_1 := NB208_216.out
                                have hns64_2 := NB209_216.out
                                have hms64_0 := NB216_207.out
                                have hms64_1 := NB216_208.out
                                have hms64_2 := NB216_209.out
                                refine skip_ (w1 := ?_) (by rfl) rfl ?_ ?_
                                rotate_left
                                · go_simp
                                  rfl
                                refine hK.out _ _ ⟨((cell_far (p := ⟨gb216, _, none⟩) NB209_216.out _).trans (((cell_far (p := ⟨gb216, _, none⟩) NB209_216.out _).trans (((cell_far (p := ⟨gb216, _, none⟩) NB209_216.out _).trans (hHeld.1)))))), ((cell_far (p := ⟨gb216, _, none⟩) NB209_216.out _).trans (((cell_far (p := ⟨gb216, _, none⟩) NB209_216.out _).trans (((cell_far (p := ⟨gb216, _, none⟩) NB209_216.out _).trans (hHeld.2.1)))))), ((cell_far (p := ⟨gb216, _, none⟩) NB209_216.out _).trans (((cell_far (p := ⟨gb216, _, none⟩) NB209_216.out _).trans (((cell_far (p := ⟨gb216, _, none⟩) NB209_216.out _).trans (hHeld.2.2.1)))))), ((cell_far (p := ⟨gb216, _, none⟩) NB209_216.out _).trans (((cell_far (p := ⟨gb216, _, none⟩) NB209_216.out _).trans (((cell_far (p := ⟨gb216, _, none⟩) NB209_216.out _).trans (hHeld.2.2.2))))))⟩ (fun hHeld => ?_)
                                clear hK K
                                refine pure_ (i := 11) (N := some 13) (v := ?_) (a' := ?_) #[true, true, true, true, true, true, true, true, true, true, true, true] rfl rfl (any_of HT_.out (by kernel_rfl)) (fun _ _ _ h => h) (Or.inl ⟨by rfl, ?_⟩) ?_ ?_
                                rotate_left
                                · intro w'
                                  go_simp
                                  with_reducible rfl
                                rotate_left
                                · simp only [Act.put, List.setIfInBounds_toArray, List.set_cons_zero, List.set_cons_succ, i64_w, i32_w]
                                  rfl
                                refine done_ (done_of HT_.out (by kernel_rfl)) ?_
                                try go_wp2
                                have n0_ : Aside0 ((((w61.setCell ⟨gb216, 0, none⟩ (.bool t212)).setCell ⟨gb216, 1, none⟩ (.int .u64 t213)).setCell ⟨gb216, 2, none⟩ (.int .u64 t214)).heap[gb207]? = some (.cells #[.bool false, .int .u64 0, .int .u64 (IntKind.u64.wrap (a0))] 24 (0, 0))) := ⟨by (with_reducible repeat (first | refine blk_drewN ?_ _ | refine blk_drew ?_ | refine blk_alloc ?_ _)); refine blk_far ?_ NB207_216.out _; (with_reducible repeat (first | refine blk_drewN ?_ _ | refine blk_drew ?_ | refine blk_alloc ?_ _)); refine blk_far ?_ NB207_216.out _; (with_reducible repeat (first | refine blk_drewN ?_ _ | refine blk_drew ?_ | refine blk_alloc ?_ _)); refine blk_far ?_ NB207_216.out _; (with_reducible repeat (first | refine blk_drewN ?_ _ | refine blk_drew ?_ | refine blk_alloc ?_ _)); exact BK207.out⟩
                                have n1_ : Aside0 ((((w61.setCell ⟨gb216, 0, none⟩ (.bool t212)).setCell ⟨gb216, 1, none⟩ (.int .u64 t213)).setCell ⟨gb216, 2, none⟩ (.int .u64 t214)).heap[gb208]? = some (.cells #[.bool false, .int .u64 0, .int .u64 ji16, .int .i64 x1_8] 26 (0, 0))) := ⟨by (with_reducible repeat (first | refine blk_drewN ?_ _ | refine blk_drew ?_ | refine blk_alloc ?_ _)); refine blk_far ?_ NB208_216.out _; (with_reducible repeat (first | refine blk_drewN ?_ _ | refine blk_drew ?_ | refine blk_alloc ?_ _)); refine blk_far ?_ NB208_216.out _; (with_reducible repeat (first | refine blk_drewN ?_ _ | refine blk_drew ?_ | refine blk_alloc ?_ _)); refine blk_far ?_ NB208_216.out _; (with_reducible repeat (first | refine blk_drewN ?_ _ | refine blk_drew ?_ | refine blk_alloc ?_ _)); exact BK208.out⟩
                                have n2_ : Aside0 ((((w61.setCell ⟨gb216, 0, none⟩ (.bool t212)).setCell ⟨gb216, 1, none⟩ (.int .u64 t213)).setCell ⟨gb216, 2, none⟩ (.int .u64 t214)).heap[gb209]? = some (.cells #[.bool false, .int .u64 0, .int .u64 ji21, .int .i64 x2_8] 26 (0, 0))) := ⟨by (with_reducible repeat (first | refine blk_drewN ?_ _ | refine blk_drew ?_ | refine blk_alloc ?_ _)); refine blk_far ?_ NB209_216.out _; (with_reducible repeat (first | refine blk_drewN ?_ _ | refine blk_drew ?_ | refine blk_alloc ?_ _)); refine blk_far ?_ NB209_216.out _; (with_reducible repeat (first | refine blk_drewN ?_ _ | refine blk_drew ?_ | refine blk_alloc ?_ _)); refine blk_far ?_ NB209_216.out _; (with_reducible repeat (first | refine blk_drewN ?_ _ | refine blk_drew ?_ | refine blk_alloc ?_ _)); exact BK209.out⟩
                                have n3_ : Aside0 ((((w61.setCell ⟨gb216, 0, none⟩ (.bool t212)).setCell ⟨gb216, 1, none⟩ (.int .u64 t213)).setCell ⟨gb216, 2, none⟩ (.int .u64 t214)).heap[gb216]? = some (.cells #[.bool t212, .int .u64 t213, .int .u64 t214] 24 (0, 0))) := ⟨by (with_reducible repeat (first | refine blk_drewN ?_ _ | refine blk_drew ?_ | refine blk_alloc ?_ _)); refine blk_put (cs := #[.bool t212, .int .u64 t213, .int .u64 0]) ?_ 2 _ rfl; (with_reducible repeat (first | refine blk_drewN ?_ _ | refine blk_drew ?_ | refine blk_alloc ?_ _)); refine blk_put (cs := #[.bool t212, .int .u64 0, .int .u64 0]) ?_ 1 _ rfl; (with_reducible repeat (first | refine blk_drewN ?_ _ | refine blk_drew ?_ | refine blk_alloc ?_ _)); refine blk_put (cs := #[.bool false, .int .u64 0, .int .u64 0]) ?_ 0 _ rfl; (with_reducible repeat (first | refine blk_drewN ?_ _ | refine blk_drew ?_ | refine blk_alloc ?_ _)); exact BK216.out⟩
                                have n4_ : Aside0 (Below w.heap.size w (((w61.setCell ⟨gb216, 0, none⟩ (.bool t212)).setCell ⟨gb216, 1, none⟩ (.int .u64 t213)).setCell ⟨gb216, 2, none⟩ (.int .u64 t214))) := ⟨by repeat (first | (with_reducible first | exact HB.out | apply below_alloc | apply pw_below_drewN | apply below_drew1 | refine below_set ?_ GE207.out | refine below_set ?_ GE208.out | refine below_set ?_ GE209.out | refine below_set ?_ GE216.out) | exact HB.out)⟩
                                (try clear BK207)
                                (try clear BK208)
                                (try clear BK209)
                                (try clear BK216)
                                (try clear HB)
                                (try (repeat rw [setCell_drewN_]))
                                generalize (((w61.setCell ⟨gb216, 0, none⟩ (.bool t212)).setCell ⟨gb216, 1, none⟩ (.int .u64 t213)).setCell ⟨gb216, 2, none⟩ (.int .u64 t214)) = w65 at n0_ n1_ n2_ n3_ n4_ ⊢
                                have BK207 := n0_
                                have BK208 := n1_
                                have BK209 := n2_
                                have BK216 := n3_
                                have HB := n4_
                                clear n0_ n1_ n2_ n3_ n4_
                                have n0_ := Aside0.mk (blk_drew BK207.out)
                                have n1_ := Aside0.mk (blk_drew BK208.out)
                                have n2_ := Aside0.mk (blk_drew BK209.out)
                                have n3_ := Aside0.mk (blk_drew BK216.out)
                                have n4_ := Aside0.mk (below_drew1 HB.out)
                                clear BK207
                                clear BK208
                                clear BK209
                                clear BK216
                                clear HB
                                have BK207 := n0_
                                have BK208 := n1_
                                have BK209 := n2_
                                have BK216 := n3_
                                have HB := n4_
                                clear n0_ n1_ n2_ n3_ n4_
                                refine start_ (n := 60) (S := fun w' => w'.cell? ⟨gb208, 0, none⟩ = some (.bool false) ∧ w'.cell? ⟨gb208, 1, none⟩ = some (.int .u64 0) ∧ w'.cell? ⟨gb208, 2, none⟩ = some (.int .u64 ji16) ∧ w'.cell? ⟨gb208, 3, none⟩ = some (.int .i64 x1_8) ∧ w'.cell? ⟨gb209, 0, none⟩ = some (.bool false) ∧ w'.cell? ⟨gb209, 1, none⟩ = some (.int .u64 0) ∧ w'.cell? ⟨gb209, 2, none⟩ = some (.int .u64 ji21) ∧ w'.cell? ⟨gb209, 3, none⟩ = some (.int .i64 x2_8) ∧ w'.cell? ⟨gb207, 0, none⟩ = some (.bool false) ∧ w'.cell? ⟨gb207, 1, none⟩ = some (.int .u64 0) ∧ w'.cell? ⟨gb207, 2, none⟩ = some (.int .u64 (IntKind.u64.wrap (a0))) ∧ w'.cell? ⟨gb216, 0, none⟩ = some (.bool t212) ∧ w'.cell? ⟨gb216, 1, none⟩ = some (.int .u64 t213) ∧ w'.cell? ⟨gb216, 2, none⟩ = some (.int .u64 t214)) (ds := []) #[false, false, false, false, false, false, false, false, false, false, false, false, false, false, false, false, false, false, false, false, false, false, false, false, false, false, false, false, false, false, false, false, false, false, false, false, false, false, false, false, false, false, false, false, false, false, false, false, false, false, false, false, false, false, false, false, false, false, false, false] (by kernel_rfl) rfl rfl ⟨(blk_cell BK208.out 0).trans rfl, (blk_cell BK208.out 1).trans rfl, (blk_cell BK208.out 2).trans rfl, (blk_cell BK208.out 3).trans rfl, (blk_cell BK209.out 0).trans rfl, (blk_cell BK209.out 1).trans rfl, (blk_cell BK209.out 2).trans rfl, (blk_cell BK209.out 3).trans rfl, (blk_cell BK207.out 0).trans rfl, (blk_cell BK207.out 1).trans rfl, (blk_cell BK207.out 2).trans rfl, (blk_cell BK216.out 0).trans rfl, (blk_cell BK216.out 1).trans rfl, (blk_cell BK216.out 2).trans rfl⟩ (fun hHeld => ?_); refine with_tabW nameplatelaw05_RangesNest.tab10 nameplatelaw05_RangesNest.bits10 (fun HT_ HW_ => ?_)
                                generalize w65.drew = w66 at BK207 BK208 BK209 BK216 HB hHeld ⊢
                                refine take_ (i := 0) (N := some 63) (v := ?_) (a' := ?_) #[true, false, false, false, false, false, false, false, false, false, false, false, false, false, false, false, false, false, false, false, false, false, false, false, false, false, false, false, false, false, false, false, false, false, false, false, false, false, false, false, false, false, false, false, false, false, false, false, false, false, false, false, false, false, false, false, false, false, false, false] rfl rfl (take_ofW HT_.out HW_.out (by kernel_rfl)) (fun _ _ _ h => h) (Or.inl ⟨by rfl, ?_⟩) hHeld ?_ ?_
                                rotate_left
                                · rintro w' ⟨s0, s1, s2, s3, s4, s5, s6, s7, s8, s9, s10, s11, s12, s13⟩
                                  go_simp
                                  with_reducible rfl
                                rotate_left
                                · simp only [Act.put, List.setIfInBounds_toArray, List.set_cons_zero, List.set_cons_succ, i64_w, i32_w]
                                  rfl
                                refine one_ (i := 1) (N := some 64) #[true, true, false, false, false, false, false, false, false, false, false, false, false, false, false, false, false, false, false, false, false, false, false, false, false, false, false, false, false, false, false, false, false, false, false, false, false, false, false, false, false, false, false, false, false, false, false, false, false, false, false, false, false, false, false, false, false, false, false, false] rfl rfl (one_of HT_.out (by kernel_rfl)) (by decide) (fun K hK => ?_)
                                refine goes_ Tryz.func19 (by kernel_rfl) rfl #[.agg #[.bool false, .int .u64 0, .int .u64 ji16, .int .i64 x1_8]] (by rfl) rfl rfl (by (try simp only [List.map_toArray, List.map_cons, List.map_nil]); first | done | (simp only [hji16]; rfl) | rfl | (simp only [List.length_drop, List.length_take]; rfl)) ?_
                                with_reducible refine (ranges_Check.calls false 0 ji16 x1_8 t217 _ A25.out).mono ?_
                                rintro e w67 ⟨rfl, hb⟩
                                refine ⟨_, rfl, ?_⟩
                                have n0_ := Aside0.mk (blk_below (g := gb207) (o := .cells #[.bool false, .int .u64 0, .int .u64 (IntKind.u64.wrap (a0))] 24 (0, 0)) (by (with_reducible repeat (first | refine blk_drewN ?_ _ | refine blk_drew ?_ | refine blk_alloc ?_ _)); exact BK207.out) hb)
                                have n1_ := Aside0.mk (blk_below (g := gb208) (o := .cells #[.bool false, .int .u64 0, .int .u64 ji16, .int .i64 x1_8] 26 (0, 0)) (by (with_reducible repeat (first | refine blk_drewN ?_ _ | refine blk_drew ?_ | refine blk_alloc ?_ _)); exact BK208.out) hb)
                                have n2_ := Aside0.mk (blk_below (g := gb209) (o := .cells #[.bool false, .int .u64 0, .int .u64 ji21, .int .i64 x2_8] 26 (0, 0)) (by (with_reducible repeat (first | refine blk_drewN ?_ _ | refine blk_drew ?_ | refine blk_alloc ?_ _)); exact BK209.out) hb)
                                have n3_ := Aside0.mk (blk_below (g := gb216) (o := .cells #[.bool t212, .int .u64 t213, .int .u64 t214] 24 (0, 0)) (by (with_reducible repeat (first | refine blk_drewN ?_ _ | refine blk_drew ?_ | refine blk_alloc ?_ _)); exact BK216.out) hb)
                                have n4_ := Aside0.mk (below_step (by repeat (first | (with_reducible first | exact HB.out | apply below_alloc | apply pw_below_drewN | apply below_drew1 | refine below_set ?_ GE207.out | refine below_set ?_ GE208.out | refine below_set ?_ GE209.out | refine below_set ?_ GE216.out) | exact HB.out)) hb)
                                clear BK207
                                clear BK208
                                clear BK209
                                clear BK216
                                clear HB
                                have BK207 := n0_
                                have BK208 := n1_
                                have BK209 := n2_
                                have BK216 := n3_
                                have HB := n4_
                                clear n0_ n1_ n2_ n3_ n4_
                                (try clear hb)
                                (try clear hb2)
                                (try clear hk)
                                (try clear hi)
                                refine hK.out _ _ ⟨(blk_cell BK208.out 0).trans rfl, (blk_cell BK208.out 1).trans rfl, (blk_cell BK208.out 2).trans rfl, (blk_cell BK208.out 3).trans rfl, (blk_cell BK209.out 0).trans rfl, (blk_cell BK209.out 1).trans rfl, (blk_cell BK209.out 2).trans rfl, (blk_cell BK209.out 3).trans rfl, (blk_cell BK207.out 0).trans rfl, (blk_cell BK207.out 1).trans rfl, (blk_cell BK207.out 2).trans rfl, (blk_cell BK216.out 0).trans rfl, (blk_cell BK216.out 1).trans rfl, (blk_cell BK216.out 2).trans rfl⟩ (fun hHeld => ?_)
                                clear hK K
                                refine norm_ (a' := ?_) ?_ ?_
                                rotate_left
                                · show Act.put _ (some 64) _ = _
                                  simp only [Act.put, List.setIfInBounds_toArray, List.set_cons_zero, List.set_cons_succ, i64_w, i32_w]
                                  rfl
                                refine pure_ (i := 2) (N := some 65) (v := ?_) (a' := ?_) #[true, true, true, false, false, false, false, false, false, false, false, false, false, false, false, false, false, false, false, false, false, false, false, false, false, false, false, false, false, false, false, false, false, false, false, false, false, false, false, false, false, false, false, false, false, false, false, false, false, false, false, false, false, false, false, false, false, false, false, false] rfl rfl (any_of HT_.out (by kernel_rfl)) (fun _ _ _ h => h) (Or.inl ⟨by rfl, ?_⟩) ?_ ?_
                                rotate_left
                                · intro w'
                                  go_simp
                                  with_reducible rfl
                                rotate_left
                                · simp only [Act.put, List.setIfInBounds_toArray, List.set_cons_zero, List.set_cons_succ, i64_w, i32_w]
                                  rfl
                                refine pure_ (i := 3) (N := some 66) (v := ?_) (a' := ?_) #[true, true, true, true, false, false, false, false, false, false, false, false, false, false, false, false, false, false, false, false, false, false, false, false, false, false, false, false, false, false, false, false, false, false, false, false, false, false, false, false, false, false, false, false, false, false, false, false, false, false, false, false, false, false, false, false, false, false, false, false] rfl rfl (any_of HT_.out (by kernel_rfl)) (fun _ _ _ h => h) (Or.inl ⟨by rfl, ?_⟩) ?_ ?_
                                rotate_left
                                · intro w'
                                  go_simp
                                  with_reducible rfl
                                rotate_left
                                · simp only [Act.put, List.setIfInBounds_toArray, List.set_cons_zero, List.set_cons_succ, i64_w, i32_w]
                                  rfl
                                refine take_ (i := 4) (N := some 67) (v := ?_) (a' := ?_) #[true, true, true, true, true, false, false, false, false, false, false, false, false, false, false, false, false, false, false, false, false, false, false, false, false, false, false, false, false, false, false, false, false, false, false, false, false, false, false, false, false, false, false, false, false, false, false, false, false, false, false, false, false, false, false, false, false, false, false, false] rfl rfl (take_ofW HT_.out HW_.out (by kernel_rfl)) (fun _ _ _ h => h) (Or.inl ⟨by rfl, ?_⟩) hHeld ?_ ?_
                                rotate_left
                                · rintro w' ⟨s0, s1, s2, s3, s4, s5, s6, s7, s8, s9, s10, s11, s12, s13⟩
                                  go_simp
                                  with_reducible rfl
                                rotate_left
                                · simp only [Act.put, List.setIfInBounds_toArray, List.set_cons_zero, List.set_cons_succ, i64_w, i32_w]
                                  rfl
                                refine one_ (i := 5) (N := some 68) #[true, true, true, true, true, true, false, false, false, false, false, false, false, false, false, false, false, false, false, false, false, false, false, false, false, false, false, false, false, false, false, false, false, false, false, false, false, false, false, false, false, false, false, false, false, false, false, false, false, false, false, false, false, false, false, false, false, false, false, false] rfl rfl (one_of HT_.out (by kernel_rfl)) (by decide) (fun K hK => ?_)
                                refine goes_ Tryz.func19 (by kernel_rfl) rfl #[.agg #[.bool false, .int .u64 0, .int .u64 ji21, .int .i64 x2_8]] (by rfl) rfl rfl (by (try simp only [List.map_toArray, List.map_cons, List.map_nil]); first | done | (simp only [hji21]; rfl) | rfl | (simp only [List.length_drop, List.length_take]; rfl)) ?_
                                with_reducible refine (ranges_Check.calls false 0 ji21 x2_8 t218 _ A27.out).mono ?_
                                rintro e w68 ⟨rfl, hb⟩
                                refine ⟨_, rfl, ?_⟩
                                have n0_ := Aside0.mk (blk_below (g := gb207) (o := .cells #[.bool false, .int .u64 0, .int .u64 (IntKind.u64.wrap (a0))] 24 (0, 0)) (by (with_reducible repeat (first | refine blk_drewN ?_ _ | refine blk_drew ?_ | refine blk_alloc ?_ _)); exact BK207.out) hb)
                                have n1_ := Aside0.mk (blk_below (g := gb208) (o := .cells #[.bool false, .int .u64 0, .int .u64 ji16, .int .i64 x1_8] 26 (0, 0)) (by (with_reducible repeat (first | refine blk_drewN ?_ _ | refine blk_drew ?_ | refine blk_alloc ?_ _)); exact BK208.out) hb)
                                have n2_ := Aside0.mk (blk_below (g := gb209) (o := .cells #[.bool false, .int .u64 0, .int .u64 ji21, .int .i64 x2_8] 26 (0, 0)) (by (with_reducible repeat (first | refine blk_drewN ?_ _ | refine blk_drew ?_ | refine blk_alloc ?_ _)); exact BK209.out) hb)
                                have n3_ := Aside0.mk (blk_below (g := gb216) (o := .cells #[.bool t212, .int .u64 t213, .int .u64 t214] 24 (0, 0)) (by (with_reducible repeat (first | refine blk_drewN ?_ _ | refine blk_drew ?_ | refine blk_alloc ?_ _)); exact BK216.out) hb)
                                have n4_ := Aside0.mk (below_step (by repeat (first | (with_reducible first | exact HB.out | apply below_alloc | apply pw_below_drewN | apply below_drew1 | refine below_set ?_ GE207.out | refine below_set ?_ GE208.out | refine below_set ?_ GE209.out | refine below_set ?_ GE216.out) | exact HB.out)) hb)
                                clear BK207
                                clear BK208
                                clear BK209
                                clear BK216
                                clear HB
                                have BK207 := n0_
                                have BK208 := n1_
                                have BK209 := n2_
                                have BK216 := n3_
                                have HB := n4_
                                clear n0_ n1_ n2_ n3_ n4_
                                (try clear hb)
                                (try clear hb2)
                                (try clear hk)
                                (try clear hi)
                                refine hK.out _ _ ⟨(blk_cell BK208.out 0).trans rfl, (blk_cell BK208.out 1).trans rfl, (blk_cell BK208.out 2).trans rfl, (blk_cell BK208.out 3).trans rfl, (blk_cell BK209.out 0).trans rfl, (blk_cell BK209.out 1).trans rfl, (blk_cell BK209.out 2).trans rfl, (blk_cell BK209.out 3).trans rfl, (blk_cell BK207.out 0).trans rfl, (blk_cell BK207.out 1).trans rfl, (blk_cell BK207.out 2).trans rfl, (blk_cell BK216.out 0).trans rfl, (blk_cell BK216.out 1).trans rfl, (blk_cell BK216.out 2).trans rfl⟩ (fun hHeld => ?_)
                                clear hK K
                                refine norm_ (a' := ?_) ?_ ?_
                                rotate_left
                                · show Act.put _ (some 68) _ = _
                                  simp only [Act.put, List.setIfInBounds_toArray, List.set_cons_zero, List.set_cons_succ, i64_w, i32_w]
                                  rfl
                                refine pure_ (i := 6) (N := some 69) (v := ?_) (a' := ?_) #[true, true, true, true, true, true, true, false, false, false, false, false, false, false, false, false, false, false, false, false, false, false, false, false, false, false, false, false, false, false, false, false, false, false, false, false, false, false, false, false, false, false, false, false, false, false, false, false, false, false, false, false, false, false, false, false, false, false, false, false] rfl rfl (any_of HT_.out (by kernel_rfl)) (fun _ _ _ h => h) (Or.inl ⟨by rfl, ?_⟩) ?_ ?_
                                rotate_left
                                · intro w'
                                  go_simp
                                  with_reducible rfl
                                rotate_left
                                · simp only [Act.put, List.setIfInBounds_toArray, List.set_cons_zero, List.set_cons_succ, i64_w, i32_w]
                                  rfl
                                refine pure_ (i := 7) (N := some 70) (v := ?_) (a' := ?_) #[true, true, true, true, true, true, true, true, false, false, false, false, false, false, false, false, false, false, false, false, false, false, false, false, false, false, false, false, false, false, false, false, false, false, false, false, false, false, false, false, false, false, false, false, false, false, false, false, false, false, false, false, false, false, false, false, false, false, false, false] rfl rfl (any_of HT_.out (by kernel_rfl)) (fun _ _ _ h => h) (Or.inl ⟨by rfl, ?_⟩) ?_ ?_
                                rotate_left
                                · intro w'
                                  go_simp
                                  with_reducible rfl
                                rotate_left
                                · simp only [Act.put, List.setIfInBounds_toArray, List.set_cons_zero, List.set_cons_succ, i64_w, i32_w]
                                  rfl
                                refine pure_ (i := 8) (N := some 71) (v := ?_) (a' := ?_) #[true, true, true, true, true, true, true, true, true, false, false, false, false, false, false, false, false, false, false, false, false, false, false, false, false, false, false, false, false, false, false, false, false, false, false, false, false, false, false, false, false, false, false, false, false, false, false, false, false, false, false, false, false, false, false, false, false, false, false, false] rfl rfl (any_of HT_.out (by kernel_rfl)) (fun _ _ _ h => h) (Or.inl ⟨by rfl, ?_⟩) ?_ ?_
                                rotate_left
                                · intro w'
                                  go_simp
                                  with_reducible rfl
                                rotate_left
                                · simp only [Act.put, List.setIfInBounds_toArray, List.set_cons_zero, List.set_cons_succ, i64_w, i32_w]
                                  rfl
                                refine take_ (i := 9) (N := some 72) (v := ?_) (a' := ?_) #[true, true, true, true, true, true, true, true, true, true, false, false, false, false, false, false, false, false, false, false, false, false, false, false, false, false, false, false, false, false, false, false, false, false, false, false, false, false, false, false, false, false, false, false, false, false, false, false, false, false, false, false, false, false, false, false, false, false, false, false] rfl rfl (take_ofW HT_.out HW_.out (by kernel_rfl)) (fun _ _ _ h => h) (Or.inl ⟨by rfl, ?_⟩) hHeld ?_ ?_
                                rotate_left
                                · rintro w' ⟨s0, s1, s2, s3, s4, s5, s6, s7, s8, s9, s10, s11, s12, s13⟩
                                  go_simp
                                  with_reducible rfl
                                rotate_left
                                · simp only [Act.put, List.setIfInBounds_toArray, List.set_cons_zero, List.set_cons_succ, i64_w, i32_w]
                                  rfl
                                refine take_ (i := 10) (N := some 73) (v := ?_) (a' := ?_) #[true, true, true, true, true, true, true, true, true, true, true, false, false, false, false, false, false, false, false, false, false, false, false, false, false, false, false, false, false, false, false, false, false, false, false, false, false, false, false, false, false, false, false, false, false, false, false, false, false, false, false, false, false, false, false, false, false, false, false, false] rfl rfl (take_ofW HT_.out HW_.out (by kernel_rfl)) (fun _ _ _ h => h) (Or.inl ⟨by rfl, ?_⟩) hHeld ?_ ?_
                                rotate_left
                                · rintro w' ⟨s0, s1, s2, s3, s4, s5, s6, s7, s8, s9, s10, s11, s12, s13⟩
                                  go_simp
                                  with_reducible rfl
                                rotate_left
                                · simp only [Act.put, List.setIfInBounds_toArray, List.set_cons_zero, List.set_cons_succ, i64_w, i32_w]
                                  rfl
                                refine one_ (i := 11) (N := some 74) #[true, true, true, true, true, true, true, true, true, true, true, true, false, false, false, false, false, false, false, false, false, false, false, false, false, false, false, false, false, false, false, false, false, false, false, false, false, false, false, false, false, false, false, false, false, false, false, false, false, false, false, false, false, false, false, false, false, false, false, false] rfl rfl (one_of HT_.out (by kernel_rfl)) (by decide) (fun K hK => ?_)
                                refine goes_ Tryz.func14 (by kernel_rfl) rfl #[.agg #[.bool false, .int .u64 0, .int .u64 ji16, .int .i64 x1_8], .agg #[.bool false, .int .u64 0, .int .u64 (IntKind.u64.wrap (a0))]] (by rfl) rfl rfl (by (try simp only [List.map_toArray, List.map_cons, List.map_nil]); first | done | (simp only [hji16]; rfl) | rfl | (simp only [List.length_drop, List.length_take]; rfl)) ?_
                                with_reducible refine (ranges_Has.calls false 0 ji16 x1_8 false 0 (IntKind.u64.wrap (a0)) true _ A29.out).mono ?_
                                rintro e w69 ⟨rfl, hb⟩
                                refine ⟨_, rfl, ?_⟩
                                have n0_ := Aside0.mk (blk_below (g := gb207) (o := .cells #[.bool false, .int .u64 0, .int .u64 (IntKind.u64.wrap (a0))] 24 (0, 0)) (by (with_reducible repeat (first | refine blk_drewN ?_ _ | refine blk_drew ?_ | refine blk_alloc ?_ _)); exact BK207.out) hb)
                                have n1_ := Aside0.mk (blk_below (g := gb208) (o := .cells #[.bool false, .int .u64 0, .int .u64 ji16, .int .i64 x1_8] 26 (0, 0)) (by (with_reducible repeat (first | refine blk_drewN ?_ _ | refine blk_drew ?_ | refine blk_alloc ?_ _)); exact BK208.out) hb)
                                have n2_ := Aside0.mk (blk_below (g := gb209) (o := .cells #[.bool false, .int .u64 0, .int .u64 ji21, .int .i64 x2_8] 26 (0, 0)) (by (with_reducible repeat (first | refine blk_drewN ?_ _ | refine blk_drew ?_ | refine blk_alloc ?_ _)); exact BK209.out) hb)
                                have n3_ := Aside0.mk (blk_below (g := gb216) (o := .cells #[.bool t212, .int .u64 t213, .int .u64 t214] 24 (0, 0)) (by (with_reducible repeat (first | refine blk_drewN ?_ _ | refine blk_drew ?_ | refine blk_alloc ?_ _)); exact BK216.out) hb)
                                have n4_ := Aside0.mk (below_step (by repeat (first | (with_reducible first | exact HB.out | apply below_alloc | apply pw_below_drewN | apply below_drew1 | refine below_set ?_ GE207.out | refine below_set ?_ GE208.out | refine below_set ?_ GE209.out | refine below_set ?_ GE216.out) | exact HB.out)) hb)
                                clear BK207
                                clear BK208
                                clear BK209
                                clear BK216
                                clear HB
                                have BK207 := n0_
                                have BK208 := n1_
                                have BK209 := n2_
                                have BK216 := n3_
                                have HB := n4_
                                clear n0_ n1_ n2_ n3_ n4_
                                (try clear hb)
                                (try clear hb2)
                                (try clear hk)
                                (try clear hi)
                                refine hK.out _ _ ⟨(blk_cell BK208.out 0).trans rfl, (blk_cell BK208.out 1).trans rfl, (blk_cell BK208.out 2).trans rfl, (blk_cell BK208.out 3).trans rfl, (blk_cell BK209.out 0).trans rfl, (blk_cell BK209.out 1).trans rfl, (blk_cell BK209.out 2).trans rfl, (blk_cell BK209.out 3).trans rfl, (blk_cell BK207.out 0).trans rfl, (blk_cell BK207.out 1).trans rfl, (blk_cell BK207.out 2).trans rfl, (blk_cell BK216.out 0).trans rfl, (blk_cell BK216.out 1).trans rfl, (blk_cell BK216.out 2).trans rfl⟩ (fun hHeld => ?_)
                                clear hK K
                                refine norm_ (a' := ?_) ?_ ?_
                                rotate_left
                                · show Act.put _ (some 74) _ = _
                                  simp only [Act.put, List.setIfInBounds_toArray, List.set_cons_zero, List.set_cons_succ, i64_w, i32_w]
                                  rfl
                                refine pure_ (i := 12) (N := some 75) (v := ?_) (a' := ?_) #[true, true, true, true, true, true, true, true, true, true, true, true, true, false, false, false, false, false, false, false, false, false, false, false, false, false, false, false, false, false, false, false, false, false, false, false, false, false, false, false, false, false, false, false, false, false, false, false, false, false, false, false, false, false, false, false, false, false, false, false] rfl rfl (any_of HT_.out (by kernel_rfl)) (fun _ _ _ h => h) (Or.inl ⟨by rfl, ?_⟩) ?_ ?_
                                rotate_left
                                · intro w'
                                  go_simp
                                  with_reducible rfl
                                rotate_left
                                · simp only [Act.put, List.setIfInBounds_toArray, List.set_cons_zero, List.set_cons_succ, i64_w, i32_w]
                                  rfl
                                refine pure_ (i := 13) (N := some 76) (v := ?_) (a' := ?_) #[true, true, true, true, true, true, true, true, true, true, true, true, true, true, false, false, false, false, false, false, false, false, false, false, false, false, false, false, false, false, false, false, false, false, false, false, false, false, false, false, false, false, false, false, false, false, false, false, false, false, false, false, false, false, false, false, false, false, false, false] rfl rfl (any_of HT_.out (by kernel_rfl)) (fun _ _ _ h => h) (Or.inl ⟨by rfl, ?_⟩) ?_ ?_
                                rotate_left
                                · intro w'
                                  go_simp
                                  with_reducible rfl
                                rotate_left
                                · simp only [Act.put, List.setIfInBounds_toArray, List.set_cons_zero, List.set_cons_succ, i64_w, i32_w]
                                  rfl
                                refine take_ (i := 14) (N := some 77) (v := ?_) (a' := ?_) #[true, true, true, true, true, true, true, true, true, true, true, true, true, true, true, false, false, false, false, false, false, false, false, false, false, false, false, false, false, false, false, false, false, false, false, false, false, false, false, false, false, false, false, false, false, false, false, false, false, false, false, false, false, false, false, false, false, false, false, false] rfl rfl (take_ofW HT_.out HW_.out (by kernel_rfl)) (fun _ _ _ h => h) (Or.inl ⟨by rfl, ?_⟩) hHeld ?_ ?_
                                rotate_left
                                · rintro w' ⟨s0, s1, s2, s3, s4, s5, s6, s7, s8, s9, s10, s11, s12, s13⟩
                                  go_simp
                                  with_reducible rfl
                                rotate_left
                                · simp only [Act.put, List.setIfInBounds_toArray, List.set_cons_zero, List.set_cons_succ, i64_w, i32_w]
                                  rfl
                                refine take_ (i := 15) (N := some 78) (v := ?_) (a' := ?_) #[true, true, true, true, true, true, true, true, true, true, true, true, true, true, true, true, false, false, false, false, false, false, false, false, false, false, false, false, false, false, false, false, false, false, false, false, false, false, false, false, false, false, false, false, false, false, false, false, false, false, false, false, false, false, false, false, false, false, false, false] rfl rfl (take_ofW HT_.out HW_.out (by kernel_rfl)) (fun _ _ _ h => h) (Or.inl ⟨by rfl, ?_⟩) hHeld ?_ ?_
                                rotate_left
                                · rintro w' ⟨s0, s1, s2, s3, s4, s5, s6, s7, s8, s9, s10, s11, s12, s13⟩
                                  go_simp
                                  with_reducible rfl
                                rotate_left
                                · simp only [Act.put, List.setIfInBounds_toArray, List.set_cons_zero, List.set_cons_succ, i64_w, i32_w]
                                  rfl
                                refine one_ (i := 16) (N := some 79) #[true, true, true, true, true, true, true, true, true, true, true, true, true, true, true, true, true, false, false, false, false, false, false, false, false, false, false, false, false, false, false, false, false, false, false, false, false, false, false, false, false, false, false, false, false, false, false, false, false, false, false, false, false, false, false, false, false, false, false, false] rfl rfl (one_of HT_.out (by kernel_rfl)) (by decide) (fun K hK => ?_)
                                refine goes_ Tryz.func14 (by kernel_rfl) rfl #[.agg #[.bool false, .int .u64 0, .int .u64 ji21, .int .i64 x2_8], .agg #[.bool false, .int .u64 0, .int .u64 (IntKind.u64.wrap (a0))]] (by rfl) rfl rfl (by (try simp only [List.map_toArray, List.map_cons, List.map_nil]); first | done | (simp only [hji21]; rfl) | rfl | (simp only [List.length_drop, List.length_take]; rfl)) ?_
                                with_reducible refine (ranges_Has.calls false 0 ji21 x2_8 false 0 (IntKind.u64.wrap (a0)) true _ A31.out).mono ?_
                                rintro e w70 ⟨rfl, hb⟩
                                refine ⟨_, rfl, ?_⟩
                                have n0_ := Aside0.mk (blk_below (g := gb207) (o := .cells #[.bool false, .int .u64 0, .int .u64 (IntKind.u64.wrap (a0))] 24 (0, 0)) (by (with_reducible repeat (first | refine blk_drewN ?_ _ | refine blk_drew ?_ | refine blk_alloc ?_ _)); exact BK207.out) hb)
                                have n1_ := Aside0.mk (blk_below (g := gb208) (o := .cells #[.bool false, .int .u64 0, .int .u64 ji16, .int .i64 x1_8] 26 (0, 0)) (by (with_reducible repeat (first | refine blk_drewN ?_ _ | refine blk_drew ?_ | refine blk_alloc ?_ _)); exact BK208.out) hb)
                                have n2_ := Aside0.mk (blk_below (g := gb209) (o := .cells #[.bool false, .int .u64 0, .int .u64 ji21, .int .i64 x2_8] 26 (0, 0)) (by (with_reducible repeat (first | refine blk_drewN ?_ _ | refine blk_drew ?_ | refine blk_alloc ?_ _)); exact BK209.out) hb)
                                have n3_ := Aside0.mk (blk_below (g := gb216) (o := .cells #[.bool t212, .int .u64 t213, .int .u64 t214] 24 (0, 0)) (by (with_reducible repeat (first | refine blk_drewN ?_ _ | refine blk_drew ?_ | refine blk_alloc ?_ _)); exact BK216.out) hb)
                                have n4_ := Aside0.mk (below_step (by repeat (first | (with_reducible first | exact HB.out | apply below_alloc | apply pw_below_drewN | apply below_drew1 | refine below_set ?_ GE207.out | refine below_set ?_ GE208.out | refine below_set ?_ GE209.out | refine below_set ?_ GE216.out) | exact HB.out)) hb)
                                clear BK207
                                clear BK208
                                clear BK209
                                clear BK216
                                clear HB
                                have BK207 := n0_
                                have BK208 := n1_
                                have BK209 := n2_
                                have BK216 := n3_
                                have HB := n4_
                                clear n0_ n1_ n2_ n3_ n4_
                                (try clear hb)
                                (try clear hb2)
                                (try clear hk)
                                (try clear hi)
                                refine hK.out _ _ ⟨(blk_cell BK208.out 0).trans rfl, (blk_cell BK208.out 1).trans rfl, (blk_cell BK208.out 2).trans rfl, (blk_cell BK208.out 3).trans rfl, (blk_cell BK209.out 0).trans rfl, (blk_cell BK209.out 1).trans rfl, (blk_cell BK209.out 2).trans rfl, (blk_cell BK209.out 3).trans rfl, (blk_cell BK207.out 0).trans rfl, (blk_cell BK207.out 1).trans rfl, (blk_cell BK207.out 2).trans rfl, (blk_cell BK216.out 0).trans rfl, (blk_cell BK216.out 1).trans rfl, (blk_cell BK216.out 2).trans rfl⟩ (fun hHeld => ?_)
                                clear hK K
                                refine norm_ (a' := ?_) ?_ ?_
                                rotate_left
                                · show Act.put _ (some 79) _ = _
                                  simp only [Act.put, List.setIfInBounds_toArray, List.set_cons_zero, List.set_cons_succ, i64_w, i32_w]
                                  rfl
                                refine pure_ (i := 17) (N := some 80) (v := ?_) (a' := ?_) #[true, true, true, true, true, true, true, true, true, true, true, true, true, true, true, true, true, true, false, false, false, false, false, false, false, false, false, false, false, false, false, false, false, false, false, false, false, false, false, false, false, false, false, false, false, false, false, false, false, false, false, false, false, false, false, false, false, false, false, false] rfl rfl (any_of HT_.out (by kernel_rfl)) (fun _ _ _ h => h) (Or.inl ⟨by rfl, ?_⟩) ?_ ?_
                                rotate_left
                                · intro w'
                                  go_simp
                                  with_reducible rfl
                                rotate_left
                                · simp only [Act.put, List.setIfInBounds_toArray, List.set_cons_zero, List.set_cons_succ, i64_w, i32_w]
                                  rfl
                                refine pure_ (i := 18) (N := some 81) (v := ?_) (a' := ?_) #[true, true, true, true, true, true, true, true, true, true, true, true, true, true, true, true, true, true, true, false, false, false, false, false, false, false, false, false, false, false, false, false, false, false, false, false, false, false, false, false, false, false, false, false, false, false, false, false, false, false, false, false, false, false, false, false, false, false, false, false] rfl rfl (any_of HT_.out (by kernel_rfl)) (fun _ _ _ h => h) (Or.inl ⟨by rfl, ?_⟩) ?_ ?_
                                rotate_left
                                · intro w'
                                  go_simp
                                  with_reducible rfl
                                rotate_left
                                · simp only [Act.put, List.setIfInBounds_toArray, List.set_cons_zero, List.set_cons_succ, i64_w, i32_w]
                                  rfl
                                refine pure_ (i := 19) (N := some 82) (v := ?_) (a' := ?_) #[true, true, true, true, true, true, true, true, true, true, true, true, true, true, true, true, true, true, true, true, false, false, false, false, false, false, false, false, false, false, false, false, false, false, false, false, false, false, false, false, false, false, false, false, false, false, false, false, false, false, false, false, false, false, false, false, false, false, false, false] rfl rfl (any_of HT_.out (by kernel_rfl)) (fun _ _ _ h => h) (Or.inl ⟨by rfl, ?_⟩) ?_ ?_
                                rotate_left
                                · intro w'
                                  go_simp
                                  with_reducible rfl
                                rotate_left
                                · simp only [Act.put, List.setIfInBounds_toArray, List.set_cons_zero, List.set_cons_succ, i64_w, i32_w]
                                  rfl
                                refine pure_ (i := 20) (N := some 83) (v := ?_) (a' := ?_) #[true, true, true, true, true, true, true, true, true, true, true, true, true, true, true, true, true, true, true, true, true, false, false, false, false, false, false, false, false, false, false, false, false, false, false, false, false, false, false, false, false, false, false, false, false, false, false, false, false, false, false, false, false, false, false, false, false, false, false, false] rfl rfl (any_of HT_.out (by kernel_rfl)) (fun _ _ _ h => h) (Or.inl ⟨by rfl, ?_⟩) ?_ ?_
                                rotate_left
                                · intro w'
                                  go_simp
                                  with_reducible rfl
                                rotate_left
                                · simp only [Act.put, List.setIfInBounds_toArray, List.set_cons_zero, List.set_cons_succ, i64_w, i32_w]
                                  rfl
                                refine pure_ (i := 21) (N := some 84) (v := ?_) (a' := ?_) #[true, true, true, true, true, true, true, true, true, true, true, true, true, true, true, true, true, true, true, true, true, true, false, false, false, false, false, false, false, false, false, false, false, false, false, false, false, false, false, false, false, false, false, false, false, false, false, false, false, false, false, false, false, false, false, false, false, false, false, false] rfl rfl (any_of HT_.out (by kernel_rfl)) (fun _ _ _ h => h) (Or.inl ⟨by rfl, ?_⟩) ?_ ?_
                                rotate_left
                                · intro w'
                                  go_simp
                                  with_reducible rfl
                                rotate_left
                                · simp only [Act.put, List.setIfInBounds_toArray, List.set_cons_zero, List.set_cons_succ, i64_w, i32_w]
                                  rfl
                                refine take_ (i := 22) (N := some 85) (v := ?_) (a' := ?_) #[true, true, true, true, true, true, true, true, true, true, true, true, true, true, true, true, true, true, true, true, true, true, true, false, false, false, false, false, false, false, false, false, false, false, false, false, false, false, false, false, false, false, false, false, false, false, false, false, false, false, false, false, false, false, false, false, false, false, false, false] rfl rfl (take_ofW HT_.out HW_.out (by kernel_rfl)) (fun _ _ _ h => h) (Or.inl ⟨by rfl, ?_⟩) hHeld ?_ ?_
                                rotate_left
                                · rintro w' ⟨s0, s1, s2, s3, s4, s5, s6, s7, s8, s9, s10, s11, s12, s13⟩
                                  go_simp
                                  with_reducible rfl
                                rotate_left
                                · simp only [Act.put, List.setIfInBounds_toArray, List.set_cons_zero, List.set_cons_succ, i64_w, i32_w]
                                  rfl
                                refine take_ (i := 23) (N := some 86) (v := ?_) (a' := ?_) #[true, true, true, true, true, true, true, true, true, true, true, true, true, true, true, true, true, true, true, true, true, true, true, true, false, false, false, false, false, false, false, false, false, false, false, false, false, false, false, false, false, false, false, false, false, false, false, false, false, false, false, false, false, false, false, false, false, false, false, false] rfl rfl (take_ofW HT_.out HW_.out (by kernel_rfl)) (fun _ _ _ h => h) (Or.inl ⟨by rfl, ?_⟩) hHeld ?_ ?_
                                rotate_left
                                · rintro w' ⟨s0, s1, s2, s3, s4, s5, s6, s7, s8, s9, s10, s11, s12, s13⟩
                                  go_simp
                                  with_reducible rfl
                                rotate_left
                                · simp only [Act.put, List.setIfInBounds_toArray, List.set_cons_zero, List.set_cons_succ, i64_w, i32_w]
                                  rfl
                                refine one_ (i := 24) (N := some 87) #[true, true, true, true, true, true, true, true, true, true, true, true, true, true, true, true, true, true, true, true, true, true, true, true, true, false, false, false, false, false, false, false, false, false, false, false, false, false, false, false, false, false, false, false, false, false, false, false, false, false, false, false, false, false, false, false, false, false, false, false] rfl rfl (one_of HT_.out (by kernel_rfl)) (by decide) (fun K hK => ?_)
                                refine goes_ Tryz.func14 (by kernel_rfl) rfl #[.agg #[.bool false, .int .u64 0, .int .u64 ji21, .int .i64 x2_8], .agg #[.bool t212, .int .u64 t213, .int .u64 t214]] (by rfl) rfl rfl (by (try simp only [List.map_toArray, List.map_cons, List.map_nil]); first | done | (simp only [hji21]; rfl) | rfl | (simp only [List.length_drop, List.length_take]; rfl)) ?_
                                with_reducible refine (ranges_Has.calls false 0 ji21 x2_8 t212 t213 t214 true _ A34.out).mono ?_
                                rintro e w71 ⟨rfl, hb⟩
                                refine ⟨_, rfl, ?_⟩
                                have n0_ := Aside0.mk (blk_below (g := gb207) (o := .cells #[.bool false, .int .u64 0, .int .u64 (IntKind.u64.wrap (a0))] 24 (0, 0)) (by (with_reducible repeat (first | refine blk_drewN ?_ _ | refine blk_drew ?_ | refine blk_alloc ?_ _)); exact BK207.out) hb)
                                have n1_ := Aside0.mk (blk_below (g := gb208) (o := .cells #[.bool false, .int .u64 0, .int .u64 ji16, .int .i64 x1_8] 26 (0, 0)) (by (with_reducible repeat (first | refine blk_drewN ?_ _ | refine blk_drew ?_ | refine blk_alloc ?_ _)); exact BK208.out) hb)
                                have n2_ := Aside0.mk (blk_below (g := gb209) (o := .cells #[.bool false, .int .u64 0, .int .u64 ji21, .int .i64 x2_8] 26 (0, 0)) (by (with_reducible repeat (first | refine blk_drewN ?_ _ | refine blk_drew ?_ | refine blk_alloc ?_ _)); exact BK209.out) hb)
                                have n3_ := Aside0.mk (blk_below (g := gb216) (o := .cells #[.bool t212, .int .u64 t213, .int .u64 t214] 24 (0, 0)) (by (with_reducible repeat (first | refine blk_drewN ?_ _ | refine blk_drew ?_ | refine blk_alloc ?_ _)); exact BK216.out) hb)
                                have n4_ := Aside0.mk (below_step (by repeat (first | (with_reducible first | exact HB.out | apply below_alloc | apply pw_below_drewN | apply below_drew1 | refine below_set ?_ GE207.out | refine below_set ?_ GE208.out | refine below_set ?_ GE209.out | refine below_set ?_ GE216.out) | exact HB.out)) hb)
                                clear BK207
                                clear BK208
                                clear BK209
                                clear BK216
                                clear HB
                                have BK207 := n0_
                                have BK208 := n1_
                                have BK209 := n2_
                                have BK216 := n3_
                                have HB := n4_
                                clear n0_ n1_ n2_ n3_ n4_
                                (try clear hb)
                                (try clear hb2)
                                (try clear hk)
                                (try clear hi)
                                refine hK.out _ _ ⟨(blk_cell BK208.out 0).trans rfl, (blk_cell BK208.out 1).trans rfl, (blk_cell BK208.out 2).trans rfl, (blk_cell BK208.out 3).trans rfl, (blk_cell BK209.out 0).trans rfl, (blk_cell BK209.out 1).trans rfl, (blk_cell BK209.out 2).trans rfl, (blk_cell BK209.out 3).trans rfl, (blk_cell BK207.out 0).trans rfl, (blk_cell BK207.out 1).trans rfl, (blk_cell BK207.out 2).trans rfl, (blk_cell BK216.out 0).trans rfl, (blk_cell BK216.out 1).trans rfl, (blk_cell BK216.out 2).trans rfl⟩ (fun hHeld => ?_)
                                clear hK K
                                refine norm_ (a' := ?_) ?_ ?_
                                rotate_left
                                · show Act.put _ (some 87) _ = _
                                  simp only [Act.put, List.setIfInBounds_toArray, List.set_cons_zero, List.set_cons_succ, i64_w, i32_w]
                                  rfl
                                refine pure_ (i := 25) (N := some 88) (v := ?_) (a' := ?_) #[true, true, true, true, true, true, true, true, true, true, true, true, true, true, true, true, true, true, true, true, true, true, true, true, true, true, false, false, false, false, false, false, false, false, false, false, false, false, false, false, false, false, false, false, false, false, false, false, false, false, false, false, false, false, false, false, false, false, false, false] rfl rfl (any_of HT_.out (by kernel_rfl)) (fun _ _ _ h => h) (Or.inl ⟨by rfl, ?_⟩) ?_ ?_
                                rotate_left
                                · intro w'
                                  go_simp
                                  with_reducible rfl
                                rotate_left
                                · simp only [Act.put, List.setIfInBounds_toArray, List.set_cons_zero, List.set_cons_succ, i64_w, i32_w]
                                  rfl
                                refine pure_ (i := 26) (N := some 89) (v := ?_) (a' := ?_) #[true, true, true, true, true, true, true, true, true, true, true, true, true, true, true, true, true, true, true, true, true, true, true, true, true, true, true, false, false, false, false, false, false, false, false, false, false, false, false, false, false, false, false, false, false, false, false, false, false, false, false, false, false, false, false, false, false, false, false, false] rfl rfl (any_of HT_.out (by kernel_rfl)) (fun _ _ _ h => h) (Or.inl ⟨by rfl, ?_⟩) ?_ ?_
                                rotate_left
                                · intro w'
                                  go_simp
                                  with_reducible rfl
                                rotate_left
                                · simp only [Act.put, List.setIfInBounds_toArray, List.set_cons_zero, List.set_cons_succ, i64_w, i32_w]
                                  rfl
                                refine take_ (i := 27) (N := some 90) (v := ?_) (a' := ?_) #[true, true, true, true, true, true, true, true, true, true, true, true, true, true, true, true, true, true, true, true, true, true, true, true, true, true, true, true, false, false, false, false, false, false, false, false, false, false, false, false, false, false, false, false, false, false, false, false, false, false, false, false, false, false, false, false, false, false, false, false] rfl rfl (take_ofW HT_.out HW_.out (by kernel_rfl)) (fun _ _ _ h => h) (Or.inl ⟨by rfl, ?_⟩) hHeld ?_ ?_
                                rotate_left
                                · rintro w' ⟨s0, s1, s2, s3, s4, s5, s6, s7, s8, s9, s10, s11, s12, s13⟩
                                  go_simp
                                  with_reducible rfl
                                rotate_left
                                · simp only [Act.put, List.setIfInBounds_toArray, List.set_cons_zero, List.set_cons_succ, i64_w, i32_w]
                                  rfl
                                refine take_ (i := 28) (N := some 91) (v := ?_) (a' := ?_) #[true, true, true, true, true, true, true, true, true, true, true, true, true, true, true, true, true, true, true, true, true, true, true, true, true, true, true, true, true, false, false, false, false, false, false, false, false, false, false, false, false, false, false, false, false, false, false, false, false, false, false, false, false, false, false, false, false, false, false, false] rfl rfl (take_ofW HT_.out HW_.out (by kernel_rfl)) (fun _ _ _ h => h) (Or.inl ⟨by rfl, ?_⟩) hHeld ?_ ?_
                                rotate_left
                                · rintro w' ⟨s0, s1, s2, s3, s4, s5, s6, s7, s8, s9, s10, s11, s12, s13⟩
                                  go_simp
                                  with_reducible rfl
                                rotate_left
                                · simp only [Act.put, List.setIfInBounds_toArray, List.set_cons_zero, List.set_cons_succ, i64_w, i32_w]
                                  rfl
                                refine one_ (i := 29) (N := some 92) #[true, true, true, true, true, true, true, true, true, true, true, true, true, true, true, true, true, true, true, true, true, true, true, true, true, true, true, true, true, true, false, false, false, false, false, false, false, false, false, false, false, false, false, false, false, false, false, false, false, false, false, false, false, false, false, false, false, false, false, false] rfl rfl (one_of HT_.out (by kernel_rfl)) (by decide) (fun K hK => ?_)
                                refine goes_ Tryz.func14 (by kernel_rfl) rfl #[.agg #[.bool false, .int .u64 0, .int .u64 ji16, .int .i64 x1_8], .agg #[.bool t212, .int .u64 t213, .int .u64 t214]] (by rfl) rfl rfl (by (try simp only [List.map_toArray, List.map_cons, List.map_nil]); first | done | (simp only [hji16]; rfl) | rfl | (simp only [List.length_drop, List.length_take]; rfl)) ?_
                                with_reducible refine (ranges_Has.calls false 0 ji16 x1_8 t212 t213 t214 true _ A36.out).mono ?_
                                rintro e w72 ⟨rfl, hb⟩
                                refine ⟨_, rfl, ?_⟩
                                have n0_ := Aside0.mk (blk_below (g := gb207) (o := .cells #[.bool false, .int .u64 0, .int .u64 (IntKind.u64.wrap (a0))] 24 (0, 0)) (by (with_reducible repeat (first | refine blk_drewN ?_ _ | refine blk_drew ?_ | refine blk_alloc ?_ _)); exact BK207.out) hb)
                                have n1_ := Aside0.mk (blk_below (g := gb208) (o := .cells #[.bool false, .int .u64 0, .int .u64 ji16, .int .i64 x1_8] 26 (0, 0)) (by (with_reducible repeat (first | refine blk_drewN ?_ _ | refine blk_drew ?_ | refine blk_alloc ?_ _)); exact BK208.out) hb)
                                have n2_ := Aside0.mk (blk_below (g := gb209) (o := .cells #[.bool false, .int .u64 0, .int .u64 ji21, .int .i64 x2_8] 26 (0, 0)) (by (with_reducible repeat (first | refine blk_drewN ?_ _ | refine blk_drew ?_ | refine blk_alloc ?_ _)); exact BK209.out) hb)
                                have n3_ := Aside0.mk (blk_below (g := gb216) (o := .cells #[.bool t212, .int .u64 t213, .int .u64 t214] 24 (0, 0)) (by (with_reducible repeat (first | refine blk_drewN ?_ _ | refine blk_drew ?_ | refine blk_alloc ?_ _)); exact BK216.out) hb)
                                have n4_ := Aside0.mk (below_step (by repeat (first | (with_reducible first | exact HB.out | apply below_alloc | apply pw_below_drewN | apply below_drew1 | refine below_set ?_ GE207.out | refine below_set ?_ GE208.out | refine below_set ?_ GE209.out | refine below_set ?_ GE216.out) | exact HB.out)) hb)
                                clear BK207
                                clear BK208
                                clear BK209
                                clear BK216
                                clear HB
                                have BK207 := n0_
                                have BK208 := n1_
                                have BK209 := n2_
                                have BK216 := n3_
                                have HB := n4_
                                clear n0_ n1_ n2_ n3_ n4_
                                (try clear hb)
                                (try clear hb2)
                                (try clear hk)
                                (try clear hi)
                                refine hK.out _ _ ⟨(blk_cell BK208.out 0).trans rfl, (blk_cell BK208.out 1).trans rfl, (blk_cell BK208.out 2).trans rfl, (blk_cell BK208.out 3).trans rfl, (blk_cell BK209.out 0).trans rfl, (blk_cell BK209.out 1).trans rfl, (blk_cell BK209.out 2).trans rfl, (blk_cell BK209.out 3).trans rfl, (blk_cell BK207.out 0).trans rfl, (blk_cell BK207.out 1).trans rfl, (blk_cell BK207.out 2).trans rfl, (blk_cell BK216.out 0).trans rfl, (blk_cell BK216.out 1).trans rfl, (blk_cell BK216.out 2).trans rfl⟩ (fun hHeld => ?_)
                                clear hK K
                                refine norm_ (a' := ?_) ?_ ?_
                                rotate_left
                                · show Act.put _ (some 92) _ = _
                                  simp only [Act.put, List.setIfInBounds_toArray, List.set_cons_zero, List.set_cons_succ, i64_w, i32_w]
                                  rfl
                                refine pure_ (i := 30) (N := some 93) (v := ?_) (a' := ?_) #[true, true, true, true, true, true, true, true, true, true, true, true, true, true, true, true, true, true, true, true, true, true, true, true, true, true, true, true, true, true, true, false, false, false, false, false, false, false, false, false, false, false, false, false, false, false, false, false, false, false, false, false, false, false, false, false, false, false, false, false] rfl rfl (any_of HT_.out (by kernel_rfl)) (fun _ _ _ h => h) (Or.inl ⟨by rfl, ?_⟩) ?_ ?_
                                rotate_left
                                · intro w'
                                  go_simp
                                  with_reducible rfl
                                rotate_left
                                · simp only [Act.put, List.setIfInBounds_toArray, List.set_cons_zero, List.set_cons_succ, i64_w, i32_w]
                                  rfl
                                refine pure_ (i := 31) (N := some 94) (v := ?_) (a' := ?_) #[true, true, true, true, true, true, true, true, true, true, true, true, true, true, true, true, true, true, true, true, true, true, true, true, true, true, true, true, true, true, true, true, false, false, false, false, false, false, false, false, false, false, false, false, false, false, false, false, false, false, false, false, false, false, false, false, false, false, false, false] rfl rfl (any_of HT_.out (by kernel_rfl)) (fun _ _ _ h => h) (Or.inl ⟨by rfl, ?_⟩) ?_ ?_
                                rotate_left
                                · intro w'
                                  go_simp
                                  with_reducible rfl
                                rotate_left
                                · simp only [Act.put, List.setIfInBounds_toArray, List.set_cons_zero, List.set_cons_succ, i64_w, i32_w]
                                  rfl
                                refine take_ (i := 32) (N := some 95) (v := ?_) (a' := ?_) #[true, true, true, true, true, true, true, true, true, true, true, true, true, true, true, true, true, true, true, true, true, true, true, true, true, true, true, true, true, true, true, true, true, false, false, false, false, false, false, false, false, false, false, false, false, false, false, false, false, false, false, false, false, false, false, false, false, false, false, false] rfl rfl (take_ofW HT_.out HW_.out (by kernel_rfl)) (fun _ _ _ h => h) (Or.inl ⟨by rfl, ?_⟩) hHeld ?_ ?_
                                rotate_left
                                · rintro w' ⟨s0, s1, s2, s3, s4, s5, s6, s7, s8, s9, s10, s11, s12, s13⟩
                                  go_simp
                                  with_reducible rfl
                                rotate_left
                                · simp only [Act.put, List.setIfInBounds_toArray, List.set_cons_zero, List.set_cons_succ, i64_w, i32_w]
                                  rfl
                                refine take_ (i := 33) (N := some 96) (v := ?_) (a' := ?_) #[true, true, true, true, true, true, true, true, true, true, true, true, true, true, true, true, true, true, true, true, true, true, true, true, true, true, true, true, true, true, true, true, true, true, false, false, false, false, false, false, false, false, false, false, false, false, false, false, false, false, false, false, false, false, false, false, false, false, false, false] rfl rfl (take_ofW HT_.out HW_.out (by kernel_rfl)) (fun _ _ _ h => h) (Or.inl ⟨by rfl, ?_⟩) hHeld ?_ ?_
                                rotate_left
                                · rintro w' ⟨s0, s1, s2, s3, s4, s5, s6, s7, s8, s9, s10, s11, s12, s13⟩
                                  go_simp
                                  with_reducible rfl
                                rotate_left
                                · simp only [Act.put, List.setIfInBounds_toArray, List.set_cons_zero, List.set_cons_succ, i64_w, i32_w]
                                  rfl
                                refine one_ (i := 34) (N := some 97) #[true, true, true, true, true, true, true, true, true, true, true, true, true, true, true, true, true, true, true, true, true, true, true, true, true, true, true, true, true, true, true, true, true, true, true, false, false, false, false, false, false, false, false, false, false, false, false, false, false, false, false, false, false, false, false, false, false, false, false, false] rfl rfl (one_of HT_.out (by kernel_rfl)) (by decide) (fun K hK => ?_)
                                refine goes_ Tryz.func17 (by kernel_rfl) rfl #[.agg #[.bool false, .int .u64 0, .int .u64 ji16, .int .i64 x1_8], .agg #[.bool false, .int .u64 0, .int .u64 ji21, .int .i64 x2_8]] (by rfl) rfl rfl (by (try simp only [List.map_toArray, List.map_cons, List.map_nil]); first | done | (simp only [hji16, hji21]; rfl) | rfl | (simp only [List.length_drop, List.length_take]; rfl)) ?_
                                with_reducible refine (ranges_Meet.calls false 0 ji16 x1_8 false 0 ji21 x2_8 true _ A38.out).mono ?_
                                rintro e w73 ⟨rfl, hb⟩
                                refine ⟨_, rfl, ?_⟩
                                have n0_ := Aside0.mk (blk_below (g := gb207) (o := .cells #[.bool false, .int .u64 0, .int .u64 (IntKind.u64.wrap (a0))] 24 (0, 0)) (by (with_reducible repeat (first | refine blk_drewN ?_ _ | refine blk_drew ?_ | refine blk_alloc ?_ _)); exact BK207.out) hb)
                                have n1_ := Aside0.mk (blk_below (g := gb208) (o := .cells #[.bool false, .int .u64 0, .int .u64 ji16, .int .i64 x1_8] 26 (0, 0)) (by (with_reducible repeat (first | refine blk_drewN ?_ _ | refine blk_drew ?_ | refine blk_alloc ?_ _)); exact BK208.out) hb)
                                have n2_ := Aside0.mk (blk_below (g := gb209) (o := .cells #[.bool false, .int .u64 0, .int .u64 ji21, .int .i64 x2_8] 26 (0, 0)) (by (with_reducible repeat (first | refine blk_drewN ?_ _ | refine blk_drew ?_ | refine blk_alloc ?_ _)); exact BK209.out) hb)
                                have n3_ := Aside0.mk (blk_below (g := gb216) (o := .cells #[.bool t212, .int .u64 t213, .int .u64 t214] 24 (0, 0)) (by (with_reducible repeat (first | refine blk_drewN ?_ _ | refine blk_drew ?_ | refine blk_alloc ?_ _)); exact BK216.out) hb)
                                have n4_ := Aside0.mk (below_step (by repeat (first | (with_reducible first | exact HB.out | apply below_alloc | apply pw_below_drewN | apply below_drew1 | refine below_set ?_ GE207.out | refine below_set ?_ GE208.out | refine below_set ?_ GE209.out | refine below_set ?_ GE216.out) | exact HB.out)) hb)
                                clear BK207
                                clear BK208
                                clear BK209
                                clear BK216
                                clear HB
                                have BK207 := n0_
                                have BK208 := n1_
                                have BK209 := n2_
                                have BK216 := n3_
                                have HB := n4_
                                clear n0_ n1_ n2_ n3_ n4_
                                (try clear hb)
                                (try clear hb2)
                                (try clear hk)
                                (try clear hi)
                                refine hK.out _ _ ⟨(blk_cell BK208.out 0).trans rfl, (blk_cell BK208.out 1).trans rfl, (blk_cell BK208.out 2).trans rfl, (blk_cell BK208.out 3).trans rfl, (blk_cell BK209.out 0).trans rfl, (blk_cell BK209.out 1).trans rfl, (blk_cell BK209.out 2).trans rfl, (blk_cell BK209.out 3).trans rfl, (blk_cell BK207.out 0).trans rfl, (blk_cell BK207.out 1).trans rfl, (blk_cell BK207.out 2).trans rfl, (blk_cell BK216.out 0).trans rfl, (blk_cell BK216.out 1).trans rfl, (blk_cell BK216.out 2).trans rfl⟩ (fun hHeld => ?_)
                                clear hK K
                                refine norm_ (a' := ?_) ?_ ?_
                                rotate_left
                                · show Act.put _ (some 97) _ = _
                                  simp only [Act.put, List.setIfInBounds_toArray, List.set_cons_zero, List.set_cons_succ, i64_w, i32_w]
                                  rfl
                                refine pure_ (i := 35) (N := some 98) (v := ?_) (a' := ?_) #[true, true, true, true, true, true, true, true, true, true, true, true, true, true, true, true, true, true, true, true, true, true, true, true, true, true, true, true, true, true, true, true, true, true, true, true, false, false, false, false, false, false, false, false, false, false, false, false, false, false, false, false, false, false, false, false, false, false, false, false] rfl rfl (any_of HT_.out (by kernel_rfl)) (fun _ _ _ h => h) (Or.inl ⟨by rfl, ?_⟩) ?_ ?_
                                rotate_left
                                · intro w'
                                  go_simp
                                  with_reducible rfl
                                rotate_left
                                · simp only [Act.put, List.setIfInBounds_toArray, List.set_cons_zero, List.set_cons_succ, i64_w, i32_w]
                                  rfl
                                refine pure_ (i := 36) (N := some 99) (v := ?_) (a' := ?_) #[true, true, true, true, true, true, true, true, true, true, true, true, true, true, true, true, true, true, true, true, true, true, true, true, true, true, true, true, true, true, true, true, true, true, true, true, true, false, false, false, false, false, false, false, false, false, false, false, false, false, false, false, false, false, false, false, false, false, false, false] rfl rfl (any_of HT_.out (by kernel_rfl)) (fun _ _ _ h => h) (Or.inl ⟨by rfl, ?_⟩) ?_ ?_
                                rotate_left
                                · intro w'
                                  go_simp
                                  with_reducible rfl
                                rotate_left
                                · simp only [Act.put, List.setIfInBounds_toArray, List.set_cons_zero, List.set_cons_succ, i64_w, i32_w]
                                  rfl
                                refine take_ (i := 37) (N := some 100) (v := ?_) (a' := ?_) #[true, true, true, true, true, true, true, true, true, true, true, true, true, true, true, true, true, true, true, true, true, true, true, true, true, true, true, true, true, true, true, true, true, true, true, true, true, true, false, false, false, false, false, false, false, false, false, false, false, false, false, false, false, false, false, false, false, false, false, false] rfl rfl (take_ofW HT_.out HW_.out (by kernel_rfl)) (fun _ _ _ h => h) (Or.inl ⟨by rfl, ?_⟩) hHeld ?_ ?_
                                rotate_left
                                · rintro w' ⟨s0, s1, s2, s3, s4, s5, s6, s7, s8, s9, s10, s11, s12, s13⟩
                                  go_simp
                                  with_reducible rfl
                                rotate_left
                                · simp only [Act.put, List.setIfInBounds_toArray, List.set_cons_zero, List.set_cons_succ, i64_w, i32_w]
                                  rfl
                                refine take_ (i := 39) (N := some 102) (v := ?_) (a' := ?_) #[true, true, true, true, true, true, true, true, true, true, true, true, true, true, true, true, true, true, true, true, true, true, true, true, true, true, true, true, true, true, true, true, true, true, true, true, true, true, false, true, false, false, false, false, false, false, false, false, false, false, false, false, false, false, false, false, false, false, false, false] rfl rfl (take_ofW HT_.out HW_.out (by kernel_rfl)) (fun _ _ _ h => h) (Or.inl ⟨by rfl, ?_⟩) hHeld ?_ ?_
                                rotate_left
                                · rintro w' ⟨s0, s1, s2, s3, s4, s5, s6, s7, s8, s9, s10, s11, s12, s13⟩
                                  go_simp
                                  with_reducible rfl
                                rotate_left
                                · simp only [Act.put, List.setIfInBounds_toArray, List.set_cons_zero, List.set_cons_succ, i64_w, i32_w]
                                  rfl
                                refine one_ (i := 38) (N := some 101) #[true, true, true, true, true, true, true, true, true, true, true, true, true, true, true, true, true, true, true, true, true, true, true, true, true, true, true, true, true, true, true, true, true, true, true, true, true, true, true, true, false, false, false, false, false, false, false, false, false, false, false, false, false, false, false, false, false, false, false, false] rfl rfl (one_of HT_.out (by kernel_rfl)) (by decide) (fun K hK => ?_)
                                refine goes_ Tryz.func12 (by kernel_rfl) rfl #[.agg #[.bool false, .int .u64 0, .int .u64 ji16, .int .i64 x1_8]] (by rfl) rfl rfl (by (try simp only [List.map_toArray, List.map_cons, List.map_nil]); first | done | (simp only [hji16]; rfl) | rfl | (simp only [List.length_drop, List.length_take]; rfl)) ?_
                                with_reducible refine (ranges_Size.calls false 0 ji16 x1_8 t224 _ A40.out).mono ?_
                                rintro e w74 ⟨rfl, hb⟩
                                refine ⟨_, rfl, ?_⟩
                                have n0_ := Aside0.mk (blk_below (g := gb207) (o := .cells #[.bool false, .int .u64 0, .int .u64 (IntKind.u64.wrap (a0))] 24 (0, 0)) (by (with_reducible repeat (first | refine blk_drewN ?_ _ | refine blk_drew ?_ | refine blk_alloc ?_ _)); exact BK207.out) hb)
                                have n1_ := Aside0.mk (blk_below (g := gb208) (o := .cells #[.bool false, .int .u64 0, .int .u64 ji16, .int .i64 x1_8] 26 (0, 0)) (by (with_reducible repeat (first | refine blk_drewN ?_ _ | refine blk_drew ?_ | refine blk_alloc ?_ _)); exact BK208.out) hb)
                                have n2_ := Aside0.mk (blk_below (g := gb209) (o := .cells #[.bool false, .int .u64 0, .int .u64 ji21, .int .i64 x2_8] 26 (0, 0)) (by (with_reducible repeat (first | refine blk_drewN ?_ _ | refine blk_drew ?_ | refine blk_alloc ?_ _)); exact BK209.out) hb)
                                have n3_ := Aside0.mk (blk_below (g := gb216) (o := .cells #[.bool t212, .int .u64 t213, .int .u64 t214] 24 (0, 0)) (by (with_reducible repeat (first | refine blk_drewN ?_ _ | refine blk_drew ?_ | refine blk_alloc ?_ _)); exact BK216.out) hb)
                                have n4_ := Aside0.mk (below_step (by repeat (first | (with_reducible first | exact HB.out | apply below_alloc | apply pw_below_drewN | apply below_drew1 | refine below_set ?_ GE207.out | refine below_set ?_ GE208.out | refine below_set ?_ GE209.out | refine below_set ?_ GE216.out) | exact HB.out)) hb)
                                clear BK207
                                clear BK208
                                clear BK209
                                clear BK216
                                clear HB
                                have BK207 := n0_
                                have BK208 := n1_
                                have BK209 := n2_
                                have BK216 := n3_
                                have HB := n4_
                                clear n0_ n1_ n2_ n3_ n4_
                                (try clear hb)
                                (try clear hb2)
                                (try clear hk)
                                (try clear hi)
                                refine hK.out _ _ ⟨(blk_cell BK208.out 0).trans rfl, (blk_cell BK208.out 1).trans rfl, (blk_cell BK208.out 2).trans rfl, (blk_cell BK208.out 3).trans rfl, (blk_cell BK209.out 0).trans rfl, (blk_cell BK209.out 1).trans rfl, (blk_cell BK209.out 2).trans rfl, (blk_cell BK209.out 3).trans rfl, (blk_cell BK207.out 0).trans rfl, (blk_cell BK207.out 1).trans rfl, (blk_cell BK207.out 2).trans rfl, (blk_cell BK216.out 0).trans rfl, (blk_cell BK216.out 1).trans rfl, (blk_cell BK216.out 2).trans rfl⟩ (fun hHeld => ?_)
                                clear hK K
                                refine norm_ (a' := ?_) ?_ ?_
                                rotate_left
                                · show Act.put _ (some 101) _ = _
                                  simp only [Act.put, List.setIfInBounds_toArray, List.set_cons_zero, List.set_cons_succ, i64_w, i32_w]
                                  rfl
                                refine one_ (i := 40) (N := some 103) #[true, true, true, true, true, true, true, true, true, true, true, true, true, true, true, true, true, true, true, true, true, true, true, true, true, true, true, true, true, true, true, true, true, true, true, true, true, true, true, true, true, false, false, false, false, false, false, false, false, false, false, false, false, false, false, false, false, false, false, false] rfl rfl (one_of HT_.out (by kernel_rfl)) (by decide) (fun K hK => ?_)
                                refine goes_ Tryz.func12 (by kernel_rfl) rfl #[.agg #[.bool false, .int .u64 0, .int .u64 ji21, .int .i64 x2_8]] (by rfl) rfl rfl (by (try simp only [List.map_toArray, List.map_cons, List.map_nil]); first | done | (simp only [hji21]; rfl) | rfl | (simp only [List.length_drop, List.length_take]; rfl)) ?_
                                with_reducible refine (ranges_Size.calls false 0 ji21 x2_8 t225 _ A41.out).mono ?_
                                rintro e w75 ⟨rfl, hb⟩
                                refine ⟨_, rfl, ?_⟩
                                have n0_ := Aside0.mk (blk_below (g := gb207) (o := .cells #[.bool false, .int .u64 0, .int .u64 (IntKind.u64.wrap (a0))] 24 (0, 0)) (by (with_reducible repeat (first | refine blk_drewN ?_ _ | refine blk_drew ?_ | refine blk_alloc ?_ _)); exact BK207.out) hb)
                                have n1_ := Aside0.mk (blk_below (g := gb208) (o := .cells #[.bool false, .int .u64 0, .int .u64 ji16, .int .i64 x1_8] 26 (0, 0)) (by (with_reducible repeat (first | refine blk_drewN ?_ _ | refine blk_drew ?_ | refine blk_alloc ?_ _)); exact BK208.out) hb)
                                have n2_ := Aside0.mk (blk_below (g := gb209) (o := .cells #[.bool false, .int .u64 0, .int .u64 ji21, .int .i64 x2_8] 26 (0, 0)) (by (with_reducible repeat (first | refine blk_drewN ?_ _ | refine blk_drew ?_ | refine blk_alloc ?_ _)); exact BK209.out) hb)
                                have n3_ := Aside0.mk (blk_below (g := gb216) (o := .cells #[.bool t212, .int .u64 t213, .int .u64 t214] 24 (0, 0)) (by (with_reducible repeat (first | refine blk_drewN ?_ _ | refine blk_drew ?_ | refine blk_alloc ?_ _)); exact BK216.out) hb)
                                have n4_ := Aside0.mk (below_step (by repeat (first | (with_reducible first | exact HB.out | apply below_alloc | apply pw_below_drewN | apply below_drew1 | refine below_set ?_ GE207.out | refine below_set ?_ GE208.out | refine below_set ?_ GE209.out | refine below_set ?_ GE216.out) | exact HB.out)) hb)
                                clear BK207
                                clear BK208
                                clear BK209
                                clear BK216
                                clear HB
                                have BK207 := n0_
                                have BK208 := n1_
                                have BK209 := n2_
                                have BK216 := n3_
                                have HB := n4_
                                clear n0_ n1_ n2_ n3_ n4_
                                (try clear hb)
                                (try clear hb2)
                                (try clear hk)
                                (try clear hi)
                                refine hK.out _ _ ⟨(blk_cell BK208.out 0).trans rfl, (blk_cell BK208.out 1).trans rfl, (blk_cell BK208.out 2).trans rfl, (blk_cell BK208.out 3).trans rfl, (blk_cell BK209.out 0).trans rfl, (blk_cell BK209.out 1).trans rfl, (blk_cell BK209.out 2).trans rfl, (blk_cell BK209.out 3).trans rfl, (blk_cell BK207.out 0).trans rfl, (blk_cell BK207.out 1).trans rfl, (blk_cell BK207.out 2).trans rfl, (blk_cell BK216.out 0).trans rfl, (blk_cell BK216.out 1).trans rfl, (blk_cell BK216.out 2).trans rfl⟩ (fun hHeld => ?_)
                                clear hK K
                                refine norm_ (a' := ?_) ?_ ?_
                                rotate_left
                                · show Act.put _ (some 103) _ = _
                                  simp only [Act.put, List.setIfInBounds_toArray, List.set_cons_zero, List.set_cons_succ, i64_w, i32_w]
                                  rfl
                                refine pure_ (i := 41) (N := some 104) (v := ?_) (a' := ?_) #[true, true, true, true, true, true, true, true, true, true, true, true, true, true, true, true, true, true, true, true, true, true, true, true, true, true, true, true, true, true, true, true, true, true, true, true, true, true, true, true, true, true, false, false, false, false, false, false, false, false, false, false, false, false, false, false, false, false, false, false] rfl rfl (any_of HT_.out (by kernel_rfl)) (fun _ _ _ h => h) (Or.inl ⟨by rfl, ?_⟩) ?_ ?_
                                rotate_left
                                · intro w'
                                  go_simp
                                  with_reducible rfl
                                rotate_left
                                · simp only [Act.put, List.setIfInBounds_toArray, List.set_cons_zero, List.set_cons_succ, i64_w, i32_w]
                                  rfl
                                refine pure_ (i := 42) (N := some 105) (v := ?_) (a' := ?_) #[true, true, true, true, true, true, true, true, true, true, true, true, true, true, true, true, true, true, true, true, true, true, true, true, true, true, true, true, true, true, true, true, true, true, true, true, true, true, true, true, true, true, true, false, false, false, false, false, false, false, false, false, false, false, false, false, false, false, false, false] rfl rfl (any_of HT_.out (by kernel_rfl)) (fun _ _ _ h => h) (Or.inl ⟨by rfl, ?_⟩) ?_ ?_
                                rotate_left
                                · intro w'
                                  go_simp
                                  with_reducible rfl
                                rotate_left
                                · simp only [Act.put, List.setIfInBounds_toArray, List.set_cons_zero, List.set_cons_succ, i64_w, i32_w]
                                  rfl
                                refine pure_ (i := 43) (N := some 106) (v := ?_) (a' := ?_) #[true, true, true, true, true, true, true, true, true, true, true, true, true, true, true, true, true, true, true, true, true, true, true, true, true, true, true, true, true, true, true, true, true, true, true, true, true, true, true, true, true, true, true, true, false, false, false, false, false, false, false, false, false, false, false, false, false, false, false, false] rfl rfl (any_of HT_.out (by kernel_rfl)) (fun _ _ _ h => h) (Or.inl ⟨by rfl, ?_⟩) ?_ ?_
                                rotate_left
                                · intro w'
                                  go_simp
                                  with_reducible rfl
                                rotate_left
                                · simp only [Act.put, List.setIfInBounds_toArray, List.set_cons_zero, List.set_cons_succ, i64_w, i32_w]
                                  rfl
                                refine pure_ (i := 44) (N := some 107) (v := ?_) (a' := ?_) #[true, true, true, true, true, true, true, true, true, true, true, true, true, true, true, true, true, true, true, true, true, true, true, true, true, true, true, true, true, true, true, true, true, true, true, true, true, true, true, true, true, true, true, true, true, false, false, false, false, false, false, false, false, false, false, false, false, false, false, false] rfl rfl (any_of HT_.out (by kernel_rfl)) (fun _ _ _ h => h) (Or.inl ⟨by rfl, ?_⟩) ?_ ?_
                                rotate_left
                                · intro w'
                                  go_simp
                                  with_reducible rfl
                                rotate_left
                                · simp only [Act.put, List.setIfInBounds_toArray, List.set_cons_zero, List.set_cons_succ, i64_w, i32_w]
                                  rfl
                                refine pure_ (i := 46) (N := some 109) (v := ?_) (a' := ?_) #[true, true, true, true, true, true, true, true, true, true, true, true, true, true, true, true, true, true, true, true, true, true, true, true, true, true, true, true, true, true, true, true, true, true, true, true, true, true, true, true, true, true, true, true, true, false, true, false, false, false, false, false, false, false, false, false, false, false, false, false] rfl rfl (any_of HT_.out (by kernel_rfl)) (fun _ _ _ h => h) (Or.inl ⟨by rfl, ?_⟩) ?_ ?_
                                rotate_left
                                · intro w'
                                  go_simp
                                  with_reducible rfl
                                rotate_left
                                · simp only [Act.put, List.setIfInBounds_toArray, List.set_cons_zero, List.set_cons_succ, i64_w, i32_w]
                                  rfl
                                refine take_ (i := 45) (N := some 108) (v := ?_) (a' := ?_) #[true, true, true, true, true, true, true, true, true, true, true, true, true, true, true, true, true, true, true, true, true, true, true, true, true, true, true, true, true, true, true, true, true, true, true, true, true, true, true, true, true, true, true, true, true, true, true, false, false, false, false, false, false, false, false, false, false, false, false, false] rfl rfl (take_ofW HT_.out HW_.out (by kernel_rfl)) (fun _ _ _ h => h) (Or.inl ⟨by rfl, ?_⟩) hHeld ?_ ?_
                                rotate_left
                                · rintro w' ⟨s0, s1, s2, s3, s4, s5, s6, s7, s8, s9, s10, s11, s12, s13⟩
                                  go_simp
                                  with_reducible rfl
                                rotate_left
                                · simp only [Act.put, List.setIfInBounds_toArray, List.set_cons_zero, List.set_cons_succ, i64_w, i32_w]
                                  rfl
                                refine take_ (i := 47) (N := some 110) (v := ?_) (a' := ?_) #[true, true, true, true, true, true, true, true, true, true, true, true, true, true, true, true, true, true, true, true, true, true, true, true, true, true, true, true, true, true, true, true, true, true, true, true, true, true, true, true, true, true, true, true, true, true, true, true, false, false, false, false, false, false, false, false, false, false, false, false] rfl rfl (take_ofW HT_.out HW_.out (by kernel_rfl)) (fun _ _ _ h => h) (Or.inl ⟨by rfl, ?_⟩) hHeld ?_ ?_
                                rotate_left
                                · rintro w' ⟨s0, s1, s2, s3, s4, s5, s6, s7, s8, s9, s10, s11, s12, s13⟩
                                  go_simp
                                  with_reducible rfl
                                rotate_left
                                · simp only [Act.put, List.setIfInBounds_toArray, List.set_cons_zero, List.set_cons_succ, i64_w, i32_w]
                                  rfl
                                refine one_ (i := 48) (N := some 111) #[true, true, true, true, true, true, true, true, true, true, true, true, true, true, true, true, true, true, true, true, true, true, true, true, true, true, true, true, true, true, true, true, true, true, true, true, true, true, true, true, true, true, true, true, true, true, true, true, true, false, false, false, false, false, false, false, false, false, false, false] rfl rfl (one_of HT_.out (by kernel_rfl)) (by decide) (fun K hK => ?_)
                                refine goes_ Tryz.func20 (by kernel_rfl) rfl #[.agg #[.bool false, .int .u64 0, .int .u64 ji16], .agg #[.bool false, .int .u64 0, .int .u64 ji21]] (by rfl) rfl rfl (by (try simp only [List.map_toArray, List.map_cons, List.map_nil]); first | done | (simp only [hji16, hji21]; rfl) | rfl | (simp only [List.length_drop, List.length_take]; rfl)) ?_
                                with_reducible refine (addr_Compare.calls kj8 false 0 ji16 false 0 ji21 t226 _ A43.out).mono ?_
                                rintro e w76 ⟨rfl, hb⟩
                                refine ⟨_, rfl, ?_⟩
                                have n0_ := Aside0.mk (blk_below (g := gb207) (o := .cells #[.bool false, .int .u64 0, .int .u64 (IntKind.u64.wrap (a0))] 24 (0, 0)) (by (with_reducible repeat (first | refine blk_drewN ?_ _ | refine blk_drew ?_ | refine blk_alloc ?_ _)); exact BK207.out) hb)
                                have n1_ := Aside0.mk (blk_below (g := gb208) (o := .cells #[.bool false, .int .u64 0, .int .u64 ji16, .int .i64 x1_8] 26 (0, 0)) (by (with_reducible repeat (first | refine blk_drewN ?_ _ | refine blk_drew ?_ | refine blk_alloc ?_ _)); exact BK208.out) hb)
                                have n2_ := Aside0.mk (blk_below (g := gb209) (o := .cells #[.bool false, .int .u64 0, .int .u64 ji21, .int .i64 x2_8] 26 (0, 0)) (by (with_reducible repeat (first | refine blk_drewN ?_ _ | refine blk_drew ?_ | refine blk_alloc ?_ _)); exact BK209.out) hb)
                                have n3_ := Aside0.mk (blk_below (g := gb216) (o := .cells #[.bool t212, .int .u64 t213, .int .u64 t214] 24 (0, 0)) (by (with_reducible repeat (first | refine blk_drewN ?_ _ | refine blk_drew ?_ | refine blk_alloc ?_ _)); exact BK216.out) hb)
                                have n4_ := Aside0.mk (below_step (by repeat (first | (with_reducible first | exact HB.out | apply below_alloc | apply pw_below_drewN | apply below_drew1 | refine below_set ?_ GE207.out | refine below_set ?_ GE208.out | refine below_set ?_ GE209.out | refine below_set ?_ GE216.out) | exact HB.out)) hb)
                                clear BK207
                                clear BK208
                                clear BK209
                                clear BK216
                                clear HB
                                have BK207 := n0_
                                have BK208 := n1_
                                have BK209 := n2_
                                have BK216 := n3_
                                have HB := n4_
                                clear n0_ n1_ n2_ n3_ n4_
                                (try clear hb)
                                (try clear hb2)
                                (try clear hk)
                                (try clear hi)
                                refine hK.out _ _ ⟨(blk_cell BK208.out 0).trans rfl, (blk_cell BK208.out 1).trans rfl, (blk_cell BK208.out 2).trans rfl, (blk_cell BK208.out 3).trans rfl, (blk_cell BK209.out 0).trans rfl, (blk_cell BK209.out 1).trans rfl, (blk_cell BK209.out 2).trans rfl, (blk_cell BK209.out 3).trans rfl, (blk_cell BK207.out 0).trans rfl, (blk_cell BK207.out 1).trans rfl, (blk_cell BK207.out 2).trans rfl, (blk_cell BK216.out 0).trans rfl, (blk_cell BK216.out 1).trans rfl, (blk_cell BK216.out 2).trans rfl⟩ (fun hHeld => ?_)
                                clear hK K
                                refine norm_ (a' := ?_) ?_ ?_
                                rotate_left
                                · show Act.put _ (some 111) _ = _
                                  simp only [Act.put, List.setIfInBounds_toArray, List.set_cons_zero, List.set_cons_succ, i64_w, i32_w]
                                  rfl
                                refine pure_ (i := 49) (N := some 112) (v := ?_) (a' := ?_) #[true, true, true, true, true, true, true, true, true, true, true, true, true, true, true, true, true, true, true, true, true, true, true, true, true, true, true, true, true, true, true, true, true, true, true, true, true, true, true, true, true, true, true, true, true, true, true, true, true, true, false, false, false, false, false, false, false, false, false, false] rfl rfl (any_of HT_.out (by kernel_rfl)) (fun _ _ _ h => h) (Or.inl ⟨by rfl, ?_⟩) ?_ ?_
                                rotate_left
                                · intro w'
                                  go_simp
                                  with_reducible rfl
                                rotate_left
                                · simp only [Act.put, List.setIfInBounds_toArray, List.set_cons_zero, List.set_cons_succ, i64_w, i32_w]
                                  rfl
                                refine pure_ (i := 50) (N := some 113) (v := ?_) (a' := ?_) #[true, true, true, true, true, true, true, true, true, true, true, true, true, true, true, true, true, true, true, true, true, true, true, true, true, true, true, true, true, true, true, true, true, true, true, true, true, true, true, true, true, true, true, true, true, true, true, true, true, true, true, false, false, false, false, false, false, false, false, false] rfl rfl (any_of HT_.out (by kernel_rfl)) (fun _ _ _ h => h) (Or.inl ⟨by rfl, ?_⟩) ?_ ?_
                                rotate_left
                                · intro w'
                                  go_simp
                                  with_reducible rfl
                                rotate_left
                                · simp only [Act.put, List.setIfInBounds_toArray, List.set_cons_zero, List.set_cons_succ, i64_w, i32_w]
                                  rfl
                                refine pure_ (i := 51) (N := some 114) (v := ?_) (a' := ?_) #[true, true, true, true, true, true, true, true, true, true, true, true, true, true, true, true, true, true, true, true, true, true, true, true, true, true, true, true, true, true, true, true, true, true, true, true, true, true, true, true, true, true, true, true, true, true, true, true, true, true, true, true, false, false, false, false, false, false, false, false] rfl rfl (any_of HT_.out (by kernel_rfl)) (fun _ _ _ h => h) (Or.inl ⟨by rfl, ?_⟩) ?_ ?_
                                rotate_left
                                · intro w'
                                  go_simp
                                  with_reducible rfl
                                rotate_left
                                · simp only [Act.put, List.setIfInBounds_toArray, List.set_cons_zero, List.set_cons_succ, i64_w, i32_w]
                                  rfl
                                refine pure_ (i := 53) (N := some 116) (v := ?_) (a' := ?_) #[true, true, true, true, true, true, true, true, true, true, true, true, true, true, true, true, true, true, true, true, true, true, true, true, true, true, true, true, true, true, true, true, true, true, true, true, true, true, true, true, true, true, true, true, true, true, true, true, true, true, true, true, false, true, false, false, false, false, false, false] rfl rfl (any_of HT_.out (by kernel_rfl)) (fun _ _ _ h => h) (Or.inl ⟨by rfl, ?_⟩) ?_ ?_
                                rotate_left
                                · intro w'
                                  go_simp
                                  with_reducible rfl
                                rotate_left
                                · simp only [Act.put, List.setIfInBounds_toArray, List.set_cons_zero, List.set_cons_succ, i64_w, i32_w]
                                  rfl
                                refine take_ (i := 52) (N := some 115) (v := ?_) (a' := ?_) #[true, true, true, true, true, true, true, true, true, true, true, true, true, true, true, true, true, true, true, true, true, true, true, true, true, true, true, true, true, true, true, true, true, true, true, true, true, true, true, true, true, true, true, true, true, true, true, true, true, true, true, true, true, true, false, false, false, false, false, false] rfl rfl (take_ofW HT_.out HW_.out (by kernel_rfl)) (fun _ _ _ h => h) (Or.inl ⟨by rfl, ?_⟩) hHeld ?_ ?_
                                rotate_left
                                · rintro w' ⟨s0, s1, s2, s3, s4, s5, s6, s7, s8, s9, s10, s11, s12, s13⟩
                                  go_simp
                                  with_reducible rfl
                                rotate_left
                                · simp only [Act.put, List.setIfInBounds_toArray, List.set_cons_zero, List.set_cons_succ, i64_w, i32_w]
                                  rfl
                                refine take_ (i := 54) (N := some 117) (v := ?_) (a' := ?_) #[true, true, true, true, true, true, true, true, true, true, true, true, true, true, true, true, true, true, true, true, true, true, true, true, true, true, true, true, true, true, true, true, true, true, true, true, true, true, true, true, true, true, true, true, true, true, true, true, true, true, true, true, true, true, true, false, false, false, false, false] rfl rfl (take_ofW HT_.out HW_.out (by kernel_rfl)) (fun _ _ _ h => h) (Or.inl ⟨by rfl, ?_⟩) hHeld ?_ ?_
                                rotate_left
                                · rintro w' ⟨s0, s1, s2, s3, s4, s5, s6, s7, s8, s9, s10, s11, s12, s13⟩
                                  go_simp
                                  with_reducible rfl
                                rotate_left
                                · simp only [Act.put, List.setIfInBounds_toArray, List.set_cons_zero, List.set_cons_succ, i64_w, i32_w]
                                  rfl
                                refine pure_ (i := 55) (N := some 118) (v := ?_) (a' := ?_) #[true, true, true, true, true, true, true, true, true, true, true, true, true, true, true, true, true, true, true, true, true, true, true, true, true, true, true, true, true, true, true, true, true, true, true, true, true, true, true, true, true, true, true, true, true, true, true, true, true, true, true, true, true, true, true, true, false, false, false, false] rfl rfl (any_of HT_.out (by kernel_rfl)) (fun _ _ _ h => h) (Or.inl ⟨by rfl, ?_⟩) ?_ ?_
                                rotate_left
                                · intro w'
                                  go_simp
                                  with_reducible rfl
                                rotate_left
                                · simp only [Act.put, List.setIfInBounds_toArray, List.set_cons_zero, List.set_cons_succ, i64_w, i32_w]
                                  rfl
                                refine one_ (i := 56) (N := some 119) #[true, true, true, true, true, true, true, true, true, true, true, true, true, true, true, true, true, true, true, true, true, true, true, true, true, true, true, true, true, true, true, true, true, true, true, true, true, true, true, true, true, true, true, true, true, true, true, true, true, true, true, true, true, true, true, true, true, false, false, false] rfl rfl (one_of HT_.out (by kernel_rfl)) (by decide) (fun K hK => ?_)
                                refine goes_ Tryz.func14 (by kernel_rfl) rfl #[.agg #[.bool false, .int .u64 0, .int .u64 ji16, .int .i64 x1_8], .agg #[.bool true, .int .u64 0, .int .u64 (IntKind.u64.wrap (a0))]] (by rfl) rfl rfl (by (try simp only [List.map_toArray, List.map_cons, List.map_nil]); first | done | (simp only [hji16]; rfl) | rfl | (simp only [List.length_drop, List.length_take]; rfl)) ?_
                                with_reducible refine (ranges_Has.calls false 0 ji16 x1_8 true 0 (IntKind.u64.wrap (a0)) t227 _ A45.out).mono ?_
                                rintro e w77 ⟨rfl, hb⟩
                                refine ⟨_, rfl, ?_⟩
                                have n0_ := Aside0.mk (blk_below (g := gb207) (o := .cells #[.bool false, .int .u64 0, .int .u64 (IntKind.u64.wrap (a0))] 24 (0, 0)) (by (with_reducible repeat (first | refine blk_drewN ?_ _ | refine blk_drew ?_ | refine blk_alloc ?_ _)); exact BK207.out) hb)
                                have n1_ := Aside0.mk (blk_below (g := gb208) (o := .cells #[.bool false, .int .u64 0, .int .u64 ji16, .int .i64 x1_8] 26 (0, 0)) (by (with_reducible repeat (first | refine blk_drewN ?_ _ | refine blk_drew ?_ | refine blk_alloc ?_ _)); exact BK208.out) hb)
                                have n2_ := Aside0.mk (blk_below (g := gb209) (o := .cells #[.bool false, .int .u64 0, .int .u64 ji21, .int .i64 x2_8] 26 (0, 0)) (by (with_reducible repeat (first | refine blk_drewN ?_ _ | refine blk_drew ?_ | refine blk_alloc ?_ _)); exact BK209.out) hb)
                                have n3_ := Aside0.mk (blk_below (g := gb216) (o := .cells #[.bool t212, .int .u64 t213, .int .u64 t214] 24 (0, 0)) (by (with_reducible repeat (first | refine blk_drewN ?_ _ | refine blk_drew ?_ | refine blk_alloc ?_ _)); exact BK216.out) hb)
                                have n4_ := Aside0.mk (below_step (by repeat (first | (with_reducible first | exact HB.out | apply below_alloc | apply pw_below_drewN | apply below_drew1 | refine below_set ?_ GE207.out | refine below_set ?_ GE208.out | refine below_set ?_ GE209.out | refine below_set ?_ GE216.out) | exact HB.out)) hb)
                                clear BK207
                                clear BK208
                                clear BK209
                                clear BK216
                                clear HB
                                have BK207 := n0_
                                have BK208 := n1_
                                have BK209 := n2_
                                have BK216 := n3_
                                have HB := n4_
                                clear n0_ n1_ n2_ n3_ n4_
                                (try clear hb)
                                (try clear hb2)
                                (try clear hk)
                                (try clear hi)
                                refine hK.out _ _ ⟨(blk_cell BK208.out 0).trans rfl, (blk_cell BK208.out 1).trans rfl, (blk_cell BK208.out 2).trans rfl, (blk_cell BK208.out 3).trans rfl, (blk_cell BK209.out 0).trans rfl, (blk_cell BK209.out 1).trans rfl, (blk_cell BK209.out 2).trans rfl, (blk_cell BK209.out 3).trans rfl, (blk_cell BK207.out 0).trans rfl, (blk_cell BK207.out 1).trans rfl, (blk_cell BK207.out 2).trans rfl, (blk_cell BK216.out 0).trans rfl, (blk_cell BK216.out 1).trans rfl, (blk_cell BK216.out 2).trans rfl⟩ (fun hHeld => ?_)
                                clear hK K
                                refine norm_ (a' := ?_) ?_ ?_
                                rotate_left
                                · show Act.put _ (some 119) _ = _
                                  simp only [Act.put, List.setIfInBounds_toArray, List.set_cons_zero, List.set_cons_succ, i64_w, i32_w]
                                  rfl
                                refine pure_ (i := 57) (N := some 120) (v := ?_) (a' := ?_) #[true, true, true, true, true, true, true, true, true, true, true, true, true, true, true, true, true, true, true, true, true, true, true, true, true, true, true, true, true, true, true, true, true, true, true, true, true, true, true, true, true, true, true, true, true, true, true, true, true, true, true, true, true, true, true, true, true, true, false, false] rfl rfl (any_of HT_.out (by kernel_rfl)) (fun _ _ _ h => h) (Or.inl ⟨by rfl, ?_⟩) ?_ ?_
                                rotate_left
                                · intro w'
                                  go_simp
                                  with_reducible rfl
                                rotate_left
                                · simp only [Act.put, List.setIfInBounds_toArray, List.set_cons_zero, List.set_cons_succ, i64_w, i32_w]
                                  rfl
                                refine pure_ (i := 58) (N := some 121) (v := ?_) (a' := ?_) #[true, true, true, true, true, true, true, true, true, true, true, true, true, true, true, true, true, true, true, true, true, true, true, true, true, true, true, true, true, true, true, true, true, true, true, true, true, true, true, true, true, true, true, true, true, true, true, true, true, true, true, true, true, true, true, true, true, true, true, false] rfl rfl (any_of HT_.out (by kernel_rfl)) (fun _ _ _ h => h) (Or.inl ⟨by rfl, ?_⟩) ?_ ?_
                                rotate_left
                                · intro w'
                                  go_simp
                                  with_reducible rfl
                                rotate_left
                                · simp only [Act.put, List.setIfInBounds_toArray, List.set_cons_zero, List.set_cons_succ, i64_w, i32_w]
                                  rfl
                                refine pure_ (i := 59) (N := some 8) (v := ?_) (a' := ?_) #[true, true, true, true, true, true, true, true, true, true, true, true, true, true, true, true, true, true, true, true, true, true, true, true, true, true, true, true, true, true, true, true, true, true, true, true, true, true, true, true, true, true, true, true, true, true, true, true, true, true, true, true, true, true, true, true, true, true, true, true] rfl rfl (any_of HT_.out (by kernel_rfl)) (fun _ _ _ h => h) (Or.inl ⟨by rfl, ?_⟩) ?_ ?_
                                rotate_left
                                · intro w'
                                  go_simp
                                  with_reducible rfl
                                rotate_left
                                · simp only [Act.put, List.setIfInBounds_toArray, List.set_cons_zero, List.set_cons_succ, i64_w, i32_w]
                                  rfl
                                refine done_ (done_of HT_.out (by kernel_rfl)) ?_
                                try go_wp2
                                go_ret
                                exact ⟨by first | rfl | (simp [errW_none, errW_some] <;> rfl) | (simp only [← hji12, ← hji14, ← hji16, ← hji17, ← hji19, ← hji21]; first | rfl | (simp [errW_none, errW_some] <;> rfl)) | (simp [*, errW_none, errW_some] <;> rfl), by repeat (first | (with_reducible first | exact HB.out | apply below_alloc | apply pw_below_drewN | apply below_drew1 | refine below_set ?_ GE207.out | refine below_set ?_ GE208.out | refine below_set ?_ GE209.out | refine below_set ?_ GE216.out) | exact HB.out)⟩
                              · rw [if_neg c44] at H
                                have c44b0 : decide (t226 ≤ 0) = false := decide_eq_false c44
                                clear c44
                                exact absurd ((Option.some.inj H).trans hr_.out) (by decide)
                            · rw [if_neg c42] at H
                              have c42b0 : decide (t225 ≤ t224) = false := decide_eq_false c42
                              clear c42
                              exact absurd ((Option.some.inj H).trans hr_.out) (by decide)
                          · replace c39 := Bool.eq_false_iff.mpr c39
                            subst c39
                            have H1 : (some false) = some r := by rw [if_neg (show ¬ (false = true) by decide)] at H; exact H
                            clear H
                            have H := H1
                            clear H1
                            exact absurd ((Option.some.inj H).trans hr_.out) (by decide)
                        · replace c37 := Bool.eq_false_iff.mpr c37
                          subst c37
                          have H1 : (some false) = some r := by rw [if_neg (show ¬ (false = true) by decide)] at H; exact H
                          clear H
                          have H := H1
                          clear H1
                          exact absurd ((Option.some.inj H).trans hr_.out) (by decide)
                      · replace c35 := Bool.eq_false_iff.mpr c35
                        subst c35
                        have H1 : (some false) = some r := by rw [if_neg (show ¬ (false = true) by decide)] at H; exact H
                        clear H
                        have H := H1
                        clear H1
                        exact absurd ((Option.some.inj H).trans hr_.out) (by decide)
                    · replace c33 := Bool.eq_false_iff.mpr c33
                      subst c33
                      have H1 : (some false) = some r := by rw [if_neg (show ¬ (false = true) by decide)] at H; exact H
                      clear H
                      have H := H1
                      clear H1
                      exact absurd ((Option.some.inj H).trans hr_.out) (by decide)
                  · replace c32 := Bool.eq_false_iff.mpr c32
                    subst c32
                    have H1 : (some false) = some r := by rw [if_neg (show ¬ (false = true) by decide)] at H; exact H
                    clear H
                    have H := H1
                    clear H1
                    exact absurd ((Option.some.inj H).trans hr_.out) (by decide)
                · replace c30 := Bool.eq_false_iff.mpr c30
                  subst c30
                  have H1 : (some false) = some r := by rw [if_neg (show ¬ (false = true) by decide)] at H; exact H
                  clear H
                  have H := H1
                  clear H1
                  exact absurd ((Option.some.inj H).trans hr_.out) (by decide)
              · rw [if_neg c28] at H
                have c28b0 : (t218 == 0) = false := beq_eq_false_iff_ne.mpr c28
                have c28b1 : (t218 != 0) = true := bne_iff_ne.mpr c28
                exact absurd ((Option.some.inj H).trans hr_.out) (by decide)
            · rw [if_neg c26] at H
              have c26b0 : (t217 == 0) = false := beq_eq_false_iff_ne.mpr c26
              have c26b1 : (t217 != 0) = true := bne_iff_ne.mpr c26
              exact absurd ((Option.some.inj H).trans hr_.out) (by decide)
          · rw [if_neg c18] at H
            exact absurd H (by simp)
        · rw [if_neg c13] at H
          exact absurd H (by simp)
  · replace c6 := Bool.eq_false_iff.mpr c6
    subst c6
    have H1 : (some false) = some r := by rw [if_neg (show ¬ (false = true) by decide)] at H; exact H
    clear H
    have H := H1
    clear H1
    exact absurd ((Option.some.inj H).trans hr_.out) (by decide)

/-- THE ONE PURE STATEMENT of nameplatelaw05_RangesNest: yours. -/
def nameplatelaw05_RangesNest.Pure : Prop := ∀ (a0 : Int) (a1 : Int) (a2 : Int) (a3 : Int), (Lit.int .u32 a0).wf = true → (Lit.int .i64 a1).wf = true → (Lit.int .i64 a2).wf = true → (Lit.int .i64 a3).wf = true → ∃ k, nameplatelaw05_RangesNest.f k a0 a1 a2 a3 = some true
theorem nameplatelaw05_RangesNest.walk (P : nameplatelaw05_RangesNest.Pure) (a0 : Int) (a1 : Int) (a2 : Int) (a3 : Int) (w : World) (w0 : (Lit.int .u32 a0).wf = true) (w1 : (Lit.int .i64 a1).wf = true) (w2 : (Lit.int .i64 a2).wf = true) (w3 : (Lit.int .i64 a3).wf = true) :
    Calls Tryz.prog 4 #[.int .u32 a0, .int .i64 a1, .int .i64 a2, .int .i64 a3] w fun e w' => e = .returned (.bool true) ∧ Below w.heap.size w w' := by
  obtain ⟨k, h⟩ := P a0 a1 a2 a3 w0 w1 w2 w3
  refine (nameplatelaw05_RangesNest.calls k a0 a1 a2 a3 true w ⟨rfl⟩ h).mono ?_
  rintro e w' ⟨rfl, hd⟩
  exact ⟨rfl, hd⟩

end Go.Proofs.YtilobbjnmnnmnaaGreatDoor.ONest
