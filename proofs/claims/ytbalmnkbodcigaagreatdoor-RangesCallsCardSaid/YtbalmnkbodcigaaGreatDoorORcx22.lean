/- This text proves, for each Go function named below, which plain Lean function its call computes, in whatever memory; a program of this session has written it. -/
import Derived.Test.YtbalmnkbodcigaaGreatDoorORcx8
import Derived.Test.YtbalmnkbodcigaaGreatDoorORcx14
import Derived.Test.YtbalmnkbodcigaaGreatDoorORcx21
namespace Go.Proofs.YtbalmnkbodcigaaGreatDoor.ORc
open Go.RowKit Go.Proofs.YtbalmnkbodcigaaGreatDoorW.PrintWords Go.Proofs.YtbalmnkbodcigaaGreatDoorW.PrintLast Go.Proofs.YtbalmnkbodcigaaGreatDoorW.PrintMore
attribute [local go_sem] max2_int min2_int max_two min_two max_three min_three max_four min_four   -- for this text's walks alone
set_option linter.unusedVariables false
set_option linter.unusedSimpArgs false

attribute [local go_sem high] eqA24 eqA26
/-! ### nameplatelaw05_RangesCalls: function 3 -/
mutual
def nameplatelaw05_RangesCalls.j0 : Nat → ByteArray → Int → List (S26) → Bool → Bool → Int → Int → Int → Bool → Int → Int → Int → Bool → Int → Int → Option (Bool)
 | 0, _, _, _, _, _, _, _, _, _, _, _, _, _, _, _ => none
 | k + 1, x2, x3, x5, x38, x399000, x399001, x399002, x399003, x400000, x400001, x400002, x400003, x401000, x401001, x401002 => if x38 = true then (some true) else ((ranges_Read.f k x2).bind fun bt402 => ((nameplateref05_Read.f k x2).bind fun bt408 => ((ranges_Text.f k x399000 x399001 x399002 x399003).bind fun bt414 => ((nameplateref05_Text.f k x399000 x399001 x399002 x399003).bind fun bt416 => ((ranges_At.f x399000 x399001 x399002 x399003 x3).bind fun bt418 => ((nameplateref05_At.f k x399000 x399001 x399002 x399003 x3).bind fun bt423 => ((ranges_Index.f x399000 x399001 x399002 x399003 x401000 x401001 x401002).bind fun bt428 => ((nameplateref05_Index.f k x399000 x399001 x399002 x399003 x401000 x401001 x401002).bind fun bt430 => (if ((!(bt402.1 == bt408.1) || (!(bt402.2.1 == bt408.2.1) || (!(bt402.2.2.1 == bt408.2.2.1)))) || (!(bt402.2.2.2.1 == bt408.2.2.2.1))) = true then (nameplatelaw05_RangesCalls.j1 k x5 true x399000 x399001 x399002 x399003 x400000 x400001 x400002 x400003 x401000 x401001 x401002) else (if bt402.2.2.2.2 = bt408.2.2.2.2 then (if bt414.1.toList = bt416.1.toList then (if bt414.2 = bt416.2 then (if (!(bt418.1 == bt423.1) || (!(bt418.2.1 == bt423.2.1) || (!(bt418.2.2.1 == bt423.2.2.1)))) = true then (nameplatelaw05_RangesCalls.j1 k x5 true x399000 x399001 x399002 x399003 x400000 x400001 x400002 x400003 x401000 x401001 x401002) else (if (bt418.2.2.2 != bt423.2.2.2) = true then (nameplatelaw05_RangesCalls.j1 k x5 true x399000 x399001 x399002 x399003 x400000 x400001 x400002 x400003 x401000 x401001 x401002) else (if bt428.1 = bt430.1 then (if (bt428.2 != bt430.2) = true then (nameplatelaw05_RangesCalls.j1 k x5 true x399000 x399001 x399002 x399003 x400000 x400001 x400002 x400003 x401000 x401001 x401002) else ((ranges_Size.f x399000 x399001 x399002 x399003).bind fun t432 => ((nameplateref05_Size.f k x399000 x399001 x399002 x399003).bind fun t433 => (nameplatelaw05_RangesCalls.j1 k x5 (t432 != t433) x399000 x399001 x399002 x399003 x400000 x400001 x400002 x400003 x401000 x401001 x401002)))) else (nameplatelaw05_RangesCalls.j1 k x5 true x399000 x399001 x399002 x399003 x400000 x400001 x400002 x400003 x401000 x401001 x401002)))) else (nameplatelaw05_RangesCalls.j1 k x5 true x399000 x399001 x399002 x399003 x400000 x400001 x400002 x400003 x401000 x401001 x401002)) else (nameplatelaw05_RangesCalls.j1 k x5 true x399000 x399001 x399002 x399003 x400000 x400001 x400002 x400003 x401000 x401001 x401002)) else (nameplatelaw05_RangesCalls.j1 k x5 true x399000 x399001 x399002 x399003 x400000 x400001 x400002 x400003 x401000 x401001 x401002)))))))))))
def nameplatelaw05_RangesCalls.j1 : Nat → List (S26) → Bool → Bool → Int → Int → Int → Bool → Int → Int → Int → Bool → Int → Int → Option (Bool)
 | 0, _, _, _, _, _, _, _, _, _, _, _, _, _ => none
 | k + 1, x5, x127, x399000, x399001, x399002, x399003, x400000, x400001, x400002, x400003, x401000, x401001, x401002 => if x127 = true then (some false) else ((ranges_Check.f x399000 x399001 x399002 x399003).bind fun t434 => ((nameplateref05_Check.f k x399000 x399001 x399002 x399003).bind fun t435 => (if t434 = t435 then ((ranges_Has.f x399000 x399001 x399002 x399003 x401000 x401001 x401002).bind fun t436 => ((nameplateref05_Has.f k x399000 x399001 x399002 x399003 x401000 x401001 x401002).bind fun t437 => (if (t436 == t437) = true then ((ranges_Meet.f x399000 x399001 x399002 x399003 x400000 x400001 x400002 x400003).bind fun t438 => ((nameplateref05_Meet.f k x399000 x399001 x399002 x399003 x400000 x400001 x400002 x400003).bind fun t439 => (if (t438 == t439) = true then ((nameplatelaw05_light.f x399000 x399001 x399002 x399003).bind fun t440 => (if t440 = true then ((api_Range_23.f x5).bind fun t441 => ((ranges_Free.f x399000 x399001 x399002 x399003 t441).bind fun t444 => ((nameplateref05_Free.f k x399000 x399001 x399002 x399003 x5).bind fun t445 => (some (t444 == t445))))) else (some true))) else (some false)))) else (some false)))) else (some false))))
end
def nameplatelaw05_RangesCalls.f (k : Nat) (a0_0 : Bool) (a0_1 : Int) (a0_2 : Int) (a0_3 : Int) (a1_0 : Bool) (a1_1 : Int) (a1_2 : Int) (a1_3 : Int) (a2 : ByteArray) (a3 : Int) (a4_0 : Bool) (a4_1 : Int) (a4_2 : Int) (l5 : List (S26)) : Option (Bool) := (nameplatelaw05_lives.f k).bind fun t401 => (if t401 = true then (if (a2.size : Int) > 100 then (nameplatelaw05_RangesCalls.j0 k a2 a3 l5 true a0_0 a0_1 a0_2 a0_3 a1_0 a1_1 a1_2 a1_3 a4_0 a4_1 a4_2) else (nameplatelaw05_RangesCalls.j0 k a2 a3 l5 (decide ((l5.length : Int) > 20)) a0_0 a0_1 a0_2 a0_3 a1_0 a1_1 a1_2 a1_3 a4_0 a4_1 a4_2)) else (some false))
theorem j1_no {r : Bool} (hr : Aside0 (r = true)) {k : Nat} {x0 : List (S26)} {x2 : Bool} {x3 : Int} {x4 : Int} {x5 : Int} {x6 : Bool} {x7 : Int} {x8 : Int} {x9 : Int} {x10 : Bool} {x11 : Int} {x12 : Int} (h : nameplatelaw05_RangesCalls.j1 k x0 true x2 x3 x4 x5 x6 x7 x8 x9 x10 x11 x12 = some r) : False := by
 cases k with
 | zero => exact absurd h (by simp [nameplatelaw05_RangesCalls.j1])
 | succ k =>
  rw [nameplatelaw05_RangesCalls.j1, if_pos rfl] at h
  exact absurd ((Option.some.inj h).trans hr.out) (by decide)
theorem nameplatelaw05_RangesCalls.mono_l : ∀ k, (∀ y0 y1 y2 y3 y4 y5 y6 y7 y8 y9 y10 y11 y12 y13 y14, LeO (nameplatelaw05_RangesCalls.j0 k y0 y1 y2 y3 y4 y5 y6 y7 y8 y9 y10 y11 y12 y13 y14) (nameplatelaw05_RangesCalls.j0 (k + 1) y0 y1 y2 y3 y4 y5 y6 y7 y8 y9 y10 y11 y12 y13 y14)) ∧ (∀ y0 y1 y2 y3 y4 y5 y6 y7 y8 y9 y10 y11 y12, LeO (nameplatelaw05_RangesCalls.j1 k y0 y1 y2 y3 y4 y5 y6 y7 y8 y9 y10 y11 y12) (nameplatelaw05_RangesCalls.j1 (k + 1) y0 y1 y2 y3 y4 y5 y6 y7 y8 y9 y10 y11 y12))
 | 0 => ⟨fun _ _ _ _ _ _ _ _ _ _ _ _ _ _ _ r h => by simp [nameplatelaw05_RangesCalls.j0] at h, fun _ _ _ _ _ _ _ _ _ _ _ _ _ r h => by simp [nameplatelaw05_RangesCalls.j1] at h⟩
 | k + 1 => by
  obtain ⟨ih0, ih1⟩ := nameplatelaw05_RangesCalls.mono_l k
  refine ⟨?_, ?_⟩
  ·intro y0 y1 y2 y3 y4 y5 y6 y7 y8 y9 y10 y11 y12 y13 y14
   unfold nameplatelaw05_RangesCalls.j0
   repeat' first | (with_reducible first | apply ih0 | apply ih1 | apply nameplatelaw05_lives.mono | apply nameplateref05_At.mono | apply nameplateref05_Check.mono | apply nameplateref05_Free.mono | apply nameplateref05_Has.mono | apply nameplateref05_Index.mono | apply nameplateref05_Meet.mono | apply nameplateref05_Read.mono | apply nameplateref05_Size.mono | apply nameplateref05_Text.mono | apply ranges_Read.mono | apply ranges_Text.mono | exact LeO.refl _ | exact LeO.none _ | refine LeO.ite ?_ ?_ | refine LeO.bind ?_ (fun _ => ?_)) | apply ih0 | apply ih1 | apply nameplatelaw05_lives.mono | apply nameplateref05_At.mono | apply nameplateref05_Check.mono | apply nameplateref05_Free.mono | apply nameplateref05_Has.mono | apply nameplateref05_Index.mono | apply nameplateref05_Meet.mono | apply nameplateref05_Read.mono | apply nameplateref05_Size.mono | apply nameplateref05_Text.mono | apply ranges_Read.mono | apply ranges_Text.mono | exact LeO.none _ | refine LeO.ite ?_ ?_ | refine LeO.bind ?_ (fun _ => ?_)
  ·intro y0 y1 y2 y3 y4 y5 y6 y7 y8 y9 y10 y11 y12
   unfold nameplatelaw05_RangesCalls.j1
   repeat' first | (with_reducible first | apply ih0 | apply ih1 | apply nameplatelaw05_lives.mono | apply nameplateref05_At.mono | apply nameplateref05_Check.mono | apply nameplateref05_Free.mono | apply nameplateref05_Has.mono | apply nameplateref05_Index.mono | apply nameplateref05_Meet.mono | apply nameplateref05_Read.mono | apply nameplateref05_Size.mono | apply nameplateref05_Text.mono | apply ranges_Read.mono | apply ranges_Text.mono | exact LeO.refl _ | exact LeO.none _ | refine LeO.ite ?_ ?_ | refine LeO.bind ?_ (fun _ => ?_)) | apply ih0 | apply ih1 | apply nameplatelaw05_lives.mono | apply nameplateref05_At.mono | apply nameplateref05_Check.mono | apply nameplateref05_Free.mono | apply nameplateref05_Has.mono | apply nameplateref05_Index.mono | apply nameplateref05_Meet.mono | apply nameplateref05_Read.mono | apply nameplateref05_Size.mono | apply nameplateref05_Text.mono | apply ranges_Read.mono | apply ranges_Text.mono | exact LeO.none _ | refine LeO.ite ?_ ?_ | refine LeO.bind ?_ (fun _ => ?_)
theorem nameplatelaw05_RangesCalls.mono : ∀ a0 a1 a2 a3 a4 a5 a6 a7 a8 a9 a10 a11 a12 a13 k, LeO (nameplatelaw05_RangesCalls.f k a0 a1 a2 a3 a4 a5 a6 a7 a8 a9 a10 a11 a12 a13) (nameplatelaw05_RangesCalls.f (k + 1) a0 a1 a2 a3 a4 a5 a6 a7 a8 a9 a10 a11 a12 a13) := by
 intro a0 a1 a2 a3 a4 a5 a6 a7 a8 a9 a10 a11 a12 a13 k
 obtain ⟨ih0, ih1⟩ := nameplatelaw05_RangesCalls.mono_l k
 unfold nameplatelaw05_RangesCalls.f
 repeat' first | (with_reducible first | apply ih0 | apply ih1 | apply nameplatelaw05_lives.mono | apply nameplateref05_At.mono | apply nameplateref05_Check.mono | apply nameplateref05_Free.mono | apply nameplateref05_Has.mono | apply nameplateref05_Index.mono | apply nameplateref05_Meet.mono | apply nameplateref05_Read.mono | apply nameplateref05_Size.mono | apply nameplateref05_Text.mono | apply ranges_Read.mono | apply ranges_Text.mono | exact LeO.refl _ | exact LeO.none _ | refine LeO.ite ?_ ?_ | refine LeO.bind ?_ (fun _ => ?_)) | apply ih0 | apply ih1 | apply nameplatelaw05_lives.mono | apply nameplateref05_At.mono | apply nameplateref05_Check.mono | apply nameplateref05_Free.mono | apply nameplateref05_Has.mono | apply nameplateref05_Index.mono | apply nameplateref05_Meet.mono | apply nameplateref05_Read.mono | apply nameplateref05_Size.mono | apply nameplateref05_Text.mono | apply ranges_Read.mono | apply ranges_Text.mono | exact LeO.none _ | refine LeO.ite ?_ ?_ | refine LeO.bind ?_ (fun _ => ?_)
def nameplatelaw05_RangesCalls.T13 : Bool × List (List Nat × List Nat) := (true, [([], []), ([], []), ([0, 1], [0, 1]), ([2], [2]), ([3], [3]), ([3], [3]), ([4, 5, 3], [3, 4, 5]), ([3, 6], [3, 6]), ([7, 3], [7]), ([8], [8]), ([8], [8]), ([9, 10, 8], [8, 9, 10]), ([8, 11], [8, 11]), ([12, 8], [12]), ([13], [13]), ([13], [13]), ([14, 15, 13], [13, 14, 15]), ([13, 16], [13, 16]), ([17, 13], [17]), ([18], [18]), ([18], [18]), ([19, 20, 18], [18, 19, 20]), ([18, 21], [18, 21]), ([22, 18], [22]), ([23], [23]), ([23], [23]), ([24, 25, 23], [23, 24, 25]), ([23, 26], [23, 26]), ([27, 23], [27]), ([28], [28]), ([28], [28]), ([29, 30, 28], [28, 29, 30]), ([28, 31], [28, 31]), ([32, 28], [32]), ([33], [33]), ([33], [33]), ([34, 35, 33], [33, 34, 35]), ([33, 36], [33, 36]), ([37, 33], [37]), ([38], [38]), ([39, 38, 38], [38, 39]), ([38], [38]), ([41, 40, 38], [38, 41]), ([40, 42, 38], [38, 40, 42]), ([38, 43], [38, 43])])
def nameplatelaw05_RangesCalls.B13 : List Nat := [0, 0, 3, 7, 15, 15, 63, 127, 255, 511, 511, 2047, 4095, 8191, 16383, 16383, 65535, 131071, 262143, 524287, 524287, 2097151, 4194303, 8388607, 16777215, 16777215, 67108863, 134217727, 268435455, 536870911, 536870911, 2147483647, 4294967295, 8589934591, 17179869183, 17179869183, 68719476735, 137438953471, 274877906943, 549755813887, 1099511627775, 549755813887, 4398046511103, 8796093022207, 17592186044415]
theorem nameplatelaw05_RangesCalls.tab13 : rtab .any (opsOf Tryz.f3 13) = nameplatelaw05_RangesCalls.T13 := by kernel_rfl
theorem nameplatelaw05_RangesCalls.bits13 : waitsOk nameplatelaw05_RangesCalls.T13.2 nameplatelaw05_RangesCalls.B13 = true := by kernel_rfl
def nameplatelaw05_RangesCalls.T15 : Bool × List (List Nat × List Nat) := (true, [([], []), ([0], [0]), ([], []), ([2, 1], [2]), ([1, 3], [1, 3]), ([4, 3], [4]), ([5], [5]), ([5], [5]), ([6, 7, 5, 5], [5, 6, 7]), ([5], [5]), ([5], [5]), ([9, 10, 8, 5], [5, 9, 10]), ([8, 11, 5], [5, 8, 11]), ([5, 12], [5, 12]), ([13, 11], [13]), ([14], [14]), ([14], [14]), ([15, 16, 14, 14], [14, 15, 16]), ([14], [14]), ([14], [14]), ([18, 19, 17, 14], [14, 18, 19]), ([17, 20, 14], [14, 17, 20]), ([14, 21], [14, 21]), ([22, 20], [22]), ([23], [23]), ([24, 23, 23], [23, 24]), ([25, 23], [23, 25]), ([26, 25, 23], [23, 26]), ([27], [27]), ([27], [27]), ([29, 27, 27], [27, 29]), ([28, 30, 30, 27], [27, 28, 30]), ([27], [27]), ([27], [27]), ([32, 33, 31, 27], [27, 32, 33]), ([31, 34, 27], [27, 31, 34]), ([27, 35, 23], [23, 27, 35]), ([23, 36], [23, 36]), ([37, 34, 0, 1, 2, 3, 4, 5, 6, 7, 8, 9, 10, 11, 12, 13, 14, 15, 16, 17, 18, 19, 20, 21, 22, 23, 24, 25, 26, 27, 28, 29, 30, 31, 32, 33, 34, 35, 36, 37], [37])])
def nameplatelaw05_RangesCalls.B15 : List Nat := [0, 1, 0, 7, 15, 31, 63, 63, 255, 63, 63, 2047, 4095, 8191, 16383, 32767, 32767, 131071, 32767, 32767, 1048575, 2097151, 4194303, 8388607, 16777215, 33554431, 67108863, 134217727, 268435455, 268435455, 805306367, 2147483647, 268435455, 268435455, 17179869183, 34359738367, 68719476735, 137438953471, 274877906943]
theorem nameplatelaw05_RangesCalls.tab15 : rtab .any (opsOf Tryz.f3 15) = nameplatelaw05_RangesCalls.T15 := by kernel_rfl
theorem nameplatelaw05_RangesCalls.bits15 : waitsOk nameplatelaw05_RangesCalls.T15.2 nameplatelaw05_RangesCalls.B15 = true := by kernel_rfl
set_option maxHeartbeats 8000000 in
set_option maxRecDepth 100000 in
theorem nameplatelaw05_RangesCalls.calls (k : Nat) (a0_0 : Bool) (a0_1 : Int) (a0_2 : Int) (a0_3 : Int) (a1_0 : Bool) (a1_1 : Int) (a1_2 : Int) (a1_3 : Int) (a2 : ByteArray) (a3 : Int) (a4_0 : Bool) (a4_1 : Int) (a4_2 : Int) (A5 : Option Addr) (c5 : Nat) (l5 : List (S26)) (r : Bool) (w : World) (hG_ : Aside0 (AddrLib.G w)) (hr5 : Kd.C k26 w A5 l5.length l5) (hc5 : l5.length ≤ c5) (hr_ : Aside0 (r = true)) (h : nameplatelaw05_RangesCalls.f k a0_0 a0_1 a0_2 a0_3 a1_0 a1_1 a1_2 a1_3 a2 a3 a4_0 a4_1 a4_2 l5 = some r) :
  Calls Tryz.prog 3 #[.agg #[.bool a0_0, .int .u64 a0_1, .int .u64 a0_2, .int .i64 a0_3], .agg #[.bool a1_0, .int .u64 a1_1, .int .u64 a1_2, .int .i64 a1_3], .string a2, .int .i64 a3, .agg #[.bool a4_0, .int .u64 a4_1, .int .u64 a4_2], .slice A5 l5.length c5] w fun e w' => e = .returned (.bool r) ∧ Below w.heap.size w w' := by
 have hu26 := Tryz.underlying26
 have hu24 := Tryz.underlying24
 have HR5 := aM hr5
 have HC5 := aM hc5
 clear hr5 hc5
 have HB := aM (Below.refl w.heap.size w)
 have H : ((nameplatelaw05_lives.f k).bind fun t401 => (if t401 = true then (if (a2.size : Int) > 100 then (nameplatelaw05_RangesCalls.j0 k a2 a3 l5 true a0_0 a0_1 a0_2 a0_3 a1_0 a1_1 a1_2 a1_3 a4_0 a4_1 a4_2) else (nameplatelaw05_RangesCalls.j0 k a2 a3 l5 (decide ((l5.length : Int) > 20)) a0_0 a0_1 a0_2 a0_3 a1_0 a1_1 a1_2 a1_3 a4_0 a4_1 a4_2)) else (some false))) = some r := h
 clear h
 obtain ⟨t401, A7, H⟩ := oB H
 try dsimp only at H
 by_cases c8 : t401 = true
 rotate_left
 ·replace c8 := Bool.eq_false_iff.mpr c8
  subst c8
  rw [if_neg (show ¬ (false = true) by decide)] at H
  exact absurd ((Option.some.inj H).trans hr_.out) (by decide)

 subst c8
 rw [if_pos rfl] at H
 have HC9 := aM H
 clear H
 go_enter Tryz.func3, Tryz.ntmps3
 go_upto_region 3 with (first | ((with_reducible refine gD 6 rfl ?_); (try (refine gate_guard (by rfl) ?_; dsimp only)); refine bX 6 #[.bool a0_0, .int .u64 a0_1, .int .u64 a0_2, .int .i64 a0_3] 26 ?_; intro gb398 hg w10 hbox hb; have BK398 := aM hbox; have GW398 := gS hg HB.out; have GE398 := GW398; replace HB := bS HB.out hb; clear hb hbox hg) | ((with_reducible refine gD 7 rfl ?_); (try (refine gate_guard (by rfl) ?_; dsimp only)); refine bX 7 #[.bool a1_0, .int .u64 a1_1, .int .u64 a1_2, .int .i64 a1_3] 26 ?_; intro gb399 hg w11 hbox hb; have BK399 := aM hbox; have GW399 := gS hg HB.out; have GE399 := GW399; have NB398_399 := nB hg BK398.out; have NB399_398 := nS (nB hg BK398.out); replace BK398 := kB BK398.out hb; replace HB := bS HB.out hb; clear hb hbox hg) | ((with_reducible refine gD 10 rfl ?_); (try (refine gate_guard (by rfl) ?_; dsimp only)); refine bX 10 #[.bool a4_0, .int .u64 a4_1, .int .u64 a4_2] 24 ?_; intro gb400 hg w12 hbox hb; have BK400 := aM hbox; have GW400 := gS hg HB.out; have GE400 := GW400; have NB398_400 := nB hg BK398.out; have NB400_398 := nS (nB hg BK398.out); have NB399_400 := nB hg BK399.out; have NB400_399 := nS (nB hg BK399.out); replace BK398 := kB BK398.out hb; replace BK399 := kB BK399.out hb; replace HB := bS HB.out hb; clear hb hbox hg) | ((with_reducible refine gC 4 rfl ?_); refine gL (some 29) Tryz.func4 #[] ?_; (with_reducible refine (nameplatelaw05_lives.calls k  true _ ⟨hG_.out.below (tG HB.out)⟩ A7.out).mono ?_); rintro e w13 ⟨rfl, hb⟩; refine ⟨_, rfl, ?_⟩; replace BK398 := kB BK398.out hb; replace BK399 := kB BK399.out hb; replace BK400 := kB BK400.out hb; replace HB := bS HB.out hb; (try clear hb)))
 (try simp only [Act.put, List.setIfInBounds_toArray, List.set_cons_zero, List.set_cons_succ])
 go_cut [38] (fun v38 wc => ∃ (kq : Nat) (x38_8 : Bool), v38 = .bool x38_8 ∧ Aside0 (nameplatelaw05_RangesCalls.j0 kq a2 a3 l5 x38_8 a0_0 a0_1 a0_2 a0_3 a1_0 a1_1 a1_2 a1_3 a4_0 a4_1 a4_2 = some r) ∧ Aside0 (kq ≤ k) ∧ Aside0 (wc.heap[gb398]? = some (.cells #[.bool a0_0, .int .u64 a0_1, .int .u64 a0_2, .int .i64 a0_3] 26 (0, 0))) ∧ Aside0 (wc.heap[gb399]? = some (.cells #[.bool a1_0, .int .u64 a1_1, .int .u64 a1_2, .int .i64 a1_3] 26 (0, 0))) ∧ Aside0 (wc.heap[gb400]? = some (.cells #[.bool a4_0, .int .u64 a4_1, .int .u64 a4_2] 24 (0, 0))) ∧ Aside0 (Below w.heap.size w wc))
 case first =>
  have H := HC9.out
  clear HC9
  by_cases c14 : (a2.size : Int) > 100
  rotate_left
  ·rw [if_neg c14] at H
   have c14b0 : decide (100 < (a2.size : Int)) = false := decide_eq_false c14
   have c14b1 : decide (100 < a2.size) = false := decide_eq_false (by omega)
   clear c14
   (first | rw [c14b0] | (simp only [i64_w, i32_w]; rw [c14b0]) | skip)
   have H' := aM H
   clear H
   go_wp2
   go_meet
   case rel => exact ⟨_, (decide ((l5.length : Int) > 20)), tF, H', ⟨by first | omega | exact Nat.le_refl _⟩, ⟨tK BK398.out⟩, ⟨tK BK399.out⟩, ⟨tK BK400.out⟩, ⟨tB HB.out⟩⟩
  rw [if_pos c14] at H
  have c14b0 : decide (100 < (a2.size : Int)) = true := decide_eq_true c14
  have c14b1 : decide (100 < a2.size) = true := decide_eq_true (by omega)
  clear c14
  (first | rw [c14b0] | (simp only [i64_w, i32_w]; rw [c14b0]) | skip)
  have H' := aM H
  clear H
  go_wp2
  go_meet
  case rel => exact ⟨_, (true), tF, H', ⟨by first | omega | exact Nat.le_refl _⟩, ⟨tK BK398.out⟩, ⟨tK BK399.out⟩, ⟨tK BK400.out⟩, ⟨tB HB.out⟩⟩
 case rest =>
  clear HC9
  try clear c1
  try clear p2
  try clear c3
  try clear c4
  try clear c5
  try clear c8
  try clear c14
  try clear c14b0
  try clear c14b1
  obtain ⟨kq, x38_8, rfl, HA, HJ8, BK398, BK399, BK400, HB⟩ := hcut
  cases kq with
  | zero => exact absurd HA.out (by simp [nameplatelaw05_RangesCalls.j0])
  | succ kj8 =>
   have H := HA.out
   clear HA
   simp only [nameplatelaw05_RangesCalls.j0] at H
   by_cases c15 : x38_8 = true
   rotate_left
   ·replace c15 := Bool.eq_false_iff.mpr c15
    subst c15
    rw [if_neg (show ¬ (false = true) by decide)] at H
    obtain ⟨⟨t402, t403, t404, t405, t406⟩, A16, H⟩ := oB H
    try dsimp only at H
    obtain ⟨⟨t408, t409, t410, t411, t412⟩, A17, H⟩ := oB H
    try dsimp only at H
    obtain ⟨⟨t414, t415⟩, A18, H⟩ := oB H
    try dsimp only at H
    obtain ⟨⟨t416, t417⟩, A19, H⟩ := oB H
    try dsimp only at H
    obtain ⟨⟨t418, t419, t420, t421⟩, A20, H⟩ := oB H
    try dsimp only at H
    obtain ⟨⟨t423, t424, t425, t426⟩, A21, H⟩ := oB H
    try dsimp only at H
    obtain ⟨⟨t428, t429⟩, A22, H⟩ := oB H
    try dsimp only at H
    obtain ⟨⟨t430, t431⟩, A23, H⟩ := oB H
    try dsimp only at H
    have HC24 := aM H
    clear H
    go_upto_region 13 with (first | ((with_reducible refine gC 5 rfl ?_); refine gL (some 41) Tryz.func5 #[.string a2] ?_; (with_reducible refine (ranges_Read.calls kj8 a2 t402 t403 t404 t405 t406 _ ⟨hG_.out.below (tG HB.out)⟩ A16.out).mono ?_); rintro e w25 ⟨rfl, hb⟩; refine ⟨_, rfl, ?_⟩; replace BK398 := kB BK398.out hb; replace BK399 := kB BK399.out hb; replace BK400 := kB BK400.out hb; replace HB := bS HB.out hb; (try clear hb)) | ((with_reducible refine gD 13 rfl ?_); (try (refine gate_guard (by rfl) ?_; dsimp only)); refine bX 13 #[.bool false, .int .u64 0, .int .u64 0, .int .i64 0] 26 ?_; intro gb407 hg w26 hbox hb; have BK407 := aM hbox; have GW407 := gS hg HB.out; have GE407 := GW407; have NB398_407 := nB hg BK398.out; have NB407_398 := nS (nB hg BK398.out); have NB399_407 := nB hg BK399.out; have NB407_399 := nS (nB hg BK399.out); have NB400_407 := nB hg BK400.out; have NB407_400 := nS (nB hg BK400.out); replace BK398 := kB BK398.out hb; replace BK399 := kB BK399.out hb; replace BK400 := kB BK400.out hb; replace HB := bS HB.out hb; clear hb hbox hg; have hnb27 := NB407_398.out; have hnc27 := NB398_407.out; have hnb28 := NB407_399.out; have hnc28 := NB399_407.out; have hnb29 := NB407_400.out; have hnc29 := NB400_407.out; obtain ⟨hcz30_0, hcz30_1, hcz30_2, hcz30_3, hfz30_0, hfz30_1, hfz30_2, hfz30_3⟩ := kY4 BK407.out) | ((with_reducible refine gC 6 rfl ?_); refine gL (some 46) Tryz.func6 #[.string a2] ?_; (with_reducible refine (nameplateref05_Read.calls kj8 a2 t408 t409 t410 t411 t412 _ A17.out).mono ?_); rintro e w31 ⟨rfl, hb⟩; refine ⟨_, rfl, ?_⟩; replace BK398 := kP (o := .cells #[.bool a0_0, .int .u64 a0_1, .int .u64 a0_2, .int .i64 a0_3] 26 (0, 0)) BK398.out hb; replace BK399 := kP (o := .cells #[.bool a1_0, .int .u64 a1_1, .int .u64 a1_2, .int .i64 a1_3] 26 (0, 0)) BK399.out hb; replace BK400 := kP (o := .cells #[.bool a4_0, .int .u64 a4_1, .int .u64 a4_2] 24 (0, 0)) BK400.out hb; replace BK407 := kP (o := .cells #[.bool t402, .int .u64 t403, .int .u64 t404, .int .i64 t405] 26 (0, 0)) BK407.out hb; replace HB := bS HB.out hb; (try clear hb)) | ((with_reducible refine gD 15 rfl ?_); (try (refine gate_guard (by rfl) ?_; dsimp only)); refine bX 15 #[.bool false, .int .u64 0, .int .u64 0, .int .i64 0] 26 ?_; intro gb413 hg w32 hbox hb; have BK413 := aM hbox; have GW413 := gS hg HB.out; have GE413 := GW413; have NB398_413 := nB hg BK398.out; have NB413_398 := nS (nB hg BK398.out); have NB399_413 := nB hg BK399.out; have NB413_399 := nS (nB hg BK399.out); have NB400_413 := nB hg BK400.out; have NB413_400 := nS (nB hg BK400.out); have NB407_413 := nB hg BK407.out; have NB413_407 := nS (nB hg BK407.out); replace BK398 := kB BK398.out hb; replace BK399 := kB BK399.out hb; replace BK400 := kB BK400.out hb; replace BK407 := kB BK407.out hb; replace HB := bS HB.out hb; clear hb hbox hg; have hnb33 := NB413_398.out; have hnc33 := NB398_413.out; have hnb34 := NB413_399.out; have hnc34 := NB399_413.out; have hnb35 := NB413_400.out; have hnc35 := NB400_413.out; have hnb36 := NB413_407.out; have hnc36 := NB407_413.out; obtain ⟨hcz37_0, hcz37_1, hcz37_2, hcz37_3, hfz37_0, hfz37_1, hfz37_2, hfz37_3⟩ := kY4 BK413.out; have hnb38 := NB398_399.out; have hnc38 := NB399_398.out; have hnb39 := NB398_400.out; have hnc39 := NB400_398.out; obtain ⟨hcz40_0, hcz40_1, hcz40_2, hcz40_3, hfz40_0, hfz40_1, hfz40_2, hfz40_3⟩ := kY4 BK398.out) | ((with_reducible refine gC 7 rfl ?_); refine gL (some 51) Tryz.func7 #[.agg #[.bool a0_0, .int .u64 a0_1, .int .u64 a0_2, .int .i64 a0_3]] ?_; (with_reducible refine (ranges_Text.calls kj8 a0_0 a0_1 a0_2 a0_3 t414 t415 _ ⟨hG_.out.below (tG HB.out)⟩ A18.out).mono ?_); rintro e w41 ⟨rfl, hb⟩; refine ⟨_, rfl, ?_⟩; replace BK398 := kP (o := .cells #[.bool a0_0, .int .u64 a0_1, .int .u64 a0_2, .int .i64 a0_3] 26 (0, 0)) BK398.out hb; replace BK399 := kP (o := .cells #[.bool a1_0, .int .u64 a1_1, .int .u64 a1_2, .int .i64 a1_3] 26 (0, 0)) BK399.out hb; replace BK400 := kP (o := .cells #[.bool a4_0, .int .u64 a4_1, .int .u64 a4_2] 24 (0, 0)) BK400.out hb; replace BK407 := kP (o := .cells #[.bool t402, .int .u64 t403, .int .u64 t404, .int .i64 t405] 26 (0, 0)) BK407.out hb; replace BK413 := kP (o := .cells #[.bool t408, .int .u64 t409, .int .u64 t410, .int .i64 t411] 26 (0, 0)) BK413.out hb; replace HB := bS HB.out hb; (try clear hb); obtain ⟨hcz42_0, hcz42_1, hcz42_2, hcz42_3, hfz42_0, hfz42_1, hfz42_2, hfz42_3⟩ := kY4 BK398.out) | ((with_reducible refine gC 8 rfl ?_); refine gL (some 56) Tryz.func8 #[.agg #[.bool a0_0, .int .u64 a0_1, .int .u64 a0_2, .int .i64 a0_3]] ?_; (with_reducible refine (nameplateref05_Text.calls kj8 a0_0 a0_1 a0_2 a0_3 t416 t417 _ A19.out).mono ?_); rintro e w43 ⟨rfl, hb⟩; refine ⟨_, rfl, ?_⟩; replace BK398 := kB BK398.out hb; replace BK399 := kB BK399.out hb; replace BK400 := kB BK400.out hb; replace BK407 := kB BK407.out hb; replace BK413 := kB BK413.out hb; replace HB := bS HB.out hb; (try clear hb); obtain ⟨hcz44_0, hcz44_1, hcz44_2, hcz44_3, hfz44_0, hfz44_1, hfz44_2, hfz44_3⟩ := kY4 BK398.out) | ((with_reducible refine gC 9 rfl ?_); refine gL (some 62) Tryz.func9 #[.agg #[.bool a0_0, .int .u64 a0_1, .int .u64 a0_2, .int .i64 a0_3], .int .i64 a3] ?_; (with_reducible refine (ranges_At.calls a0_0 a0_1 a0_2 a0_3 a3 t418 t419 t420 t421 _ A20.out).mono ?_); rintro e w45 ⟨rfl, hb⟩; refine ⟨_, rfl, ?_⟩; replace BK398 := kB BK398.out hb; replace BK399 := kB BK399.out hb; replace BK400 := kB BK400.out hb; replace BK407 := kB BK407.out hb; replace BK413 := kB BK413.out hb; replace HB := bS HB.out hb; (try clear hb)) | ((with_reducible refine gD 21 rfl ?_); (try (refine gate_guard (by rfl) ?_; dsimp only)); refine bX 21 #[.bool false, .int .u64 0, .int .u64 0] 24 ?_; intro gb422 hg w46 hbox hb; have BK422 := aM hbox; have GW422 := gS hg HB.out; have GE422 := GW422; have NB398_422 := nB hg BK398.out; have NB422_398 := nS (nB hg BK398.out); have NB399_422 := nB hg BK399.out; have NB422_399 := nS (nB hg BK399.out); have NB400_422 := nB hg BK400.out; have NB422_400 := nS (nB hg BK400.out); have NB407_422 := nB hg BK407.out; have NB422_407 := nS (nB hg BK407.out); have NB413_422 := nB hg BK413.out; have NB422_413 := nS (nB hg BK413.out); replace BK398 := kB BK398.out hb; replace BK399 := kB BK399.out hb; replace BK400 := kB BK400.out hb; replace BK407 := kB BK407.out hb; replace BK413 := kB BK413.out hb; replace HB := bS HB.out hb; clear hb hbox hg; have hnb47 := NB422_398.out; have hnc47 := NB398_422.out; have hnb48 := NB422_399.out; have hnc48 := NB399_422.out; have hnb49 := NB422_400.out; have hnc49 := NB400_422.out; have hnb50 := NB422_407.out; have hnc50 := NB407_422.out; have hnb51 := NB422_413.out; have hnc51 := NB413_422.out; obtain ⟨hcz52_0, hcz52_1, hcz52_2, hfz52_0, hfz52_1, hfz52_2⟩ := kY3 BK422.out; obtain ⟨hcz53_0, hcz53_1, hcz53_2, hcz53_3, hfz53_0, hfz53_1, hfz53_2, hfz53_3⟩ := kY4 BK398.out) | ((with_reducible refine gC 10 rfl ?_); refine gL (some 68) Tryz.func10 #[.agg #[.bool a0_0, .int .u64 a0_1, .int .u64 a0_2, .int .i64 a0_3], .int .i64 a3] ?_; (with_reducible refine (nameplateref05_At.calls kj8 a0_0 a0_1 a0_2 a0_3 a3 t423 t424 t425 t426 _ A21.out).mono ?_); rintro e w54 ⟨rfl, hb⟩; refine ⟨_, rfl, ?_⟩; replace BK398 := kP (o := .cells #[.bool a0_0, .int .u64 a0_1, .int .u64 a0_2, .int .i64 a0_3] 26 (0, 0)) BK398.out hb; replace BK399 := kP (o := .cells #[.bool a1_0, .int .u64 a1_1, .int .u64 a1_2, .int .i64 a1_3] 26 (0, 0)) BK399.out hb; replace BK400 := kP (o := .cells #[.bool a4_0, .int .u64 a4_1, .int .u64 a4_2] 24 (0, 0)) BK400.out hb; replace BK407 := kP (o := .cells #[.bool t402, .int .u64 t403, .int .u64 t404, .int .i64 t405] 26 (0, 0)) BK407.out hb; replace BK413 := kP (o := .cells #[.bool t408, .int .u64 t409, .int .u64 t410, .int .i64 t411] 26 (0, 0)) BK413.out hb; replace BK422 := kP (o := .cells #[.bool t418, .int .u64 t419, .int .u64 t420] 24 (0, 0)) BK422.out hb; replace HB := bS HB.out hb; (try clear hb)) | ((with_reducible refine gD 23 rfl ?_); (try (refine gate_guard (by rfl) ?_; dsimp only)); refine bX 23 #[.bool false, .int .u64 0, .int .u64 0] 24 ?_; intro gb427 hg w55 hbox hb; have BK427 := aM hbox; have GW427 := gS hg HB.out; have GE427 := GW427; have NB398_427 := nB hg BK398.out; have NB427_398 := nS (nB hg BK398.out); have NB399_427 := nB hg BK399.out; have NB427_399 := nS (nB hg BK399.out); have NB400_427 := nB hg BK400.out; have NB427_400 := nS (nB hg BK400.out); have NB407_427 := nB hg BK407.out; have NB427_407 := nS (nB hg BK407.out); have NB413_427 := nB hg BK413.out; have NB427_413 := nS (nB hg BK413.out); have NB422_427 := nB hg BK422.out; have NB427_422 := nS (nB hg BK422.out); replace BK398 := kB BK398.out hb; replace BK399 := kB BK399.out hb; replace BK400 := kB BK400.out hb; replace BK407 := kB BK407.out hb; replace BK413 := kB BK413.out hb; replace BK422 := kB BK422.out hb; replace HB := bS HB.out hb; clear hb hbox hg; have hnb56 := NB427_398.out; have hnc56 := NB398_427.out; have hnb57 := NB427_399.out; have hnc57 := NB399_427.out; have hnb58 := NB427_400.out; have hnc58 := NB400_427.out; have hnb59 := NB427_407.out; have hnc59 := NB407_427.out; have hnb60 := NB427_413.out; have hnc60 := NB413_427.out; have hnb61 := NB427_422.out; have hnc61 := NB422_427.out; obtain ⟨hcz62_0, hcz62_1, hcz62_2, hfz62_0, hfz62_1, hfz62_2⟩ := kY3 BK427.out; obtain ⟨hcz63_0, hcz63_1, hcz63_2, hcz63_3, hfz63_0, hfz63_1, hfz63_2, hfz63_3⟩ := kY4 BK398.out; have hnb64 := NB400_399.out; have hnc64 := NB399_400.out; obtain ⟨hcz65_0, hcz65_1, hcz65_2, hfz65_0, hfz65_1, hfz65_2⟩ := kY3 BK400.out) | ((with_reducible refine gC 11 rfl ?_); refine gL (some 74) Tryz.func11 #[.agg #[.bool a0_0, .int .u64 a0_1, .int .u64 a0_2, .int .i64 a0_3], .agg #[.bool a4_0, .int .u64 a4_1, .int .u64 a4_2]] ?_; (with_reducible refine (ranges_Index.calls a0_0 a0_1 a0_2 a0_3 a4_0 a4_1 a4_2 t428 t429 _ A22.out).mono ?_); rintro e w66 ⟨rfl, hb⟩; refine ⟨_, rfl, ?_⟩; replace BK398 := kP (o := .cells #[.bool a0_0, .int .u64 a0_1, .int .u64 a0_2, .int .i64 a0_3] 26 (0, 0)) BK398.out hb; replace BK399 := kP (o := .cells #[.bool a1_0, .int .u64 a1_1, .int .u64 a1_2, .int .i64 a1_3] 26 (0, 0)) BK399.out hb; replace BK400 := kP (o := .cells #[.bool a4_0, .int .u64 a4_1, .int .u64 a4_2] 24 (0, 0)) BK400.out hb; replace BK407 := kP (o := .cells #[.bool t402, .int .u64 t403, .int .u64 t404, .int .i64 t405] 26 (0, 0)) BK407.out hb; replace BK413 := kP (o := .cells #[.bool t408, .int .u64 t409, .int .u64 t410, .int .i64 t411] 26 (0, 0)) BK413.out hb; replace BK422 := kP (o := .cells #[.bool t418, .int .u64 t419, .int .u64 t420] 24 (0, 0)) BK422.out hb; replace BK427 := kP (o := .cells #[.bool t423, .int .u64 t424, .int .u64 t425] 24 (0, 0)) BK427.out hb; replace HB := bS HB.out hb; (try clear hb); obtain ⟨hcz67_0, hcz67_1, hcz67_2, hcz67_3, hfz67_0, hfz67_1, hfz67_2, hfz67_3⟩ := kY4 BK398.out; obtain ⟨hcz68_0, hcz68_1, hcz68_2, hfz68_0, hfz68_1, hfz68_2⟩ := kY3 BK400.out) | ((with_reducible refine gC 12 rfl ?_); refine gL (some 80) Tryz.func12 #[.agg #[.bool a0_0, .int .u64 a0_1, .int .u64 a0_2, .int .i64 a0_3], .agg #[.bool a4_0, .int .u64 a4_1, .int .u64 a4_2]] ?_; (with_reducible refine (nameplateref05_Index.calls kj8 a0_0 a0_1 a0_2 a0_3 a4_0 a4_1 a4_2 t430 t431 _ A23.out).mono ?_); rintro e w69 ⟨rfl, hb⟩; refine ⟨_, rfl, ?_⟩; replace BK398 := kB BK398.out hb; replace BK399 := kB BK399.out hb; replace BK400 := kB BK400.out hb; replace BK407 := kB BK407.out hb; replace BK413 := kB BK413.out hb; replace BK422 := kB BK422.out hb; replace BK427 := kB BK427.out hb; replace HB := bS HB.out hb; (try clear hb)))
    (try simp only [Act.put, List.setIfInBounds_toArray, List.set_cons_zero, List.set_cons_succ])
    go_cut [127] (fun v127 wc => ∃ (kq : Nat) (x127_23 : Bool), v127 = .bool x127_23 ∧ Aside0 (nameplatelaw05_RangesCalls.j1 kq l5 x127_23 a0_0 a0_1 a0_2 a0_3 a1_0 a1_1 a1_2 a1_3 a4_0 a4_1 a4_2 = some r) ∧ Aside0 (kq ≤ kj8) ∧ Aside0 (wc.heap[gb398]? = some (.cells #[.bool a0_0, .int .u64 a0_1, .int .u64 a0_2, .int .i64 a0_3] 26 (0, 0))) ∧ Aside0 (wc.heap[gb399]? = some (.cells #[.bool a1_0, .int .u64 a1_1, .int .u64 a1_2, .int .i64 a1_3] 26 (0, 0))) ∧ Aside0 (wc.heap[gb400]? = some (.cells #[.bool a4_0, .int .u64 a4_1, .int .u64 a4_2] 24 (0, 0))) ∧ Aside0 (wc.heap[gb407]? = some (.cells #[.bool t402, .int .u64 t403, .int .u64 t404, .int .i64 t405] 26 (0, 0))) ∧ Aside0 (wc.heap[gb413]? = some (.cells #[.bool t408, .int .u64 t409, .int .u64 t410, .int .i64 t411] 26 (0, 0))) ∧ Aside0 (wc.heap[gb422]? = some (.cells #[.bool t418, .int .u64 t419, .int .u64 t420] 24 (0, 0))) ∧ Aside0 (wc.heap[gb427]? = some (.cells #[.bool t423, .int .u64 t424, .int .u64 t425] 24 (0, 0))) ∧ Aside0 (Below w.heap.size w wc))
    case first =>
     have H := HC24.out
     clear HC24
     by_cases c70 : ((!(t402 == t408) || (!(t403 == t409) || (!(t404 == t410)))) || (!(t405 == t411))) = true
     rotate_left
     ·rw [if_neg c70] at H
      have c70b0 : ((!(t402 == t408) || (!(t403 == t409) || (!(t404 == t410)))) || (!(t405 == t411))) = false := by simpa using c70
      clear c70
      (first | rw [c70b0] | (simp only [i64_w, i32_w]; rw [c70b0]) | skip)
      by_cases c72 : t406 = t412
      rotate_left
      ·rw [if_neg c72] at H
       exact (j1_no hr_ H).elim
      rw [if_pos c72] at H
      have c72b0 : (t406 == t412) = true := beq_iff_eq.mpr c72
      have c72b1 : (t406 != t412) = false := bne_eq_false_iff_eq.mpr c72
      clear c72
      by_cases c73 : t414.toList = t416.toList
      rotate_left
      ·rw [if_neg c73] at H
       exact (j1_no hr_ H).elim
      rw [if_pos c73] at H
      have c73b0 : (t414.toList == t416.toList) = true := beq_iff_eq.mpr c73
      have c73b1 : (t414.toList != t416.toList) = false := bne_eq_false_iff_eq.mpr c73
      clear c73
      by_cases c74 : t415 = t417
      rotate_left
      ·rw [if_neg c74] at H
       exact (j1_no hr_ H).elim
      rw [if_pos c74] at H
      have c74b0 : (t415 == t417) = true := beq_iff_eq.mpr c74
      have c74b1 : (t415 != t417) = false := bne_eq_false_iff_eq.mpr c74
      clear c74
      by_cases c75 : (!(t418 == t423) || (!(t419 == t424) || (!(t420 == t425)))) = true
      rotate_left
      ·rw [if_neg c75] at H
       have c75b0 : (!(t418 == t423) || (!(t419 == t424) || (!(t420 == t425)))) = false := by simpa using c75
       clear c75
       by_cases c77 : (t421 != t426) = true
       rotate_left
       ·rw [if_neg c77] at H
        have c77b0 : (t421 != t426) = false := by simpa using c77
        (try (have c77b9 : (t421 = t426) = True := eq_true (bne_eq_false_iff_eq.1 c77b0)))
        (try (have c77b1 : decide (t421 = t426) = true := by simpa using c77))
        (try (have c77b2 : (t421 == t426) = true := by simpa using c77))
        clear c77
        by_cases c79 : t428 = t430
        rotate_left
        ·rw [if_neg c79] at H
         exact (j1_no hr_ H).elim
        rw [if_pos c79] at H
        have c79b0 : (t428 == t430) = true := beq_iff_eq.mpr c79
        have c79b1 : (t428 != t430) = false := bne_eq_false_iff_eq.mpr c79
        clear c79
        by_cases c80 : (t429 != t431) = true
        rotate_left
        ·rw [if_neg c80] at H
         have c80b0 : (t429 != t431) = false := by simpa using c80
         (try (have c80b9 : (t429 = t431) = True := eq_true (bne_eq_false_iff_eq.1 c80b0)))
         (try (have c80b1 : decide (t429 = t431) = true := by simpa using c80))
         (try (have c80b2 : (t429 == t431) = true := by simpa using c80))
         clear c80
         obtain ⟨t432, A82, H⟩ := oB H
         try dsimp only at H
         obtain ⟨t433, A83, H⟩ := oB H
         try dsimp only at H
         have H' := aM H
         clear H
         try go_wp2
         replace BK398 := aM (kD BK398.out)
         replace BK399 := aM (kD BK399.out)
         replace BK400 := aM (kD BK400.out)
         replace BK407 := aM (kD BK407.out)
         replace BK413 := aM (kD BK413.out)
         replace BK422 := aM (kD BK422.out)
         replace BK427 := aM (kD BK427.out)
         replace HB := aM (bD HB.out)
         refine pS 45 (S := fun w' => cZ4 w' gb407 (.bool t402) (.int .u64 t403) (.int .u64 t404) (.int .i64 t405) ∧ cZ4 w' gb413 (.bool t408) (.int .u64 t409) (.int .u64 t410) (.int .i64 t411) ∧ cZ3 w' gb422 (.bool t418) (.int .u64 t419) (.int .u64 t420) ∧ cZ3 w' gb427 (.bool t423) (.int .u64 t424) (.int .u64 t425) ∧ cZ4 w' gb398 (.bool a0_0) (.int .u64 a0_1) (.int .u64 a0_2) (.int .i64 a0_3)) (ds := []) ⟨kZ4 BK407.out, kZ4 BK413.out, kZ3 BK422.out, kZ3 BK427.out, kZ4 BK398.out⟩ (fun hHeld => ?_); refine with_tabW nameplatelaw05_RangesCalls.tab13 nameplatelaw05_RangesCalls.bits13 (fun HT_ HW_ => ?_)
         generalize w69.drew = w84 at BK398 BK399 BK400 BK407 BK413 BK422 BK427 HB hHeld ⊢
         refine pT 0 83 ?_
         refine pT 1 84 ?_
         refine pP 2 85 ?_
         refine pP 3 86 ?_
         refine pP 4 87 ?_
         refine pP 5 88 ?_
         refine pP 6 89 ?_
         refine pP 7 90 ?_
         refine pP 8 91 ?_
         refine pP 9 92 ?_
         refine pP 10 93 ?_
         refine pP 11 94 ?_
         refine pP 12 95 ?_
         refine pP 13 96 ?_
         refine pP 14 97 ?_
         refine pP 15 98 ?_
         refine pP 16 99 ?_
         refine pP 17 100 ?_
         refine pP 18 101 ?_
         refine pT 19 102 ?_
         refine pT 20 103 ?_
         refine pP 21 104 ?_
         refine pP 22 105 ?_
         refine pP 23 106 ?_
         refine pP 24 107 ?_
         refine pP 25 108 ?_
         refine pP 26 109 ?_
         refine pP 27 110 ?_
         refine pP 28 111 ?_
         refine pP 29 112 ?_
         refine pP 30 113 ?_
         refine pP 31 114 ?_
         refine pP 32 115 ?_
         refine pP 33 116 ?_
         refine pP 34 117 ?_
         refine pP 35 118 ?_
         refine pP 36 119 ?_
         refine pP 37 120 ?_
         refine pP 38 121 ?_
         refine pT 39 122 ?_
         refine pT 41 124 ?_
         refine pO 40 123 (fun K hK => ?_)
         refine gO Tryz.func13 #[.agg #[.bool a0_0, .int .u64 a0_1, .int .u64 a0_2, .int .i64 a0_3]] ?_
         with_reducible refine (ranges_Size.calls a0_0 a0_1 a0_2 a0_3 t432 _ A82.out).mono ?_
         rintro e w85 ⟨rfl, hb⟩
         refine ⟨_, rfl, ?_⟩
         replace BK398 := kB BK398.out hb
         replace BK399 := kB BK399.out hb
         replace BK400 := kB BK400.out hb
         replace BK407 := kB BK407.out hb
         replace BK413 := kB BK413.out hb
         replace BK422 := kB BK422.out hb
         replace BK427 := kB BK427.out hb
         replace HB := bS HB.out hb
         (try clear hb)
         refine hK.out _ _ ⟨kZ4 BK407.out, kZ4 BK413.out, kZ3 BK422.out, kZ3 BK427.out, kZ4 BK398.out⟩ (fun hHeld => ?_)
         clear hK K
         refine pN ?_
         refine pO 42 125 (fun K hK => ?_)
         refine gO Tryz.func14 #[.agg #[.bool a0_0, .int .u64 a0_1, .int .u64 a0_2, .int .i64 a0_3]] ?_
         with_reducible refine (nameplateref05_Size.calls kj8 a0_0 a0_1 a0_2 a0_3 t433 _ A83.out).mono ?_
         rintro e w86 ⟨rfl, hb⟩
         refine ⟨_, rfl, ?_⟩
         replace BK398 := kB BK398.out hb
         replace BK399 := kB BK399.out hb
         replace BK400 := kB BK400.out hb
         replace BK407 := kB BK407.out hb
         replace BK413 := kB BK413.out hb
         replace BK422 := kB BK422.out hb
         replace BK427 := kB BK427.out hb
         replace HB := bS HB.out hb
         (try clear hb)
         refine hK.out _ _ ⟨kZ4 BK407.out, kZ4 BK413.out, kZ3 BK422.out, kZ3 BK427.out, kZ4 BK398.out⟩ (fun hHeld => ?_)
         clear hK K
         refine pN ?_
         refine pP 43 126 ?_
         refine pP 44 127 ?_
         refine pD ?_
         try go_wp2
         (try (have e_ : t421 = t426 := bne_eq_false_iff_eq.1 c77b0; subst e_))
         (try (have e_ : t429 = t431 := bne_eq_false_iff_eq.1 c80b0; subst e_))
         go_meet
         case rel => exact ⟨_, ((t432 != t433)), tF, H', ⟨by have := HJ8.out; first | omega | exact Nat.le_refl _⟩, ⟨tK BK398.out⟩, ⟨tK BK399.out⟩, ⟨tK BK400.out⟩, ⟨tK BK407.out⟩, ⟨tK BK413.out⟩, ⟨tK BK422.out⟩, ⟨tK BK427.out⟩, ⟨tB HB.out⟩⟩
        rw [if_pos c80] at H
        exact (j1_no hr_ H).elim
       rw [if_pos c77] at H
       exact (j1_no hr_ H).elim
      rw [if_pos c75] at H
      exact (j1_no hr_ H).elim
     rw [if_pos c70] at H
     exact (j1_no hr_ H).elim
    case rest =>
     clear HC24
     try clear p2
     try clear c7
     try clear c72
     try clear c72b0
     try clear c72b1
     obtain ⟨kq, x127_23, rfl, HA, HJ23, BK398, BK399, BK400, BK407, BK413, BK422, BK427, HB⟩ := hcut
     cases kq with
     | zero => exact absurd HA.out (by simp [nameplatelaw05_RangesCalls.j1])
     | succ kj23 =>
      have H := HA.out
      clear HA
      simp only [nameplatelaw05_RangesCalls.j1] at H
      by_cases c91 : x127_23 = true
      rotate_left
      ·replace c91 := Bool.eq_false_iff.mpr c91
       subst c91
       rw [if_neg (show ¬ (false = true) by decide)] at H
       obtain ⟨t434, A92, H⟩ := oB H
       try dsimp only at H
       obtain ⟨t435, A93, H⟩ := oB H
       try dsimp only at H
       by_cases c94 : t434 = t435
       rotate_left
       ·rw [if_neg c94] at H
        have c94b0 : (t434 == t435) = false := beq_eq_false_iff_ne.mpr c94
        have c94b1 : (t434 != t435) = true := bne_iff_ne.mpr c94
        exact absurd ((Option.some.inj H).trans hr_.out) (by decide)
       rw [if_pos c94] at H
       have c94b0 : (t434 == t435) = true := beq_iff_eq.mpr c94
       have c94b1 : (t434 != t435) = false := bne_eq_false_iff_eq.mpr c94
       clear c94
       obtain ⟨t436, A95, H⟩ := oB H
       try dsimp only at H
       obtain ⟨t437, A96, H⟩ := oB H
       try dsimp only at H
       by_cases c97 : (t436 == t437) = true
       rotate_left
       ·rw [if_neg c97] at H
        have c97b0 : (t436 == t437) = false := by simpa using c97
        (try (have c97b1 : decide (t436 = t437) = false := by simpa using c97))
        (try (have c97b2 : (t436 == t437) = false := by simpa using c97))
        (try (have c97b3 : ¬ (t436 = t437) := by simpa using c97))
        clear c97
        exact absurd ((Option.some.inj H).trans hr_.out) (by decide)
       rw [if_pos c97] at H
       have c97b0 : (t436 == t437) = true := c97
       (try (have c97b1 : decide (t436 = t437) = true := by simpa using c97))
       (try (have c97b2 : (t436 == t437) = true := by simpa using c97))
       clear c97
       obtain ⟨t438, A98, H⟩ := oB H
       try dsimp only at H
       obtain ⟨t439, A99, H⟩ := oB H
       try dsimp only at H
       by_cases c100 : (t438 == t439) = true
       rotate_left
       ·rw [if_neg c100] at H
        have c100b0 : (t438 == t439) = false := by simpa using c100
        (try (have c100b1 : decide (t438 = t439) = false := by simpa using c100))
        (try (have c100b2 : (t438 == t439) = false := by simpa using c100))
        (try (have c100b3 : ¬ (t438 = t439) := by simpa using c100))
        clear c100
        exact absurd ((Option.some.inj H).trans hr_.out) (by decide)
       rw [if_pos c100] at H
       have c100b0 : (t438 == t439) = true := c100
       (try (have c100b1 : decide (t438 = t439) = true := by simpa using c100))
       (try (have c100b2 : (t438 == t439) = true := by simpa using c100))
       clear c100
       obtain ⟨t440, A101, H⟩ := oB H
       try dsimp only at H
       by_cases c102 : t440 = true
       rotate_left
       ·replace c102 := Bool.eq_false_iff.mpr c102
        subst c102
        rw [if_neg (show ¬ (false = true) by decide)] at H
        obtain rfl := Option.some.inj H
        try go_wp2
        replace BK398 := aM (kD BK398.out)
        replace BK399 := aM (kD BK399.out)
        replace BK400 := aM (kD BK400.out)
        replace BK407 := aM (kD BK407.out)
        replace BK413 := aM (kD BK413.out)
        replace BK422 := aM (kD BK422.out)
        replace BK427 := aM (kD BK427.out)
        replace HB := aM (bD HB.out)
        refine pS 39 (S := fun w' => cZ4 w' gb398 (.bool a0_0) (.int .u64 a0_1) (.int .u64 a0_2) (.int .i64 a0_3) ∧ cZ3 w' gb400 (.bool a4_0) (.int .u64 a4_1) (.int .u64 a4_2) ∧ cZ4 w' gb399 (.bool a1_0) (.int .u64 a1_1) (.int .u64 a1_2) (.int .i64 a1_3)) (ds := []) ⟨kZ4 BK398.out, kZ3 BK400.out, kZ4 BK399.out⟩ (fun hHeld => ?_); refine with_tabW nameplatelaw05_RangesCalls.tab15 nameplatelaw05_RangesCalls.bits15 (fun HT_ HW_ => ?_)
        generalize wc.drew = w118 at BK398 BK399 BK400 BK407 BK413 BK422 BK427 HB hHeld ⊢
        refine pT 0 128 ?_
        refine pT 2 130 ?_
        refine pO 1 129 (fun K hK => ?_)
        refine gO Tryz.func15 #[.agg #[.bool a0_0, .int .u64 a0_1, .int .u64 a0_2, .int .i64 a0_3]] ?_
        with_reducible refine (ranges_Check.calls a0_0 a0_1 a0_2 a0_3 t434 _ A92.out).mono ?_
        rintro e w119 ⟨rfl, hb⟩
        refine ⟨_, rfl, ?_⟩
        replace BK398 := kB BK398.out hb
        replace BK399 := kB BK399.out hb
        replace BK400 := kB BK400.out hb
        replace BK407 := kB BK407.out hb
        replace BK413 := kB BK413.out hb
        replace BK422 := kB BK422.out hb
        replace BK427 := kB BK427.out hb
        replace HB := bS HB.out hb
        (try clear hb)
        refine hK.out _ _ ⟨kZ4 BK398.out, kZ3 BK400.out, kZ4 BK399.out⟩ (fun hHeld => ?_)
        clear hK K
        refine pN ?_
        refine pO 3 131 (fun K hK => ?_)
        refine gO Tryz.func16 #[.agg #[.bool a0_0, .int .u64 a0_1, .int .u64 a0_2, .int .i64 a0_3]] ?_
        with_reducible refine (nameplateref05_Check.calls kj23 a0_0 a0_1 a0_2 a0_3 t435 _ A93.out).mono ?_
        rintro e w120 ⟨rfl, hb⟩
        refine ⟨_, rfl, ?_⟩
        replace BK398 := kB BK398.out hb
        replace BK399 := kB BK399.out hb
        replace BK400 := kB BK400.out hb
        replace BK407 := kB BK407.out hb
        replace BK413 := kB BK413.out hb
        replace BK422 := kB BK422.out hb
        replace BK427 := kB BK427.out hb
        replace HB := bS HB.out hb
        (try clear hb)
        refine hK.out _ _ ⟨kZ4 BK398.out, kZ3 BK400.out, kZ4 BK399.out⟩ (fun hHeld => ?_)
        clear hK K
        refine pN ?_
        refine pP 4 132 ?_
        refine pP 5 133 ?_
        refine pT 6 134 ?_
        refine pT 7 135 ?_
        refine pT 9 137 ?_
        refine pT 10 138 ?_
        refine pO 8 136 (fun K hK => ?_)
        refine gO Tryz.func17 #[.agg #[.bool a0_0, .int .u64 a0_1, .int .u64 a0_2, .int .i64 a0_3], .agg #[.bool a4_0, .int .u64 a4_1, .int .u64 a4_2]] ?_
        with_reducible refine (ranges_Has.calls a0_0 a0_1 a0_2 a0_3 a4_0 a4_1 a4_2 t436 _ A95.out).mono ?_
        rintro e w121 ⟨rfl, hb⟩
        refine ⟨_, rfl, ?_⟩
        replace BK398 := kB BK398.out hb
        replace BK399 := kB BK399.out hb
        replace BK400 := kB BK400.out hb
        replace BK407 := kB BK407.out hb
        replace BK413 := kB BK413.out hb
        replace BK422 := kB BK422.out hb
        replace BK427 := kB BK427.out hb
        replace HB := bS HB.out hb
        (try clear hb)
        refine hK.out _ _ ⟨kZ4 BK398.out, kZ3 BK400.out, kZ4 BK399.out⟩ (fun hHeld => ?_)
        clear hK K
        refine pN ?_
        refine pO 11 139 (fun K hK => ?_)
        refine gO Tryz.func18 #[.agg #[.bool a0_0, .int .u64 a0_1, .int .u64 a0_2, .int .i64 a0_3], .agg #[.bool a4_0, .int .u64 a4_1, .int .u64 a4_2]] ?_
        with_reducible refine (nameplateref05_Has.calls kj23 a0_0 a0_1 a0_2 a0_3 a4_0 a4_1 a4_2 t437 _ A96.out).mono ?_
        rintro e w122 ⟨rfl, hb⟩
        refine ⟨_, rfl, ?_⟩
        replace BK398 := kB BK398.out hb
        replace BK399 := kB BK399.out hb
        replace BK400 := kB BK400.out hb
        replace BK407 := kB BK407.out hb
        replace BK413 := kB BK413.out hb
        replace BK422 := kB BK422.out hb
        replace BK427 := kB BK427.out hb
        replace HB := bS HB.out hb
        (try clear hb)
        refine hK.out _ _ ⟨kZ4 BK398.out, kZ3 BK400.out, kZ4 BK399.out⟩ (fun hHeld => ?_)
        clear hK K
        refine pN ?_
        refine pP 12 140 ?_
        refine pP 13 141 ?_
        refine pP 14 142 ?_
        refine pT 15 143 ?_
        refine pT 16 144 ?_
        refine pT 18 146 ?_
        refine pT 19 147 ?_
        refine pO 17 145 (fun K hK => ?_)
        refine gO Tryz.func19 #[.agg #[.bool a0_0, .int .u64 a0_1, .int .u64 a0_2, .int .i64 a0_3], .agg #[.bool a1_0, .int .u64 a1_1, .int .u64 a1_2, .int .i64 a1_3]] ?_
        with_reducible refine (ranges_Meet.calls a0_0 a0_1 a0_2 a0_3 a1_0 a1_1 a1_2 a1_3 t438 _ A98.out).mono ?_
        rintro e w123 ⟨rfl, hb⟩
        refine ⟨_, rfl, ?_⟩
        replace BK398 := kB BK398.out hb
        replace BK399 := kB BK399.out hb
        replace BK400 := kB BK400.out hb
        replace BK407 := kB BK407.out hb
        replace BK413 := kB BK413.out hb
        replace BK422 := kB BK422.out hb
        replace BK427 := kB BK427.out hb
        replace HB := bS HB.out hb
        (try clear hb)
        refine hK.out _ _ ⟨kZ4 BK398.out, kZ3 BK400.out, kZ4 BK399.out⟩ (fun hHeld => ?_)
        clear hK K
        refine pN ?_
        refine pO 20 148 (fun K hK => ?_)
        refine gO Tryz.func20 #[.agg #[.bool a0_0, .int .u64 a0_1, .int .u64 a0_2, .int .i64 a0_3], .agg #[.bool a1_0, .int .u64 a1_1, .int .u64 a1_2, .int .i64 a1_3]] ?_
        with_reducible refine (nameplateref05_Meet.calls kj23 a0_0 a0_1 a0_2 a0_3 a1_0 a1_1 a1_2 a1_3 t439 _ A99.out).mono ?_
        rintro e w124 ⟨rfl, hb⟩
        refine ⟨_, rfl, ?_⟩
        replace BK398 := kB BK398.out hb
        replace BK399 := kB BK399.out hb
        replace BK400 := kB BK400.out hb
        replace BK407 := kB BK407.out hb
        replace BK413 := kB BK413.out hb
        replace BK422 := kB BK422.out hb
        replace BK427 := kB BK427.out hb
        replace HB := bS HB.out hb
        (try clear hb)
        refine hK.out _ _ ⟨kZ4 BK398.out, kZ3 BK400.out, kZ4 BK399.out⟩ (fun hHeld => ?_)
        clear hK K
        refine pN ?_
        refine pP 21 149 ?_
        refine pP 22 150 ?_
        refine pP 23 151 ?_
        refine pT 24 152 ?_
        refine pO 25 153 (fun K hK => ?_)
        refine gO Tryz.func21 #[.agg #[.bool a0_0, .int .u64 a0_1, .int .u64 a0_2, .int .i64 a0_3]] ?_
        with_reducible refine (nameplatelaw05_light.calls a0_0 a0_1 a0_2 a0_3 false _ A101.out).mono ?_
        rintro e w125 ⟨rfl, hb⟩
        refine ⟨_, rfl, ?_⟩
        replace BK398 := kB BK398.out hb
        replace BK399 := kB BK399.out hb
        replace BK400 := kB BK400.out hb
        replace BK407 := kB BK407.out hb
        replace BK413 := kB BK413.out hb
        replace BK422 := kB BK422.out hb
        replace BK427 := kB BK427.out hb
        replace HB := bS HB.out hb
        (try clear hb)
        refine hK.out _ _ ⟨kZ4 BK398.out, kZ3 BK400.out, kZ4 BK399.out⟩ (fun hHeld => ?_)
        clear hK K
        refine pN ?_
        refine pP 26 154 ?_
        refine pP 27 155 ?_
        refine pU 28 156 ?_
        refine pU 29 157 ?_
        refine pU 30 158 ?_
        refine pU 31 159 ?_
        refine pU 32 160 ?_
        refine pU 33 161 ?_
        refine pU 34 162 ?_
        refine pU 35 163 ?_
        refine pP 36 164 ?_
        refine pP 37 165 ?_
        refine pP 38 12 ?_
        refine pD ?_
        try go_wp2
        go_ret
        exact ⟨tE, tB HB.out⟩
       subst c102
       rw [if_pos rfl] at H
       obtain ⟨t441, A103, H⟩ := oB H
       try dsimp only at H
       obtain ⟨t444, A104, H⟩ := oB H
       try dsimp only at H
       obtain ⟨t445, A105, H⟩ := oB H
       try dsimp only at H
       obtain rfl := Option.some.inj H
       try go_wp2
       replace BK398 := aM (kD BK398.out)
       replace BK399 := aM (kD BK399.out)
       replace BK400 := aM (kD BK400.out)
       replace BK407 := aM (kD BK407.out)
       replace BK413 := aM (kD BK413.out)
       replace BK422 := aM (kD BK422.out)
       replace BK427 := aM (kD BK427.out)
       replace HB := aM (bD HB.out)
       refine pS 39 (S := fun w' => cZ4 w' gb398 (.bool a0_0) (.int .u64 a0_1) (.int .u64 a0_2) (.int .i64 a0_3) ∧ cZ3 w' gb400 (.bool a4_0) (.int .u64 a4_1) (.int .u64 a4_2) ∧ cZ4 w' gb399 (.bool a1_0) (.int .u64 a1_1) (.int .u64 a1_2) (.int .i64 a1_3)) (ds := []) ⟨kZ4 BK398.out, kZ3 BK400.out, kZ4 BK399.out⟩ (fun hHeld => ?_); refine with_tabW nameplatelaw05_RangesCalls.tab15 nameplatelaw05_RangesCalls.bits15 (fun HT_ HW_ => ?_)
       generalize wc.drew = w106 at BK398 BK399 BK400 BK407 BK413 BK422 BK427 HB hHeld ⊢
       refine pT 0 128 ?_
       refine pT 2 130 ?_
       refine pO 1 129 (fun K hK => ?_)
       refine gO Tryz.func15 #[.agg #[.bool a0_0, .int .u64 a0_1, .int .u64 a0_2, .int .i64 a0_3]] ?_
       with_reducible refine (ranges_Check.calls a0_0 a0_1 a0_2 a0_3 t434 _ A92.out).mono ?_
       rintro e w107 ⟨rfl, hb⟩
       refine ⟨_, rfl, ?_⟩
       replace BK398 := kB BK398.out hb
       replace BK399 := kB BK399.out hb
       replace BK400 := kB BK400.out hb
       replace BK407 := kB BK407.out hb
       replace BK413 := kB BK413.out hb
       replace BK422 := kB BK422.out hb
       replace BK427 := kB BK427.out hb
       replace HB := bS HB.out hb
       (try clear hb)
       refine hK.out _ _ ⟨kZ4 BK398.out, kZ3 BK400.out, kZ4 BK399.out⟩ (fun hHeld => ?_)
       clear hK K
       refine pN ?_
       refine pO 3 131 (fun K hK => ?_)
       refine gO Tryz.func16 #[.agg #[.bool a0_0, .int .u64 a0_1, .int .u64 a0_2, .int .i64 a0_3]] ?_
       with_reducible refine (nameplateref05_Check.calls kj23 a0_0 a0_1 a0_2 a0_3 t435 _ A93.out).mono ?_
       rintro e w108 ⟨rfl, hb⟩
       refine ⟨_, rfl, ?_⟩
       replace BK398 := kB BK398.out hb
       replace BK399 := kB BK399.out hb
       replace BK400 := kB BK400.out hb
       replace BK407 := kB BK407.out hb
       replace BK413 := kB BK413.out hb
       replace BK422 := kB BK422.out hb
       replace BK427 := kB BK427.out hb
       replace HB := bS HB.out hb
       (try clear hb)
       refine hK.out _ _ ⟨kZ4 BK398.out, kZ3 BK400.out, kZ4 BK399.out⟩ (fun hHeld => ?_)
       clear hK K
       refine pN ?_
       refine pP 4 132 ?_
       refine pP 5 133 ?_
       refine pT 6 134 ?_
       refine pT 7 135 ?_
       refine pT 9 137 ?_
       refine pT 10 138 ?_
       refine pO 8 136 (fun K hK => ?_)
       refine gO Tryz.func17 #[.agg #[.bool a0_0, .int .u64 a0_1, .int .u64 a0_2, .int .i64 a0_3], .agg #[.bool a4_0, .int .u64 a4_1, .int .u64 a4_2]] ?_
       with_reducible refine (ranges_Has.calls a0_0 a0_1 a0_2 a0_3 a4_0 a4_1 a4_2 t436 _ A95.out).mono ?_
       rintro e w109 ⟨rfl, hb⟩
       refine ⟨_, rfl, ?_⟩
       replace BK398 := kB BK398.out hb
       replace BK399 := kB BK399.out hb
       replace BK400 := kB BK400.out hb
       replace BK407 := kB BK407.out hb
       replace BK413 := kB BK413.out hb
       replace BK422 := kB BK422.out hb
       replace BK427 := kB BK427.out hb
       replace HB := bS HB.out hb
       (try clear hb)
       refine hK.out _ _ ⟨kZ4 BK398.out, kZ3 BK400.out, kZ4 BK399.out⟩ (fun hHeld => ?_)
       clear hK K
       refine pN ?_
       refine pO 11 139 (fun K hK => ?_)
       refine gO Tryz.func18 #[.agg #[.bool a0_0, .int .u64 a0_1, .int .u64 a0_2, .int .i64 a0_3], .agg #[.bool a4_0, .int .u64 a4_1, .int .u64 a4_2]] ?_
       with_reducible refine (nameplateref05_Has.calls kj23 a0_0 a0_1 a0_2 a0_3 a4_0 a4_1 a4_2 t437 _ A96.out).mono ?_
       rintro e w110 ⟨rfl, hb⟩
       refine ⟨_, rfl, ?_⟩
       replace BK398 := kB BK398.out hb
       replace BK399 := kB BK399.out hb
       replace BK400 := kB BK400.out hb
       replace BK407 := kB BK407.out hb
       replace BK413 := kB BK413.out hb
       replace BK422 := kB BK422.out hb
       replace BK427 := kB BK427.out hb
       replace HB := bS HB.out hb
       (try clear hb)
       refine hK.out _ _ ⟨kZ4 BK398.out, kZ3 BK400.out, kZ4 BK399.out⟩ (fun hHeld => ?_)
       clear hK K
       refine pN ?_
       refine pP 12 140 ?_
       refine pP 13 141 ?_
       refine pP 14 142 ?_
       refine pT 15 143 ?_
       refine pT 16 144 ?_
       refine pT 18 146 ?_
       refine pT 19 147 ?_
       refine pO 17 145 (fun K hK => ?_)
       refine gO Tryz.func19 #[.agg #[.bool a0_0, .int .u64 a0_1, .int .u64 a0_2, .int .i64 a0_3], .agg #[.bool a1_0, .int .u64 a1_1, .int .u64 a1_2, .int .i64 a1_3]] ?_
       with_reducible refine (ranges_Meet.calls a0_0 a0_1 a0_2 a0_3 a1_0 a1_1 a1_2 a1_3 t438 _ A98.out).mono ?_
       rintro e w111 ⟨rfl, hb⟩
       refine ⟨_, rfl, ?_⟩
       replace BK398 := kB BK398.out hb
       replace BK399 := kB BK399.out hb
       replace BK400 := kB BK400.out hb
       replace BK407 := kB BK407.out hb
       replace BK413 := kB BK413.out hb
       replace BK422 := kB BK422.out hb
       replace BK427 := kB BK427.out hb
       replace HB := bS HB.out hb
       (try clear hb)
       refine hK.out _ _ ⟨kZ4 BK398.out, kZ3 BK400.out, kZ4 BK399.out⟩ (fun hHeld => ?_)
       clear hK K
       refine pN ?_
       refine pO 20 148 (fun K hK => ?_)
       refine gO Tryz.func20 #[.agg #[.bool a0_0, .int .u64 a0_1, .int .u64 a0_2, .int .i64 a0_3], .agg #[.bool a1_0, .int .u64 a1_1, .int .u64 a1_2, .int .i64 a1_3]] ?_
       with_reducible refine (nameplateref05_Meet.calls kj23 a0_0 a0_1 a0_2 a0_3 a1_0 a1_1 a1_2 a1_3 t439 _ A99.out).mono ?_
       rintro e w112 ⟨rfl, hb⟩
       refine ⟨_, rfl, ?_⟩
       replace BK398 := kB BK398.out hb
       replace BK399 := kB BK399.out hb
       replace BK400 := kB BK400.out hb
       replace BK407 := kB BK407.out hb
       replace BK413 := kB BK413.out hb
       replace BK422 := kB BK422.out hb
       replace BK427 := kB BK427.out hb
       replace HB := bS HB.out hb
       (try clear hb)
       refine hK.out _ _ ⟨kZ4 BK398.out, kZ3 BK400.out, kZ4 BK399.out⟩ (fun hHeld => ?_)
       clear hK K
       refine pN ?_
       refine pP 21 149 ?_
       refine pP 22 150 ?_
       refine pP 23 151 ?_
       refine pT 24 152 ?_
       refine pO 25 153 (fun K hK => ?_)
       refine gO Tryz.func21 #[.agg #[.bool a0_0, .int .u64 a0_1, .int .u64 a0_2, .int .i64 a0_3]] ?_
       with_reducible refine (nameplatelaw05_light.calls a0_0 a0_1 a0_2 a0_3 true _ A101.out).mono ?_
       rintro e w113 ⟨rfl, hb⟩
       refine ⟨_, rfl, ?_⟩
       replace BK398 := kB BK398.out hb
       replace BK399 := kB BK399.out hb
       replace BK400 := kB BK400.out hb
       replace BK407 := kB BK407.out hb
       replace BK413 := kB BK413.out hb
       replace BK422 := kB BK422.out hb
       replace BK427 := kB BK427.out hb
       replace HB := bS HB.out hb
       (try clear hb)
       refine hK.out _ _ ⟨kZ4 BK398.out, kZ3 BK400.out, kZ4 BK399.out⟩ (fun hHeld => ?_)
       clear hK K
       refine pN ?_
       refine pP 26 154 ?_
       refine pP 27 155 ?_
       refine pP 29 157 ?_
       refine pP 33 161 ?_
       refine pT 28 156 ?_
       refine pT 32 160 ?_
       refine pO 30 158 (fun K hK => ?_)
       refine gO Tryz.func23 #[.slice A5 l5.length c5] ?_
       with_reducible refine (api_Range_23.calls _ _ l5 t441 _ ?side1 ?side2 A103.out).mono ?_
       (case side1 => exact tC (Kd.C_below HR5.out HB.out))
       (case side2 => exact HC5.out)
       rintro e w114 ⟨v442, rfl, ho0, hb⟩
       refine ⟨_, rfl, ?_⟩
       have HO443 := aM (Kd.R_lower (Kd.R_newB (Kd.R_newB (Kd.R_newB (Kd.R_newB ho0 (g := gb398) (o := .cells #[.bool a0_0, .int .u64 a0_1, .int .u64 a0_2, .int .i64 a0_3] 26 (0, 0)) (tK BK398.out)) (g := gb399) (o := .cells #[.bool a1_0, .int .u64 a1_1, .int .u64 a1_2, .int .i64 a1_3] 26 (0, 0)) (tK BK399.out)) (g := gb407) (o := .cells #[.bool t402, .int .u64 t403, .int .u64 t404, .int .i64 t405] 26 (0, 0)) (tK BK407.out)) (g := gb413) (o := .cells #[.bool t408, .int .u64 t409, .int .u64 t410, .int .i64 t411] 26 (0, 0)) (tK BK413.out)) (below_size (tB HB.out)))
       replace BK398 := kB BK398.out hb
       replace BK399 := kB BK399.out hb
       replace BK400 := kB BK400.out hb
       replace BK407 := kB BK407.out hb
       replace BK413 := kB BK413.out hb
       replace BK422 := kB BK422.out hb
       replace BK427 := kB BK427.out hb
       replace HB := bS HB.out hb
       (try clear hb)
       (try clear hb2)
       (try clear hk)
       (try clear hi)
       (try clear ho0)
       obtain ⟨Ao115, co115, eo115⟩ := Kd.R_slice HO443.out
       (first | subst eo115 | (injection eo115 with f1_ f2_ f3_; have f4_ := f1_.symm; have f5_ := f3_.symm; clear f1_ f2_ f3_; subst f4_; subst f5_))
       refine hK.out _ _ ⟨kZ4 BK398.out, kZ3 BK400.out, kZ4 BK399.out⟩ (fun hHeld => ?_)
       clear hK K
       refine pN ?_
       refine pO 31 159 (fun K hK => ?_)
       refine gO Tryz.func22 #[.agg #[.bool a0_0, .int .u64 a0_1, .int .u64 a0_2, .int .i64 a0_3], .slice Ao115 t441.length co115] ?_
       with_reducible refine (ranges_Free.calls a0_0 a0_1 a0_2 a0_3 _ _ t441 t444 _ ?side1 ?side2 A104.out).mono ?_
       (case side1 => exact tC (Kd.R_reads' HO443.out).2.2)
       (case side2 => exact (Kd.R_reads' HO443.out).2.1)
       rintro e w116 ⟨rfl, hb⟩
       refine ⟨_, rfl, ?_⟩
       replace HO443 := aM (Kd.R_below (tR HO443.out) hb)
       replace BK398 := kB BK398.out hb
       replace BK399 := kB BK399.out hb
       replace BK400 := kB BK400.out hb
       replace BK407 := kB BK407.out hb
       replace BK413 := kB BK413.out hb
       replace BK422 := kB BK422.out hb
       replace BK427 := kB BK427.out hb
       replace HB := bS HB.out hb
       (try clear hb)
       refine hK.out _ _ ⟨kZ4 BK398.out, kZ3 BK400.out, kZ4 BK399.out⟩ (fun hHeld => ?_)
       clear hK K
       refine pN ?_
       refine pO 34 162 (fun K hK => ?_)
       refine gO Tryz.func24 #[.agg #[.bool a0_0, .int .u64 a0_1, .int .u64 a0_2, .int .i64 a0_3], .slice A5 l5.length c5] ?_
       with_reducible refine (nameplateref05_Free.calls kj23 a0_0 a0_1 a0_2 a0_3 _ _ l5 t445 _ ?side1 ?side2 A105.out).mono ?_
       (case side1 => exact tC (Kd.C_below HR5.out HB.out))
       (case side2 => exact HC5.out)
       rintro e w117 ⟨rfl, hb⟩
       refine ⟨_, rfl, ?_⟩
       replace HO443 := aM (Kd.R_below (tR HO443.out) hb)
       replace BK398 := kB BK398.out hb
       replace BK399 := kB BK399.out hb
       replace BK400 := kB BK400.out hb
       replace BK407 := kB BK407.out hb
       replace BK413 := kB BK413.out hb
       replace BK422 := kB BK422.out hb
       replace BK427 := kB BK427.out hb
       replace HB := bS HB.out hb
       (try clear hb)
       refine hK.out _ _ ⟨kZ4 BK398.out, kZ3 BK400.out, kZ4 BK399.out⟩ (fun hHeld => ?_)
       clear hK K
       refine pN ?_
       refine pP 35 163 ?_
       refine pP 36 164 ?_
       refine pP 37 165 ?_
       refine pP 38 12 ?_
       refine pD ?_
       try go_wp2
       go_ret
       exact ⟨tE, tB HB.out⟩
      subst c91
      rw [if_pos rfl] at H
      exact absurd ((Option.some.inj H).trans hr_.out) (by decide)
   subst c15
   rw [if_pos rfl] at H
   obtain rfl := Option.some.inj H
   go_wp2
   go_ret
   exact ⟨tE, tB HB.out⟩
end Go.Proofs.YtbalmnkbodcigaaGreatDoor.ORc
