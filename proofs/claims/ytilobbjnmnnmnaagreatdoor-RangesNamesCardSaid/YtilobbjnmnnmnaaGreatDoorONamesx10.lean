/- This text proves, for each Go function named below, which plain Lean function its call computes, in whatever memory; a program of this session has written it. -/
import Derived.Test.YtilobbjnmnnmnaaGreatDoorONamesx0
import Derived.Test.YtilobbjnmnnmnaaGreatDoorONamesx4
import Derived.Test.YtilobbjnmnnmnaaGreatDoorONamesx5
import Derived.Test.YtilobbjnmnnmnaaGreatDoorONamesx6
import Derived.Test.YtilobbjnmnnmnaaGreatDoorONamesx7
import Derived.Test.YtilobbjnmnnmnaaGreatDoorONamesx8
import Derived.Test.YtilobbjnmnnmnaaGreatDoorONamesx9
namespace Go.Proofs.YtilobbjnmnnmnaaGreatDoor.ONames
open Go.RowKit Go.Proofs.YtilobbjnmnnmnaaGreatDoorW.PrintWords Go.Proofs.YtilobbjnmnnmnaaGreatDoorW.PrintLast Go.Proofs.YtilobbjnmnnmnaaGreatDoorW.PrintMore
attribute [local go_sem] max2_int min2_int max_two min_two max_three min_three max_four min_four   -- for this text's walks alone
set_option linter.unusedVariables false
set_option linter.unusedSimpArgs false

/-! ### nameplatelaw05_RangesNames: function 6 -/
def nameplatelaw05_RangesNames.f (k : Nat)  : Option (Bool) := (nameplatelaw05_lives.f k).bind fun t239 => (if t239 = true then ((ranges_Read.f k (⟨#[49, 48, 46, 48, 46, 48, 46, 48]⟩ : ByteArray)).bind fun bt240 => ((ranges_Read.f k (⟨#[49, 48, 46, 48, 46, 48, 46, 48, 47, 48, 51]⟩ : ByteArray)).bind fun bt246 => ((ranges_Read.f k (⟨#[49, 48, 46, 48, 46, 48, 46, 48, 47, 51, 51]⟩ : ByteArray)).bind fun bt252 => ((ranges_Read.f k (⟨#[120, 47, 56]⟩ : ByteArray)).bind fun bt258 => ((ranges_Read.f k (⟨#[49, 48, 46, 48, 46, 48, 46, 48, 47, 56]⟩ : ByteArray)).bind fun bt264 => ((ranges_Text.f k bt264.1 bt264.2.1 bt264.2.2.1 bt264.2.2.2.1).bind fun bt270 => ((ranges_Read.f k (⟨#[102, 100, 48, 48, 58, 58, 47, 54, 52]⟩ : ByteArray)).bind fun bt272 => ((ranges_Read.f k (⟨#[49, 48, 46, 50, 53, 53, 46, 48, 46, 48, 47, 49, 54]⟩ : ByteArray)).bind fun bt278 => ((addr_Four.f k 10 0 1 0).bind fun bt284 => ((ranges_Index.f bt264.1 bt264.2.1 bt264.2.2.1 bt264.2.2.2.1 bt284.1 bt284.2.1 bt284.2.2).bind fun bt287 => ((addr_Four.f k 10 1 0 0).bind fun bt289 => ((ranges_Index.f bt264.1 bt264.2.1 bt264.2.2.1 bt264.2.2.2.1 bt289.1 bt289.2.1 bt289.2.2).bind fun bt292 => ((ranges_At.f bt264.1 bt264.2.1 bt264.2.2.1 bt264.2.2.2.1 (-1)).bind fun bt294 => ((ranges_Read.f k (⟨#[49, 48, 46, 48, 46, 48, 46, 52, 47, 51, 50]⟩ : ByteArray)).bind fun bt299 => ((ranges_Read.f k (⟨#[49, 48, 46, 48, 46, 48, 46, 48, 47, 50, 57]⟩ : ByteArray)).bind fun bt305 => (if bt240.2.2.2.2 = 7 then (if bt246.2.2.2.2 = 7 then (if bt252.2.2.2.2 = 2 then (if bt258.2.2.2.2 = 7 then (if bt270.2 = 0 then (if bt270.1.toList = ([49, 48, 46, 48, 46, 48, 46, 48, 47, 56] : List UInt8) then ((ranges_Size.f bt264.1 bt264.2.1 bt264.2.2.1 bt264.2.2.2.1).bind fun t311 => (if t311 = 65536 then (if bt272.2.2.2.2 = 0 then ((ranges_Size.f bt272.1 bt272.2.1 bt272.2.2.1 bt272.2.2.2.1).bind fun t312 => (if t312 = 65536 then ((ranges_Meet.f bt264.1 bt264.2.1 bt264.2.2.1 bt264.2.2.2.1 bt278.1 bt278.2.1 bt278.2.2.1 bt278.2.2.2.1).bind fun t313 => (if t313 = true then ((ranges_Meet.f bt278.1 bt278.2.1 bt278.2.2.1 bt278.2.2.2.1 bt264.1 bt264.2.1 bt264.2.2.1 bt264.2.2.2.1).bind fun t314 => (if t314 = true then ((ranges_Meet.f bt264.1 bt264.2.1 bt264.2.2.1 bt264.2.2.2.1 bt272.1 bt272.2.1 bt272.2.2.1 bt272.2.2.2.1).bind fun t315 => (if t315 = true then (some false) else (if bt287.2 = true then (if bt287.1 = 256 then (if bt292.2 = true then (some false) else (if bt294.2.2.2 = true then (some false) else ((addr_Four.f k 10 9 9 9).bind fun bt316 => ((ranges_Has.f bt264.1 bt264.2.1 bt264.2.2.1 bt264.2.2.2.1 bt316.1 bt316.2.1 bt316.2.2).bind fun t319 => (if t319 = true then ((addr_Four.f k 11 0 0 0).bind fun bt320 => ((ranges_Has.f bt264.1 bt264.2.1 bt264.2.2.1 bt264.2.2.2.1 bt320.1 bt320.2.1 bt320.2.2).bind fun t323 => (if t323 = true then (some false) else ((ranges_Free.f bt305.1 bt305.2.1 bt305.2.2.1 bt305.2.2.2.1 (([(⟨(⟨bt299.1, bt299.2.1, bt299.2.2.1⟩ : S24), bt299.2.2.2.1⟩ : S26)] : List (S26)))).bind fun t327 => (if t327 = 7 then ((ranges_Size.f false 0 0 40).bind fun t328 => (some (t328 == 0))) else (some false)))))) else (some false)))))) else (some false)) else (some false)))) else (some false))) else (some false))) else (some false))) else (some false)) else (some false))) else (some false)) else (some false)) else (some false)) else (some false)) else (some false)) else (some false))))))))))))))))) else (some false))
theorem nameplatelaw05_RangesNames.mono : ∀ k, LeO (nameplatelaw05_RangesNames.f k ) (nameplatelaw05_RangesNames.f (k + 1) ) := by
 intro  k
 unfold nameplatelaw05_RangesNames.f
 repeat' first
   | (with_reducible exact addr_Four.mono _ _ _ _ _)
   | (with_reducible exact nameplatelaw05_lives.mono _)
   | (with_reducible exact ranges_Read.mono _ _)
   | (with_reducible exact ranges_Text.mono _ _ _ _ _)
   | (with_reducible exact LeO.refl _)
   | (with_reducible exact LeO.none _)
   | (with_reducible refine LeO.ite ?_ ?_)
   | (with_reducible refine LeO.bind ?_ (fun _ => ?_))
   | exact addr_Four.mono _ _ _ _ _
   | exact nameplatelaw05_lives.mono _
   | exact ranges_Read.mono _ _
   | exact ranges_Text.mono _ _ _ _ _
   | exact LeO.none _
   | refine LeO.ite ?_ ?_
   | refine LeO.bind ?_ (fun _ => ?_)
def nameplatelaw05_RangesNames.T11 : Bool × List (List Nat × List Nat) := (true, [([], []), ([], []), ([0, 1, 1], [0, 1]), ([2], [2]), ([3], [3]), ([3], [3]), ([4, 2, 0, 1, 2, 3, 4], [4]), ([5, 6, 0, 1, 2, 3, 4, 5, 6], [5])])
def nameplatelaw05_RangesNames.B11 : List Nat := [0, 0, 3, 7, 15, 15, 31, 127]
theorem nameplatelaw05_RangesNames.tab11 : rtab .any (opsOf Tryz.f6 11) = nameplatelaw05_RangesNames.T11 := by kernel_rfl
theorem nameplatelaw05_RangesNames.bits11 : waitsOk nameplatelaw05_RangesNames.T11.2 nameplatelaw05_RangesNames.B11 = true := by kernel_rfl
def nameplatelaw05_RangesNames.T12 : Bool × List (List Nat × List Nat) := (true, [([], []), ([], []), ([0, 1, 1], [0, 1]), ([2], [2]), ([3], [3]), ([3], [3]), ([4, 2, 0, 1, 2, 3, 4], [4]), ([5, 6, 0, 1, 2, 3, 4, 5, 6], [5])])
def nameplatelaw05_RangesNames.B12 : List Nat := [0, 0, 3, 7, 15, 15, 31, 127]
theorem nameplatelaw05_RangesNames.tab12 : rtab .any (opsOf Tryz.f6 12) = nameplatelaw05_RangesNames.T12 := by kernel_rfl
theorem nameplatelaw05_RangesNames.bits12 : waitsOk nameplatelaw05_RangesNames.T12.2 nameplatelaw05_RangesNames.B12 = true := by kernel_rfl
def nameplatelaw05_RangesNames.T16 : Bool × List (List Nat × List Nat) := (true, [([], []), ([0], [0]), ([1], [1]), ([2], [2]), ([3, 2], [2, 3]), ([2, 4], [2, 4]), ([5, 2], [5]), ([6], [6]), ([7, 6], [6, 7]), ([6, 8], [6, 8]), ([9, 6], [9]), ([10], [10]), ([11, 10], [10, 11]), ([10, 12], [10, 12]), ([13, 10], [13]), ([14], [14]), ([15, 14], [14, 15]), ([14, 16], [14, 16]), ([17, 14], [17]), ([18], [18]), ([19, 18], [18, 19]), ([18, 20], [18, 20]), ([21, 18], [21]), ([22], [22]), ([23, 22, 22], [22, 23]), ([24, 22], [22, 24]), ([22, 25], [22, 25]), ([26, 24], [26]), ([27], [27]), ([28, 27], [27, 28]), ([27, 29], [27, 29]), ([30, 27], [30]), ([31], [31]), ([32, 31, 31], [31, 32]), ([33, 31], [31, 33]), ([31, 34], [31, 34]), ([35, 33], [35]), ([36], [36]), ([36], [36]), ([37, 38, 36, 36], [36, 37, 38]), ([36, 39], [36, 39]), ([40, 39], [40]), ([41], [41]), ([41], [41]), ([42, 43, 41, 41], [41, 42, 43]), ([41, 44], [41, 44]), ([45, 44], [45]), ([46], [46]), ([46], [46]), ([47, 48, 46, 46], [46, 47, 48]), ([49, 46], [46, 49]), ([46, 50], [46, 50]), ([51, 49], [51]), ([52], [52]), ([52, 53], [52, 53]), ([54, 52], [54]), ([55], [55]), ([56, 55], [55, 56]), ([55, 57], [55, 57]), ([58, 55], [58]), ([59], [59]), ([60, 59], [59, 60]), ([59, 61], [59, 61]), ([62, 59], [62]), ([63], [63]), ([64, 63], [63, 64]), ([63, 65], [63, 65]), ([66, 63], [66]), ([67], [67]), ([67, 67], [67]), ([68, 69, 69, 67], [67, 68, 69]), ([67, 70], [67, 70]), ([71, 70], [71]), ([72], [72]), ([72, 72], [72]), ([73, 74, 74, 72], [72, 73, 74]), ([75, 72], [72, 75]), ([72, 76], [72, 76]), ([77, 75], [77]), ([78], [78]), ([78], [78]), ([80, 78], [78, 80]), ([79, 81, 78, 78], [78, 79, 81]), ([82, 78], [78, 82]), ([78, 83], [78, 83]), ([84, 82], [84]), ([85], [85]), ([86, 85, 85], [85, 86]), ([87, 85], [85, 87]), ([85, 88], [85, 88]), ([89, 87, 0, 1, 2, 3, 4, 5, 6, 7, 8, 9, 10, 11, 12, 13, 14, 15, 16, 17, 18, 19, 20, 21, 22, 23, 24, 25, 26, 27, 28, 29, 30, 31, 32, 33, 34, 35, 36, 37, 38, 39, 40, 41, 42, 43, 44, 45, 46, 47, 48, 49, 50, 51, 52, 53, 54, 55, 56, 57, 58, 59, 60, 61, 62, 63, 64, 65, 66, 67, 68, 69, 70, 71, 72, 73, 74, 75, 76, 77, 78, 79, 80, 81, 82, 83, 84, 85, 86, 87, 88, 89], [89])])
def nameplatelaw05_RangesNames.B16 : List Nat := [0, 1, 3, 7, 15, 31, 63, 127, 255, 511, 1023, 2047, 4095, 8191, 16383, 32767, 65535, 131071, 262143, 524287, 1048575, 2097151, 4194303, 8388607, 16777215, 33554431, 67108863, 134217727, 268435455, 536870911, 1073741823, 2147483647, 4294967295, 8589934591, 17179869183, 34359738367, 68719476735, 137438953471, 137438953471, 549755813887, 1099511627775, 2199023255551, 4398046511103, 4398046511103, 17592186044415, 35184372088831, 70368744177663, 140737488355327, 140737488355327, 562949953421311, 1125899906842623, 2251799813685247, 4503599627370495, 9007199254740991, 18014398509481983, 36028797018963967, 72057594037927935, 144115188075855871, 288230376151711743, 576460752303423487, 1152921504606846975, 2305843009213693951, 4611686018427387903, 9223372036854775807, 18446744073709551615, 36893488147419103231, 73786976294838206463, 147573952589676412927, 295147905179352825855, 295147905179352825855, 1180591620717411303423, 2361183241434822606847, 4722366482869645213695, 9444732965739290427391, 9444732965739290427391, 37778931862957161709567, 75557863725914323419135, 151115727451828646838271, 302231454903657293676543, 604462909807314587353087, 604462909807314587353087, 1813388729421943762059263, 4835703278458516698824703, 9671406556917033397649407, 19342813113834066795298815, 38685626227668133590597631, 77371252455336267181195263, 154742504910672534362390527, 309485009821345068724781055, 618970019642690137449562111, 1237940039285380274899124223]
theorem nameplatelaw05_RangesNames.tab16 : rtab .any (opsOf Tryz.f6 16) = nameplatelaw05_RangesNames.T16 := by kernel_rfl
theorem nameplatelaw05_RangesNames.bits16 : waitsOk nameplatelaw05_RangesNames.T16.2 nameplatelaw05_RangesNames.B16 = true := by kernel_rfl
set_option maxHeartbeats 8000000 in
set_option maxRecDepth 100000 in
theorem nameplatelaw05_RangesNames.calls (k : Nat)  (r : Bool) (w : World) (hG_ : Aside0 (AddrLib.G w)) (hr_ : Aside0 (r = true)) (h : nameplatelaw05_RangesNames.f k  = some r) :
  Calls Tryz.prog 6 #[] w fun e w' => e = .returned (.bool r) ∧ Below w.heap.size w w' := by
 have hu26 := Tryz.underlying26
 have hu24 := Tryz.underlying24
 have HB := aM (Below.refl w.heap.size w)
 have H : ((nameplatelaw05_lives.f k).bind fun t239 => (if t239 = true then ((ranges_Read.f k (⟨#[49, 48, 46, 48, 46, 48, 46, 48]⟩ : ByteArray)).bind fun bt240 => ((ranges_Read.f k (⟨#[49, 48, 46, 48, 46, 48, 46, 48, 47, 48, 51]⟩ : ByteArray)).bind fun bt246 => ((ranges_Read.f k (⟨#[49, 48, 46, 48, 46, 48, 46, 48, 47, 51, 51]⟩ : ByteArray)).bind fun bt252 => ((ranges_Read.f k (⟨#[120, 47, 56]⟩ : ByteArray)).bind fun bt258 => ((ranges_Read.f k (⟨#[49, 48, 46, 48, 46, 48, 46, 48, 47, 56]⟩ : ByteArray)).bind fun bt264 => ((ranges_Text.f k bt264.1 bt264.2.1 bt264.2.2.1 bt264.2.2.2.1).bind fun bt270 => ((ranges_Read.f k (⟨#[102, 100, 48, 48, 58, 58, 47, 54, 52]⟩ : ByteArray)).bind fun bt272 => ((ranges_Read.f k (⟨#[49, 48, 46, 50, 53, 53, 46, 48, 46, 48, 47, 49, 54]⟩ : ByteArray)).bind fun bt278 => ((addr_Four.f k 10 0 1 0).bind fun bt284 => ((ranges_Index.f bt264.1 bt264.2.1 bt264.2.2.1 bt264.2.2.2.1 bt284.1 bt284.2.1 bt284.2.2).bind fun bt287 => ((addr_Four.f k 10 1 0 0).bind fun bt289 => ((ranges_Index.f bt264.1 bt264.2.1 bt264.2.2.1 bt264.2.2.2.1 bt289.1 bt289.2.1 bt289.2.2).bind fun bt292 => ((ranges_At.f bt264.1 bt264.2.1 bt264.2.2.1 bt264.2.2.2.1 (-1)).bind fun bt294 => ((ranges_Read.f k (⟨#[49, 48, 46, 48, 46, 48, 46, 52, 47, 51, 50]⟩ : ByteArray)).bind fun bt299 => ((ranges_Read.f k (⟨#[49, 48, 46, 48, 46, 48, 46, 48, 47, 50, 57]⟩ : ByteArray)).bind fun bt305 => (if bt240.2.2.2.2 = 7 then (if bt246.2.2.2.2 = 7 then (if bt252.2.2.2.2 = 2 then (if bt258.2.2.2.2 = 7 then (if bt270.2 = 0 then (if bt270.1.toList = ([49, 48, 46, 48, 46, 48, 46, 48, 47, 56] : List UInt8) then ((ranges_Size.f bt264.1 bt264.2.1 bt264.2.2.1 bt264.2.2.2.1).bind fun t311 => (if t311 = 65536 then (if bt272.2.2.2.2 = 0 then ((ranges_Size.f bt272.1 bt272.2.1 bt272.2.2.1 bt272.2.2.2.1).bind fun t312 => (if t312 = 65536 then ((ranges_Meet.f bt264.1 bt264.2.1 bt264.2.2.1 bt264.2.2.2.1 bt278.1 bt278.2.1 bt278.2.2.1 bt278.2.2.2.1).bind fun t313 => (if t313 = true then ((ranges_Meet.f bt278.1 bt278.2.1 bt278.2.2.1 bt278.2.2.2.1 bt264.1 bt264.2.1 bt264.2.2.1 bt264.2.2.2.1).bind fun t314 => (if t314 = true then ((ranges_Meet.f bt264.1 bt264.2.1 bt264.2.2.1 bt264.2.2.2.1 bt272.1 bt272.2.1 bt272.2.2.1 bt272.2.2.2.1).bind fun t315 => (if t315 = true then (some false) else (if bt287.2 = true then (if bt287.1 = 256 then (if bt292.2 = true then (some false) else (if bt294.2.2.2 = true then (some false) else ((addr_Four.f k 10 9 9 9).bind fun bt316 => ((ranges_Has.f bt264.1 bt264.2.1 bt264.2.2.1 bt264.2.2.2.1 bt316.1 bt316.2.1 bt316.2.2).bind fun t319 => (if t319 = true then ((addr_Four.f k 11 0 0 0).bind fun bt320 => ((ranges_Has.f bt264.1 bt264.2.1 bt264.2.2.1 bt264.2.2.2.1 bt320.1 bt320.2.1 bt320.2.2).bind fun t323 => (if t323 = true then (some false) else ((ranges_Free.f bt305.1 bt305.2.1 bt305.2.2.1 bt305.2.2.2.1 (([(⟨(⟨bt299.1, bt299.2.1, bt299.2.2.1⟩ : S24), bt299.2.2.2.1⟩ : S26)] : List (S26)))).bind fun t327 => (if t327 = 7 then ((ranges_Size.f false 0 0 40).bind fun t328 => (some (t328 == 0))) else (some false)))))) else (some false)))))) else (some false)) else (some false)))) else (some false))) else (some false))) else (some false))) else (some false)) else (some false))) else (some false)) else (some false)) else (some false)) else (some false)) else (some false)) else (some false))))))))))))))))) else (some false))) = some r := h
 clear h
 replace H := Option.bind_eq_some_iff.mp H
 obtain ⟨t239, A10, H⟩ := H
 try dsimp only at H
 have A1 := aM A10
 clear A10
 by_cases c2 : t239 = true
 rotate_left
 ·replace c2 := Bool.eq_false_iff.mpr c2
  subst c2
  rw [if_neg (show ¬ (false = true) by decide)] at H
  exact absurd ((Option.some.inj H).trans hr_.out) (by decide)

 subst c2
 rw [if_pos rfl] at H
 replace H := Option.bind_eq_some_iff.mp H
 obtain ⟨⟨t240, t241, t242, t243, t244⟩, A30, H⟩ := H
 try dsimp only at H
 have A3 := aM A30
 clear A30
 replace H := Option.bind_eq_some_iff.mp H
 obtain ⟨⟨t246, t247, t248, t249, t250⟩, A40, H⟩ := H
 try dsimp only at H
 have A4 := aM A40
 clear A40
 replace H := Option.bind_eq_some_iff.mp H
 obtain ⟨⟨t252, t253, t254, t255, t256⟩, A50, H⟩ := H
 try dsimp only at H
 have A5 := aM A50
 clear A50
 replace H := Option.bind_eq_some_iff.mp H
 obtain ⟨⟨t258, t259, t260, t261, t262⟩, A60, H⟩ := H
 try dsimp only at H
 have A6 := aM A60
 clear A60
 replace H := Option.bind_eq_some_iff.mp H
 obtain ⟨⟨t264, t265, t266, t267, t268⟩, A70, H⟩ := H
 try dsimp only at H
 have A7 := aM A70
 clear A70
 replace H := Option.bind_eq_some_iff.mp H
 obtain ⟨⟨t270, t271⟩, A80, H⟩ := H
 try dsimp only at H
 have A8 := aM A80
 clear A80
 replace H := Option.bind_eq_some_iff.mp H
 obtain ⟨⟨t272, t273, t274, t275, t276⟩, A90, H⟩ := H
 try dsimp only at H
 have A9 := aM A90
 clear A90
 replace H := Option.bind_eq_some_iff.mp H
 obtain ⟨⟨t278, t279, t280, t281, t282⟩, A100, H⟩ := H
 try dsimp only at H
 have A10 := aM A100
 clear A100
 replace H := Option.bind_eq_some_iff.mp H
 obtain ⟨⟨t284, t285, t286⟩, A110, H⟩ := H
 try dsimp only at H
 have A11 := aM A110
 clear A110
 replace H := Option.bind_eq_some_iff.mp H
 obtain ⟨⟨t287, t288⟩, A120, H⟩ := H
 try dsimp only at H
 have A12 := aM A120
 clear A120
 replace H := Option.bind_eq_some_iff.mp H
 obtain ⟨⟨t289, t290, t291⟩, A130, H⟩ := H
 try dsimp only at H
 have A13 := aM A130
 clear A130
 replace H := Option.bind_eq_some_iff.mp H
 obtain ⟨⟨t292, t293⟩, A140, H⟩ := H
 try dsimp only at H
 have A14 := aM A140
 clear A140
 replace H := Option.bind_eq_some_iff.mp H
 obtain ⟨⟨t294, t295, t296, t297⟩, A150, H⟩ := H
 try dsimp only at H
 have A15 := aM A150
 clear A150
 replace H := Option.bind_eq_some_iff.mp H
 obtain ⟨⟨t299, t300, t301, t302, t303⟩, A160, H⟩ := H
 try dsimp only at H
 have A16 := aM A160
 clear A160
 replace H := Option.bind_eq_some_iff.mp H
 obtain ⟨⟨t305, t306, t307, t308, t309⟩, A170, H⟩ := H
 try dsimp only at H
 have A17 := aM A170
 clear A170
 by_cases c18 : t244 = 7
 rotate_left
 ·rw [if_neg c18] at H
  have c18b0 : (t244 == 7) = false := beq_eq_false_iff_ne.mpr c18
  have c18b1 : (t244 != 7) = true := bne_iff_ne.mpr c18
  exact absurd ((Option.some.inj H).trans hr_.out) (by decide)
 rw [if_pos c18] at H
 have c18b0 : (t244 == 7) = true := beq_iff_eq.mpr c18
 have c18b1 : (t244 != 7) = false := bne_eq_false_iff_eq.mpr c18
 clear c18
 by_cases c19 : t250 = 7
 rotate_left
 ·rw [if_neg c19] at H
  have c19b0 : (t250 == 7) = false := beq_eq_false_iff_ne.mpr c19
  have c19b1 : (t250 != 7) = true := bne_iff_ne.mpr c19
  exact absurd ((Option.some.inj H).trans hr_.out) (by decide)
 rw [if_pos c19] at H
 have c19b0 : (t250 == 7) = true := beq_iff_eq.mpr c19
 have c19b1 : (t250 != 7) = false := bne_eq_false_iff_eq.mpr c19
 clear c19
 by_cases c20 : t256 = 2
 rotate_left
 ·rw [if_neg c20] at H
  have c20b0 : (t256 == 2) = false := beq_eq_false_iff_ne.mpr c20
  have c20b1 : (t256 != 2) = true := bne_iff_ne.mpr c20
  exact absurd ((Option.some.inj H).trans hr_.out) (by decide)
 rw [if_pos c20] at H
 have c20b0 : (t256 == 2) = true := beq_iff_eq.mpr c20
 have c20b1 : (t256 != 2) = false := bne_eq_false_iff_eq.mpr c20
 clear c20
 by_cases c21 : t262 = 7
 rotate_left
 ·rw [if_neg c21] at H
  have c21b0 : (t262 == 7) = false := beq_eq_false_iff_ne.mpr c21
  have c21b1 : (t262 != 7) = true := bne_iff_ne.mpr c21
  exact absurd ((Option.some.inj H).trans hr_.out) (by decide)
 rw [if_pos c21] at H
 have c21b0 : (t262 == 7) = true := beq_iff_eq.mpr c21
 have c21b1 : (t262 != 7) = false := bne_eq_false_iff_eq.mpr c21
 clear c21
 by_cases c22 : t271 = 0
 rotate_left
 ·rw [if_neg c22] at H
  have c22b0 : (t271 == 0) = false := beq_eq_false_iff_ne.mpr c22
  have c22b1 : (t271 != 0) = true := bne_iff_ne.mpr c22
  exact absurd ((Option.some.inj H).trans hr_.out) (by decide)
 rw [if_pos c22] at H
 have c22b0 : (t271 == 0) = true := beq_iff_eq.mpr c22
 have c22b1 : (t271 != 0) = false := bne_eq_false_iff_eq.mpr c22
 clear c22
 by_cases c23 : t270.toList = ([49, 48, 46, 48, 46, 48, 46, 48, 47, 56] : List UInt8)
 rotate_left
 ·rw [if_neg c23] at H
  have c23b0 : (t270.toList == ([49, 48, 46, 48, 46, 48, 46, 48, 47, 56] : List UInt8)) = false := beq_eq_false_iff_ne.mpr c23
  have c23b1 : (t270.toList != ([49, 48, 46, 48, 46, 48, 46, 48, 47, 56] : List UInt8)) = true := bne_iff_ne.mpr c23
  exact absurd ((Option.some.inj H).trans hr_.out) (by decide)
 rw [if_pos c23] at H
 have c23b0 : (t270.toList == ([49, 48, 46, 48, 46, 48, 46, 48, 47, 56] : List UInt8)) = true := beq_iff_eq.mpr c23
 have c23b1 : (t270.toList != ([49, 48, 46, 48, 46, 48, 46, 48, 47, 56] : List UInt8)) = false := bne_eq_false_iff_eq.mpr c23
 clear c23
 replace H := Option.bind_eq_some_iff.mp H
 obtain ⟨t311, A240, H⟩ := H
 try dsimp only at H
 have A24 := aM A240
 clear A240
 by_cases c25 : t311 = 65536
 rotate_left
 ·rw [if_neg c25] at H
  have c25b0 : (t311 == 65536) = false := beq_eq_false_iff_ne.mpr c25
  have c25b1 : (t311 != 65536) = true := bne_iff_ne.mpr c25
  exact absurd ((Option.some.inj H).trans hr_.out) (by decide)
 rw [if_pos c25] at H
 have c25b0 : (t311 == 65536) = true := beq_iff_eq.mpr c25
 have c25b1 : (t311 != 65536) = false := bne_eq_false_iff_eq.mpr c25
 clear c25
 by_cases c26 : t276 = 0
 rotate_left
 ·rw [if_neg c26] at H
  have c26b0 : (t276 == 0) = false := beq_eq_false_iff_ne.mpr c26
  have c26b1 : (t276 != 0) = true := bne_iff_ne.mpr c26
  exact absurd ((Option.some.inj H).trans hr_.out) (by decide)
 rw [if_pos c26] at H
 have c26b0 : (t276 == 0) = true := beq_iff_eq.mpr c26
 have c26b1 : (t276 != 0) = false := bne_eq_false_iff_eq.mpr c26
 clear c26
 replace H := Option.bind_eq_some_iff.mp H
 obtain ⟨t312, A270, H⟩ := H
 try dsimp only at H
 have A27 := aM A270
 clear A270
 by_cases c28 : t312 = 65536
 rotate_left
 ·rw [if_neg c28] at H
  have c28b0 : (t312 == 65536) = false := beq_eq_false_iff_ne.mpr c28
  have c28b1 : (t312 != 65536) = true := bne_iff_ne.mpr c28
  exact absurd ((Option.some.inj H).trans hr_.out) (by decide)
 rw [if_pos c28] at H
 have c28b0 : (t312 == 65536) = true := beq_iff_eq.mpr c28
 have c28b1 : (t312 != 65536) = false := bne_eq_false_iff_eq.mpr c28
 clear c28
 replace H := Option.bind_eq_some_iff.mp H
 obtain ⟨t313, A290, H⟩ := H
 try dsimp only at H
 have A29 := aM A290
 clear A290
 by_cases c30 : t313 = true
 rotate_left
 ·replace c30 := Bool.eq_false_iff.mpr c30
  subst c30
  rw [if_neg (show ¬ (false = true) by decide)] at H
  exact absurd ((Option.some.inj H).trans hr_.out) (by decide)
 subst c30
 rw [if_pos rfl] at H
 replace H := Option.bind_eq_some_iff.mp H
 obtain ⟨t314, A310, H⟩ := H
 try dsimp only at H
 have A31 := aM A310
 clear A310
 by_cases c32 : t314 = true
 rotate_left
 ·replace c32 := Bool.eq_false_iff.mpr c32
  subst c32
  rw [if_neg (show ¬ (false = true) by decide)] at H
  exact absurd ((Option.some.inj H).trans hr_.out) (by decide)
 subst c32
 rw [if_pos rfl] at H
 replace H := Option.bind_eq_some_iff.mp H
 obtain ⟨t315, A330, H⟩ := H
 try dsimp only at H
 have A33 := aM A330
 clear A330
 by_cases c34 : t315 = true
 rotate_left
 ·replace c34 := Bool.eq_false_iff.mpr c34
  subst c34
  rw [if_neg (show ¬ (false = true) by decide)] at H
  by_cases c35 : t288 = true
  rotate_left
  ·replace c35 := Bool.eq_false_iff.mpr c35
   subst c35
   rw [if_neg (show ¬ (false = true) by decide)] at H
   exact absurd ((Option.some.inj H).trans hr_.out) (by decide)
  subst c35
  rw [if_pos rfl] at H
  by_cases c36 : t287 = 256
  rotate_left
  ·rw [if_neg c36] at H
   have c36b0 : (t287 == 256) = false := beq_eq_false_iff_ne.mpr c36
   have c36b1 : (t287 != 256) = true := bne_iff_ne.mpr c36
   exact absurd ((Option.some.inj H).trans hr_.out) (by decide)
  rw [if_pos c36] at H
  have c36b0 : (t287 == 256) = true := beq_iff_eq.mpr c36
  have c36b1 : (t287 != 256) = false := bne_eq_false_iff_eq.mpr c36
  clear c36
  by_cases c37 : t293 = true
  rotate_left
  ·replace c37 := Bool.eq_false_iff.mpr c37
   subst c37
   rw [if_neg (show ¬ (false = true) by decide)] at H
   by_cases c38 : t297 = true
   rotate_left
   ·replace c38 := Bool.eq_false_iff.mpr c38
    subst c38
    rw [if_neg (show ¬ (false = true) by decide)] at H
    replace H := Option.bind_eq_some_iff.mp H
    obtain ⟨⟨t316, t317, t318⟩, A390, H⟩ := H
    try dsimp only at H
    have A39 := aM A390
    clear A390
    replace H := Option.bind_eq_some_iff.mp H
    obtain ⟨t319, A400, H⟩ := H
    try dsimp only at H
    have A40 := aM A400
    clear A400
    by_cases c41 : t319 = true
    rotate_left
    ·replace c41 := Bool.eq_false_iff.mpr c41
     subst c41
     rw [if_neg (show ¬ (false = true) by decide)] at H
     exact absurd ((Option.some.inj H).trans hr_.out) (by decide)
    subst c41
    rw [if_pos rfl] at H
    replace H := Option.bind_eq_some_iff.mp H
    obtain ⟨⟨t320, t321, t322⟩, A420, H⟩ := H
    try dsimp only at H
    have A42 := aM A420
    clear A420
    replace H := Option.bind_eq_some_iff.mp H
    obtain ⟨t323, A430, H⟩ := H
    try dsimp only at H
    have A43 := aM A430
    clear A430
    by_cases c44 : t323 = true
    rotate_left
    ·replace c44 := Bool.eq_false_iff.mpr c44
     subst c44
     rw [if_neg (show ¬ (false = true) by decide)] at H
     obtain ⟨y324, hy324⟩ : ∃ y_ : List (S26), y_ = (([(⟨(⟨t299, t300, t301⟩ : S24), t302⟩ : S26)] : List (S26))) := ⟨_, rfl⟩
     replace H : ((ranges_Free.f t305 t306 t307 t308 y324).bind fun t327 => (if t327 = 7 then ((ranges_Size.f false 0 0 40).bind fun t328 => (some (t328 == 0))) else (some false))) = some r := by first | (rw [hy324]; with_reducible exact H) | (have H2_ := (Option.bind_some _ _).symm.trans H; rw [hy324]; with_reducible exact H2_) | (have H2_ := (Option.bind_some _ _).symm.trans H; with_reducible exact H2_) | with_reducible exact H | (rw [hy324]; exact H) | exact H
     have Ny324 := aM hy324
     clear hy324
     replace H := Option.bind_eq_some_iff.mp H
     obtain ⟨t327, A450, H⟩ := H
     try dsimp only at H
     have A45 := aM A450
     clear A450
     by_cases c46 : t327 = 7
     rotate_left
     ·rw [if_neg c46] at H
      have c46b0 : (t327 == 7) = false := beq_eq_false_iff_ne.mpr c46
      have c46b1 : (t327 != 7) = true := bne_iff_ne.mpr c46
      exact absurd ((Option.some.inj H).trans hr_.out) (by decide)
     rw [if_pos c46] at H
     have c46b0 : (t327 == 7) = true := beq_iff_eq.mpr c46
     have c46b1 : (t327 != 7) = false := bne_eq_false_iff_eq.mpr c46
     clear c46
     replace H := Option.bind_eq_some_iff.mp H
     obtain ⟨t328, A470, H⟩ := H
     try dsimp only at H
     have A47 := aM A470
     clear A470
     obtain rfl := Option.some.inj H
     go_enter Tryz.func6, Tryz.ntmps6
     try go_wp2_with (first | ((with_reducible refine gate_callee (f := 10) rfl ?_); refine goesL_ (some 27) rfl rfl Tryz.func10 (by kernel_rfl) rfl #[] rfl (by (try simp only [List.map_toArray, List.map_cons, List.map_nil]); first | done | rfl | (simp only [List.length_drop, List.length_take]; rfl)) ?_; (with_reducible refine (nameplatelaw05_lives.calls k  true _ ⟨hG_.out.below (by repeat (first | (with_reducible first | exact HB.out | apply bA | apply bN | apply bD | refine below_set ?_ (by apply Aside0.out; assumption)) | exact HB.out | exact Below.refl _ _))⟩ A1.out).mono ?_); rintro e w48 ⟨rfl, hb⟩; refine ⟨_, rfl, ?_⟩; have n0_ := aM (below_step (by repeat (first | (with_reducible first | exact HB.out | apply bA | apply bN | apply bD) | exact HB.out)) hb); clear HB; have HB := n0_; clear n0_; (try clear hb); (try clear hb2); (try clear hk); (try clear hi)) | ((with_reducible refine gate_callee (f := 22) rfl ?_); refine goesL_ (some 30) rfl rfl Tryz.func22 (by kernel_rfl) rfl #[.string (⟨#[49, 48, 46, 48, 46, 48, 46, 48]⟩ : ByteArray)] rfl (by (try simp only [List.map_toArray, List.map_cons, List.map_nil]); first | done | rfl | (simp only [List.length_drop, List.length_take]; rfl)) ?_; (with_reducible refine (ranges_Read.calls k (⟨#[49, 48, 46, 48, 46, 48, 46, 48]⟩ : ByteArray) t240 t241 t242 t243 t244 _ ⟨hG_.out.below (by repeat (first | (with_reducible first | exact HB.out | apply bA | apply bN | apply bD | refine below_set ?_ (by apply Aside0.out; assumption)) | exact HB.out | exact Below.refl _ _))⟩ A3.out).mono ?_); rintro e w49 ⟨rfl, hb⟩; refine ⟨_, rfl, ?_⟩; have n0_ := aM (below_step (by repeat (first | (with_reducible first | exact HB.out | apply bA | apply bN | apply bD) | exact HB.out)) hb); clear HB; have HB := n0_; clear n0_; (try clear hb); (try clear hb2); (try clear hk); (try clear hi)) | ((with_reducible refine gate_dst (N := 1) rfl ?_); (try (refine gate_guard (by rfl) ?_; dsimp only)); refine box_event ?hg (N := 1) ?hd (cs := #[.bool false, .int .u64 0, .int .u64 0, .int .i64 0]) (t := 26) ?hr ?_; (case hd => rfl); (case hg => rfl); (case hr => first | (go_simp; done) | (go_simp; rfl)); intro gb245 hg w50 hbox hb; have n0_ := aM (below_step (by repeat (first | (with_reducible first | exact HB.out | apply bA | apply bN | apply bD) | exact HB.out)) hb); have n1_ := aM (hbox); have n2_ := aM ((by rw [hg]; exact (below_size (by repeat (first | (with_reducible first | exact HB.out | apply bA | apply bN | apply bD) | exact HB.out))) : w.heap.size ≤ gb245)); have n3_ := aM ((by rw [hg]; exact (below_size (by repeat (first | (with_reducible first | exact HB.out | apply bA | apply bN | apply bD) | exact HB.out))) : w.heap.size ≤ gb245)); clear HB; have HB := n0_; have BK245 := n1_; have GW245 := n2_; have GE245 := n3_; clear n0_ n1_ n2_ n3_; clear hb hbox hg; have hcz51_0 : w50.cell? ⟨gb245, 0, none⟩ = some (.bool false) := (kC BK245.out 0).trans rfl; have hcz51_1 : w50.cell? ⟨gb245, 1, none⟩ = some (.int .u64 0) := (kC BK245.out 1).trans rfl; have hcz51_2 : w50.cell? ⟨gb245, 2, none⟩ = some (.int .u64 0) := (kC BK245.out 2).trans rfl; have hcz51_3 : w50.cell? ⟨gb245, 3, none⟩ = some (.int .i64 0) := (kC BK245.out 3).trans rfl; have hfz51_0 := kF BK245.out 0; have hfz51_1 := kF BK245.out 1; have hfz51_2 := kF BK245.out 2; have hfz51_3 := kF BK245.out 3) | ((with_reducible refine gate_callee (f := 22) rfl ?_); refine goesL_ (some 34) rfl rfl Tryz.func22 (by kernel_rfl) rfl #[.string (⟨#[49, 48, 46, 48, 46, 48, 46, 48, 47, 48, 51]⟩ : ByteArray)] rfl (by (try simp only [List.map_toArray, List.map_cons, List.map_nil]); first | done | rfl | (simp only [List.length_drop, List.length_take]; rfl)) ?_; (with_reducible refine (ranges_Read.calls k (⟨#[49, 48, 46, 48, 46, 48, 46, 48, 47, 48, 51]⟩ : ByteArray) t246 t247 t248 t249 t250 _ ⟨hG_.out.below (by repeat (first | (with_reducible first | exact HB.out | apply bA | apply bN | apply bD | refine below_set ?_ (by apply Aside0.out; assumption)) | exact HB.out | exact Below.refl _ _))⟩ A4.out).mono ?_); rintro e w52 ⟨rfl, hb⟩; refine ⟨_, rfl, ?_⟩; have n0_ := aM (blk_below (o := .cells #[.bool t240, .int .u64 t241, .int .u64 t242, .int .i64 t243] 26 (0, 0)) (by (with_reducible repeat (first | apply kN | apply kD | apply kA)); refine blk_put (cs := #[.bool t240, .int .u64 t241, .int .u64 t242, .int .i64 0]) ?_ 3 _ rfl; (with_reducible repeat (first | apply kN | apply kD | apply kA)); refine blk_put (cs := #[.bool t240, .int .u64 t241, .int .u64 0, .int .i64 0]) ?_ 2 _ rfl; (with_reducible repeat (first | apply kN | apply kD | apply kA)); refine blk_put (cs := #[.bool t240, .int .u64 0, .int .u64 0, .int .i64 0]) ?_ 1 _ rfl; (with_reducible repeat (first | apply kN | apply kD | apply kA)); refine blk_put (cs := #[.bool false, .int .u64 0, .int .u64 0, .int .i64 0]) ?_ 0 _ rfl; (with_reducible repeat (first | apply kN | apply kD | apply kA)); exact BK245.out) hb); have n1_ := aM (below_step (by repeat (first | (with_reducible first | exact HB.out | apply bA | apply bN | apply bD | refine below_set ?_ (by apply Aside0.out; assumption)) | exact HB.out)) hb); clear BK245; clear HB; have BK245 := n0_; have HB := n1_; clear n0_ n1_; (try clear hb); (try clear hb2); (try clear hk); (try clear hi)) | ((with_reducible refine gate_dst (N := 3) rfl ?_); (try (refine gate_guard (by rfl) ?_; dsimp only)); refine box_event ?hg (N := 3) ?hd (cs := #[.bool false, .int .u64 0, .int .u64 0, .int .i64 0]) (t := 26) ?hr ?_; (case hd => rfl); (case hg => rfl); (case hr => first | (go_simp; done) | (go_simp; rfl)); intro gb251 hg w53 hbox hb; have n0_ := aM (blk_below (o := .cells #[.bool t240, .int .u64 t241, .int .u64 t242, .int .i64 t243] 26 (0, 0)) (by (with_reducible repeat (first | apply kN | apply kD | apply kA)); exact BK245.out) hb); have n1_ := aM (below_step (by repeat (first | (with_reducible first | exact HB.out | apply bA | apply bN | apply bD | refine below_set ?_ (by apply Aside0.out; assumption)) | exact HB.out)) hb); have n2_ := aM (hbox); have n3_ := aM ((by rw [hg]; exact (below_size (by repeat (first | (with_reducible first | exact HB.out | apply bA | apply bN | apply bD | refine below_set ?_ (by apply Aside0.out; assumption)) | exact HB.out))) : w.heap.size ≤ gb251)); have n4_ := aM ((by rw [hg]; exact (below_size (by repeat (first | (with_reducible first | exact HB.out | apply bA | apply bN | apply bD | refine below_set ?_ (by apply Aside0.out; assumption)) | exact HB.out))) : w.heap.size ≤ gb251)); have n5_ := aM ((by rw [hg]; exact Nat.ne_of_lt (blk_lt (g := gb245) (o := .cells #[.bool t240, .int .u64 t241, .int .u64 t242, .int .i64 t243] 26 (0, 0)) (by (with_reducible repeat (first | apply kN | apply kD | apply kA)); exact BK245.out)) : gb245 ≠ gb251)); have n6_ := aM ((by rw [hg]; exact Nat.ne_of_gt (blk_lt (g := gb245) (o := .cells #[.bool t240, .int .u64 t241, .int .u64 t242, .int .i64 t243] 26 (0, 0)) (by (with_reducible repeat (first | apply kN | apply kD | apply kA)); exact BK245.out)) : gb251 ≠ gb245)); clear BK245; clear HB; have BK245 := n0_; have HB := n1_; have BK251 := n2_; have GW251 := n3_; have GE251 := n4_; have NB245_251 := n5_; have NB251_245 := n6_; clear n0_ n1_ n2_ n3_ n4_ n5_ n6_; clear hb hbox hg; have hnb54 := NB251_245.out; have hnc54 := NB245_251.out; have hcz55_0 : w53.cell? ⟨gb251, 0, none⟩ = some (.bool false) := (kC BK251.out 0).trans rfl; have hcz55_1 : w53.cell? ⟨gb251, 1, none⟩ = some (.int .u64 0) := (kC BK251.out 1).trans rfl; have hcz55_2 : w53.cell? ⟨gb251, 2, none⟩ = some (.int .u64 0) := (kC BK251.out 2).trans rfl; have hcz55_3 : w53.cell? ⟨gb251, 3, none⟩ = some (.int .i64 0) := (kC BK251.out 3).trans rfl; have hfz55_0 := kF BK251.out 0; have hfz55_1 := kF BK251.out 1; have hfz55_2 := kF BK251.out 2; have hfz55_3 := kF BK251.out 3) | ((with_reducible refine gate_callee (f := 22) rfl ?_); refine goesL_ (some 38) rfl rfl Tryz.func22 (by kernel_rfl) rfl #[.string (⟨#[49, 48, 46, 48, 46, 48, 46, 48, 47, 51, 51]⟩ : ByteArray)] rfl (by (try simp only [List.map_toArray, List.map_cons, List.map_nil]); first | done | rfl | (simp only [List.length_drop, List.length_take]; rfl)) ?_; (with_reducible refine (ranges_Read.calls k (⟨#[49, 48, 46, 48, 46, 48, 46, 48, 47, 51, 51]⟩ : ByteArray) t252 t253 t254 t255 t256 _ ⟨hG_.out.below (by repeat (first | (with_reducible first | exact HB.out | apply bA | apply bN | apply bD | refine below_set ?_ (by apply Aside0.out; assumption)) | exact HB.out | exact Below.refl _ _))⟩ A5.out).mono ?_); rintro e w56 ⟨rfl, hb⟩; refine ⟨_, rfl, ?_⟩; have n0_ := aM (blk_below (o := .cells #[.bool t240, .int .u64 t241, .int .u64 t242, .int .i64 t243] 26 (0, 0)) (by (with_reducible repeat (first | apply kN | apply kD | apply kA)); refine blk_far ?_ NB245_251.out _; (with_reducible repeat (first | apply kN | apply kD | apply kA)); refine blk_far ?_ NB245_251.out _; (with_reducible repeat (first | apply kN | apply kD | apply kA)); refine blk_far ?_ NB245_251.out _; (with_reducible repeat (first | apply kN | apply kD | apply kA)); refine blk_far ?_ NB245_251.out _; (with_reducible repeat (first | apply kN | apply kD | apply kA)); exact BK245.out) hb); have n1_ := aM (blk_below (o := .cells #[.bool t246, .int .u64 t247, .int .u64 t248, .int .i64 t249] 26 (0, 0)) (by (with_reducible repeat (first | apply kN | apply kD | apply kA)); refine blk_put (cs := #[.bool t246, .int .u64 t247, .int .u64 t248, .int .i64 0]) ?_ 3 _ rfl; (with_reducible repeat (first | apply kN | apply kD | apply kA)); refine blk_put (cs := #[.bool t246, .int .u64 t247, .int .u64 0, .int .i64 0]) ?_ 2 _ rfl; (with_reducible repeat (first | apply kN | apply kD | apply kA)); refine blk_put (cs := #[.bool t246, .int .u64 0, .int .u64 0, .int .i64 0]) ?_ 1 _ rfl; (with_reducible repeat (first | apply kN | apply kD | apply kA)); refine blk_put (cs := #[.bool false, .int .u64 0, .int .u64 0, .int .i64 0]) ?_ 0 _ rfl; (with_reducible repeat (first | apply kN | apply kD | apply kA)); exact BK251.out) hb); have n2_ := aM (below_step (by repeat (first | (with_reducible first | exact HB.out | apply bA | apply bN | apply bD | refine below_set ?_ (by apply Aside0.out; assumption)) | exact HB.out)) hb); clear BK245; clear BK251; clear HB; have BK245 := n0_; have BK251 := n1_; have HB := n2_; clear n0_ n1_ n2_; (try clear hb); (try clear hb2); (try clear hk); (try clear hi)) | ((with_reducible refine gate_dst (N := 5) rfl ?_); (try (refine gate_guard (by rfl) ?_; dsimp only)); refine box_event ?hg (N := 5) ?hd (cs := #[.bool false, .int .u64 0, .int .u64 0, .int .i64 0]) (t := 26) ?hr ?_; (case hd => rfl); (case hg => rfl); (case hr => first | (go_simp; done) | (go_simp; rfl)); intro gb257 hg w57 hbox hb; have n0_ := aM (blk_below (o := .cells #[.bool t240, .int .u64 t241, .int .u64 t242, .int .i64 t243] 26 (0, 0)) (by (with_reducible repeat (first | apply kN | apply kD | apply kA)); exact BK245.out) hb); have n1_ := aM (blk_below (o := .cells #[.bool t246, .int .u64 t247, .int .u64 t248, .int .i64 t249] 26 (0, 0)) (by (with_reducible repeat (first | apply kN | apply kD | apply kA)); exact BK251.out) hb); have n2_ := aM (below_step (by repeat (first | (with_reducible first | exact HB.out | apply bA | apply bN | apply bD | refine below_set ?_ (by apply Aside0.out; assumption)) | exact HB.out)) hb); have n3_ := aM (hbox); have n4_ := aM ((by rw [hg]; exact (below_size (by repeat (first | (with_reducible first | exact HB.out | apply bA | apply bN | apply bD | refine below_set ?_ (by apply Aside0.out; assumption)) | exact HB.out))) : w.heap.size ≤ gb257)); have n5_ := aM ((by rw [hg]; exact (below_size (by repeat (first | (with_reducible first | exact HB.out | apply bA | apply bN | apply bD | refine below_set ?_ (by apply Aside0.out; assumption)) | exact HB.out))) : w.heap.size ≤ gb257)); have n6_ := aM ((by rw [hg]; exact Nat.ne_of_lt (blk_lt (g := gb245) (o := .cells #[.bool t240, .int .u64 t241, .int .u64 t242, .int .i64 t243] 26 (0, 0)) (by (with_reducible repeat (first | apply kN | apply kD | apply kA)); exact BK245.out)) : gb245 ≠ gb257)); have n7_ := aM ((by rw [hg]; exact Nat.ne_of_gt (blk_lt (g := gb245) (o := .cells #[.bool t240, .int .u64 t241, .int .u64 t242, .int .i64 t243] 26 (0, 0)) (by (with_reducible repeat (first | apply kN | apply kD | apply kA)); exact BK245.out)) : gb257 ≠ gb245)); have n8_ := aM ((by rw [hg]; exact Nat.ne_of_lt (blk_lt (g := gb251) (o := .cells #[.bool t246, .int .u64 t247, .int .u64 t248, .int .i64 t249] 26 (0, 0)) (by (with_reducible repeat (first | apply kN | apply kD | apply kA)); exact BK251.out)) : gb251 ≠ gb257)); have n9_ := aM ((by rw [hg]; exact Nat.ne_of_gt (blk_lt (g := gb251) (o := .cells #[.bool t246, .int .u64 t247, .int .u64 t248, .int .i64 t249] 26 (0, 0)) (by (with_reducible repeat (first | apply kN | apply kD | apply kA)); exact BK251.out)) : gb257 ≠ gb251)); clear BK245; clear BK251; clear HB; have BK245 := n0_; have BK251 := n1_; have HB := n2_; have BK257 := n3_; have GW257 := n4_; have GE257 := n5_; have NB245_257 := n6_; have NB257_245 := n7_; have NB251_257 := n8_; have NB257_251 := n9_; clear n0_ n1_ n2_ n3_ n4_ n5_ n6_ n7_ n8_ n9_; clear hb hbox hg; have hnb58 := NB257_245.out; have hnc58 := NB245_257.out; have hnb59 := NB257_251.out; have hnc59 := NB251_257.out; have hcz60_0 : w57.cell? ⟨gb257, 0, none⟩ = some (.bool false) := (kC BK257.out 0).trans rfl; have hcz60_1 : w57.cell? ⟨gb257, 1, none⟩ = some (.int .u64 0) := (kC BK257.out 1).trans rfl; have hcz60_2 : w57.cell? ⟨gb257, 2, none⟩ = some (.int .u64 0) := (kC BK257.out 2).trans rfl; have hcz60_3 : w57.cell? ⟨gb257, 3, none⟩ = some (.int .i64 0) := (kC BK257.out 3).trans rfl; have hfz60_0 := kF BK257.out 0; have hfz60_1 := kF BK257.out 1; have hfz60_2 := kF BK257.out 2; have hfz60_3 := kF BK257.out 3) | ((with_reducible refine gate_callee (f := 22) rfl ?_); refine goesL_ (some 42) rfl rfl Tryz.func22 (by kernel_rfl) rfl #[.string (⟨#[120, 47, 56]⟩ : ByteArray)] rfl (by (try simp only [List.map_toArray, List.map_cons, List.map_nil]); first | done | rfl | (simp only [List.length_drop, List.length_take]; rfl)) ?_; (with_reducible refine (ranges_Read.calls k (⟨#[120, 47, 56]⟩ : ByteArray) t258 t259 t260 t261 t262 _ ⟨hG_.out.below (by repeat (first | (with_reducible first | exact HB.out | apply bA | apply bN | apply bD | refine below_set ?_ (by apply Aside0.out; assumption)) | exact HB.out | exact Below.refl _ _))⟩ A6.out).mono ?_); rintro e w61 ⟨rfl, hb⟩; refine ⟨_, rfl, ?_⟩; have n0_ := aM (blk_below (o := .cells #[.bool t240, .int .u64 t241, .int .u64 t242, .int .i64 t243] 26 (0, 0)) (by (with_reducible repeat (first | apply kN | apply kD | apply kA)); refine blk_far ?_ NB245_257.out _; (with_reducible repeat (first | apply kN | apply kD | apply kA)); refine blk_far ?_ NB245_257.out _; (with_reducible repeat (first | apply kN | apply kD | apply kA)); refine blk_far ?_ NB245_257.out _; (with_reducible repeat (first | apply kN | apply kD | apply kA)); refine blk_far ?_ NB245_257.out _; (with_reducible repeat (first | apply kN | apply kD | apply kA)); exact BK245.out) hb); have n1_ := aM (blk_below (o := .cells #[.bool t246, .int .u64 t247, .int .u64 t248, .int .i64 t249] 26 (0, 0)) (by (with_reducible repeat (first | apply kN | apply kD | apply kA)); refine blk_far ?_ NB251_257.out _; (with_reducible repeat (first | apply kN | apply kD | apply kA)); refine blk_far ?_ NB251_257.out _; (with_reducible repeat (first | apply kN | apply kD | apply kA)); refine blk_far ?_ NB251_257.out _; (with_reducible repeat (first | apply kN | apply kD | apply kA)); refine blk_far ?_ NB251_257.out _; (with_reducible repeat (first | apply kN | apply kD | apply kA)); exact BK251.out) hb); have n2_ := aM (blk_below (o := .cells #[.bool t252, .int .u64 t253, .int .u64 t254, .int .i64 t255] 26 (0, 0)) (by (with_reducible repeat (first | apply kN | apply kD | apply kA)); refine blk_put (cs := #[.bool t252, .int .u64 t253, .int .u64 t254, .int .i64 0]) ?_ 3 _ rfl; (with_reducible repeat (first | apply kN | apply kD | apply kA)); refine blk_put (cs := #[.bool t252, .int .u64 t253, .int .u64 0, .int .i64 0]) ?_ 2 _ rfl; (with_reducible repeat (first | apply kN | apply kD | apply kA)); refine blk_put (cs := #[.bool t252, .int .u64 0, .int .u64 0, .int .i64 0]) ?_ 1 _ rfl; (with_reducible repeat (first | apply kN | apply kD | apply kA)); refine blk_put (cs := #[.bool false, .int .u64 0, .int .u64 0, .int .i64 0]) ?_ 0 _ rfl; (with_reducible repeat (first | apply kN | apply kD | apply kA)); exact BK257.out) hb); have n3_ := aM (below_step (by repeat (first | (with_reducible first | exact HB.out | apply bA | apply bN | apply bD | refine below_set ?_ (by apply Aside0.out; assumption)) | exact HB.out)) hb); clear BK245; clear BK251; clear BK257; clear HB; have BK245 := n0_; have BK251 := n1_; have BK257 := n2_; have HB := n3_; clear n0_ n1_ n2_ n3_; (try clear hb); (try clear hb2); (try clear hk); (try clear hi)) | ((with_reducible refine gate_dst (N := 7) rfl ?_); (try (refine gate_guard (by rfl) ?_; dsimp only)); refine box_event ?hg (N := 7) ?hd (cs := #[.bool false, .int .u64 0, .int .u64 0, .int .i64 0]) (t := 26) ?hr ?_; (case hd => rfl); (case hg => rfl); (case hr => first | (go_simp; done) | (go_simp; rfl)); intro gb263 hg w62 hbox hb; have n0_ := aM (blk_below (o := .cells #[.bool t240, .int .u64 t241, .int .u64 t242, .int .i64 t243] 26 (0, 0)) (by (with_reducible repeat (first | apply kN | apply kD | apply kA)); exact BK245.out) hb); have n1_ := aM (blk_below (o := .cells #[.bool t246, .int .u64 t247, .int .u64 t248, .int .i64 t249] 26 (0, 0)) (by (with_reducible repeat (first | apply kN | apply kD | apply kA)); exact BK251.out) hb); have n2_ := aM (blk_below (o := .cells #[.bool t252, .int .u64 t253, .int .u64 t254, .int .i64 t255] 26 (0, 0)) (by (with_reducible repeat (first | apply kN | apply kD | apply kA)); exact BK257.out) hb); have n3_ := aM (below_step (by repeat (first | (with_reducible first | exact HB.out | apply bA | apply bN | apply bD | refine below_set ?_ (by apply Aside0.out; assumption)) | exact HB.out)) hb); have n4_ := aM (hbox); have n5_ := aM ((by rw [hg]; exact (below_size (by repeat (first | (with_reducible first | exact HB.out | apply bA | apply bN | apply bD | refine below_set ?_ (by apply Aside0.out; assumption)) | exact HB.out))) : w.heap.size ≤ gb263)); have n6_ := aM ((by rw [hg]; exact (below_size (by repeat (first | (with_reducible first | exact HB.out | apply bA | apply bN | apply bD | refine below_set ?_ (by apply Aside0.out; assumption)) | exact HB.out))) : w.heap.size ≤ gb263)); have n7_ := aM ((by rw [hg]; exact Nat.ne_of_lt (blk_lt (g := gb245) (o := .cells #[.bool t240, .int .u64 t241, .int .u64 t242, .int .i64 t243] 26 (0, 0)) (by (with_reducible repeat (first | apply kN | apply kD | apply kA)); exact BK245.out)) : gb245 ≠ gb263)); have n8_ := aM ((by rw [hg]; exact Nat.ne_of_gt (blk_lt (g := gb245) (o := .cells #[.bool t240, .int .u64 t241, .int .u64 t242, .int .i64 t243] 26 (0, 0)) (by (with_reducible repeat (first | apply kN | apply kD | apply kA)); exact BK245.out)) : gb263 ≠ gb245)); have n9_ := aM ((by rw [hg]; exact Nat.ne_of_lt (blk_lt (g := gb251) (o := .cells #[.bool t246, .int .u64 t247, .int .u64 t248, .int .i64 t249] 26 (0, 0)) (by (with_reducible repeat (first | apply kN | apply kD | apply kA)); exact BK251.out)) : gb251 ≠ gb263)); have n10_ := aM ((by rw [hg]; exact Nat.ne_of_gt (blk_lt (g := gb251) (o := .cells #[.bool t246, .int .u64 t247, .int .u64 t248, .int .i64 t249] 26 (0, 0)) (by (with_reducible repeat (first | apply kN | apply kD | apply kA)); exact BK251.out)) : gb263 ≠ gb251)); have n11_ := aM ((by rw [hg]; exact Nat.ne_of_lt (blk_lt (g := gb257) (o := .cells #[.bool t252, .int .u64 t253, .int .u64 t254, .int .i64 t255] 26 (0, 0)) (by (with_reducible repeat (first | apply kN | apply kD | apply kA)); exact BK257.out)) : gb257 ≠ gb263)); have n12_ := aM ((by rw [hg]; exact Nat.ne_of_gt (blk_lt (g := gb257) (o := .cells #[.bool t252, .int .u64 t253, .int .u64 t254, .int .i64 t255] 26 (0, 0)) (by (with_reducible repeat (first | apply kN | apply kD | apply kA)); exact BK257.out)) : gb263 ≠ gb257)); clear BK245; clear BK251; clear BK257; clear HB; have BK245 := n0_; have BK251 := n1_; have BK257 := n2_; have HB := n3_; have BK263 := n4_; have GW263 := n5_; have GE263 := n6_; have NB245_263 := n7_; have NB263_245 := n8_; have NB251_263 := n9_; have NB263_251 := n10_; have NB257_263 := n11_; have NB263_257 := n12_; clear n0_ n1_ n2_ n3_ n4_ n5_ n6_ n7_ n8_ n9_ n10_ n11_ n12_; clear hb hbox hg; have hnb63 := NB263_245.out; have hnc63 := NB245_263.out; have hnb64 := NB263_251.out; have hnc64 := NB251_263.out; have hnb65 := NB263_257.out; have hnc65 := NB257_263.out; have hcz66_0 : w62.cell? ⟨gb263, 0, none⟩ = some (.bool false) := (kC BK263.out 0).trans rfl; have hcz66_1 : w62.cell? ⟨gb263, 1, none⟩ = some (.int .u64 0) := (kC BK263.out 1).trans rfl; have hcz66_2 : w62.cell? ⟨gb263, 2, none⟩ = some (.int .u64 0) := (kC BK263.out 2).trans rfl; have hcz66_3 : w62.cell? ⟨gb263, 3, none⟩ = some (.int .i64 0) := (kC BK263.out 3).trans rfl; have hfz66_0 := kF BK263.out 0; have hfz66_1 := kF BK263.out 1; have hfz66_2 := kF BK263.out 2; have hfz66_3 := kF BK263.out 3) | ((with_reducible refine gate_callee (f := 22) rfl ?_); refine goesL_ (some 46) rfl rfl Tryz.func22 (by kernel_rfl) rfl #[.string (⟨#[49, 48, 46, 48, 46, 48, 46, 48, 47, 56]⟩ : ByteArray)] rfl (by (try simp only [List.map_toArray, List.map_cons, List.map_nil]); first | done | rfl | (simp only [List.length_drop, List.length_take]; rfl)) ?_; (with_reducible refine (ranges_Read.calls k (⟨#[49, 48, 46, 48, 46, 48, 46, 48, 47, 56]⟩ : ByteArray) t264 t265 t266 t267 t268 _ ⟨hG_.out.below (by repeat (first | (with_reducible first | exact HB.out | apply bA | apply bN | apply bD | refine below_set ?_ (by apply Aside0.out; assumption)) | exact HB.out | exact Below.refl _ _))⟩ A7.out).mono ?_); rintro e w67 ⟨rfl, hb⟩; refine ⟨_, rfl, ?_⟩; have n0_ := aM (blk_below (o := .cells #[.bool t240, .int .u64 t241, .int .u64 t242, .int .i64 t243] 26 (0, 0)) (by (with_reducible repeat (first | apply kN | apply kD | apply kA)); refine blk_far ?_ NB245_263.out _; (with_reducible repeat (first | apply kN | apply kD | apply kA)); refine blk_far ?_ NB245_263.out _; (with_reducible repeat (first | apply kN | apply kD | apply kA)); refine blk_far ?_ NB245_263.out _; (with_reducible repeat (first | apply kN | apply kD | apply kA)); refine blk_far ?_ NB245_263.out _; (with_reducible repeat (first | apply kN | apply kD | apply kA)); exact BK245.out) hb); have n1_ := aM (blk_below (o := .cells #[.bool t246, .int .u64 t247, .int .u64 t248, .int .i64 t249] 26 (0, 0)) (by (with_reducible repeat (first | apply kN | apply kD | apply kA)); refine blk_far ?_ NB251_263.out _; (with_reducible repeat (first | apply kN | apply kD | apply kA)); refine blk_far ?_ NB251_263.out _; (with_reducible repeat (first | apply kN | apply kD | apply kA)); refine blk_far ?_ NB251_263.out _; (with_reducible repeat (first | apply kN | apply kD | apply kA)); refine blk_far ?_ NB251_263.out _; (with_reducible repeat (first | apply kN | apply kD | apply kA)); exact BK251.out) hb); have n2_ := aM (blk_below (o := .cells #[.bool t252, .int .u64 t253, .int .u64 t254, .int .i64 t255] 26 (0, 0)) (by (with_reducible repeat (first | apply kN | apply kD | apply kA)); refine blk_far ?_ NB257_263.out _; (with_reducible repeat (first | apply kN | apply kD | apply kA)); refine blk_far ?_ NB257_263.out _; (with_reducible repeat (first | apply kN | apply kD | apply kA)); refine blk_far ?_ NB257_263.out _; (with_reducible repeat (first | apply kN | apply kD | apply kA)); refine blk_far ?_ NB257_263.out _; (with_reducible repeat (first | apply kN | apply kD | apply kA)); exact BK257.out) hb); have n3_ := aM (blk_below (o := .cells #[.bool t258, .int .u64 t259, .int .u64 t260, .int .i64 t261] 26 (0, 0)) (by (with_reducible repeat (first | apply kN | apply kD | apply kA)); refine blk_put (cs := #[.bool t258, .int .u64 t259, .int .u64 t260, .int .i64 0]) ?_ 3 _ rfl; (with_reducible repeat (first | apply kN | apply kD | apply kA)); refine blk_put (cs := #[.bool t258, .int .u64 t259, .int .u64 0, .int .i64 0]) ?_ 2 _ rfl; (with_reducible repeat (first | apply kN | apply kD | apply kA)); refine blk_put (cs := #[.bool t258, .int .u64 0, .int .u64 0, .int .i64 0]) ?_ 1 _ rfl; (with_reducible repeat (first | apply kN | apply kD | apply kA)); refine blk_put (cs := #[.bool false, .int .u64 0, .int .u64 0, .int .i64 0]) ?_ 0 _ rfl; (with_reducible repeat (first | apply kN | apply kD | apply kA)); exact BK263.out) hb); have n4_ := aM (below_step (by repeat (first | (with_reducible first | exact HB.out | apply bA | apply bN | apply bD | refine below_set ?_ (by apply Aside0.out; assumption)) | exact HB.out)) hb); clear BK245; clear BK251; clear BK257; clear BK263; clear HB; have BK245 := n0_; have BK251 := n1_; have BK257 := n2_; have BK263 := n3_; have HB := n4_; clear n0_ n1_ n2_ n3_ n4_; (try clear hb); (try clear hb2); (try clear hk); (try clear hi)) | ((with_reducible refine gate_dst (N := 9) rfl ?_); (try (refine gate_guard (by rfl) ?_; dsimp only)); refine box_event ?hg (N := 9) ?hd (cs := #[.bool false, .int .u64 0, .int .u64 0, .int .i64 0]) (t := 26) ?hr ?_; (case hd => rfl); (case hg => rfl); (case hr => first | (go_simp; done) | (go_simp; rfl)); intro gb269 hg w68 hbox hb; have n0_ := aM (blk_below (o := .cells #[.bool t240, .int .u64 t241, .int .u64 t242, .int .i64 t243] 26 (0, 0)) (by (with_reducible repeat (first | apply kN | apply kD | apply kA)); exact BK245.out) hb); have n1_ := aM (blk_below (o := .cells #[.bool t246, .int .u64 t247, .int .u64 t248, .int .i64 t249] 26 (0, 0)) (by (with_reducible repeat (first | apply kN | apply kD | apply kA)); exact BK251.out) hb); have n2_ := aM (blk_below (o := .cells #[.bool t252, .int .u64 t253, .int .u64 t254, .int .i64 t255] 26 (0, 0)) (by (with_reducible repeat (first | apply kN | apply kD | apply kA)); exact BK257.out) hb); have n3_ := aM (blk_below (o := .cells #[.bool t258, .int .u64 t259, .int .u64 t260, .int .i64 t261] 26 (0, 0)) (by (with_reducible repeat (first | apply kN | apply kD | apply kA)); exact BK263.out) hb); have n4_ := aM (below_step (by repeat (first | (with_reducible first | exact HB.out | apply bA | apply bN | apply bD | refine below_set ?_ (by apply Aside0.out; assumption)) | exact HB.out)) hb); have n5_ := aM (hbox); have n6_ := aM ((by rw [hg]; exact (below_size (by repeat (first | (with_reducible first | exact HB.out | apply bA | apply bN | apply bD | refine below_set ?_ (by apply Aside0.out; assumption)) | exact HB.out))) : w.heap.size ≤ gb269)); have n7_ := aM ((by rw [hg]; exact (below_size (by repeat (first | (with_reducible first | exact HB.out | apply bA | apply bN | apply bD | refine below_set ?_ (by apply Aside0.out; assumption)) | exact HB.out))) : w.heap.size ≤ gb269)); have n8_ := aM ((by rw [hg]; exact Nat.ne_of_lt (blk_lt (g := gb245) (o := .cells #[.bool t240, .int .u64 t241, .int .u64 t242, .int .i64 t243] 26 (0, 0)) (by (with_reducible repeat (first | apply kN | apply kD | apply kA)); exact BK245.out)) : gb245 ≠ gb269)); have n9_ := aM ((by rw [hg]; exact Nat.ne_of_gt (blk_lt (g := gb245) (o := .cells #[.bool t240, .int .u64 t241, .int .u64 t242, .int .i64 t243] 26 (0, 0)) (by (with_reducible repeat (first | apply kN | apply kD | apply kA)); exact BK245.out)) : gb269 ≠ gb245)); have n10_ := aM ((by rw [hg]; exact Nat.ne_of_lt (blk_lt (g := gb251) (o := .cells #[.bool t246, .int .u64 t247, .int .u64 t248, .int .i64 t249] 26 (0, 0)) (by (with_reducible repeat (first | apply kN | apply kD | apply kA)); exact BK251.out)) : gb251 ≠ gb269)); have n11_ := aM ((by rw [hg]; exact Nat.ne_of_gt (blk_lt (g := gb251) (o := .cells #[.bool t246, .int .u64 t247, .int .u64 t248, .int .i64 t249] 26 (0, 0)) (by (with_reducible repeat (first | apply kN | apply kD | apply kA)); exact BK251.out)) : gb269 ≠ gb251)); have n12_ := aM ((by rw [hg]; exact Nat.ne_of_lt (blk_lt (g := gb257) (o := .cells #[.bool t252, .int .u64 t253, .int .u64 t254, .int .i64 t255] 26 (0, 0)) (by (with_reducible repeat (first | apply kN | apply kD | apply kA)); exact BK257.out)) : gb257 ≠ gb269)); have n13_ := aM ((by rw [hg]; exact Nat.ne_of_gt (blk_lt (g := gb257) (o := .cells #[.bool t252, .int .u64 t253, .int .u64 t254, .int .i64 t255] 26 (0, 0)) (by (with_reducible repeat (first | apply kN | apply kD | apply kA)); exact BK257.out)) : gb269 ≠ gb257)); have n14_ := aM ((by rw [hg]; exact Nat.ne_of_lt (blk_lt (g := gb263) (o := .cells #[.bool t258, .int .u64 t259, .int .u64 t260, .int .i64 t261] 26 (0, 0)) (by (with_reducible repeat (first | apply kN | apply kD | apply kA)); exact BK263.out)) : gb263 ≠ gb269)); have n15_ := aM ((by rw [hg]; exact Nat.ne_of_gt (blk_lt (g := gb263) (o := .cells #[.bool t258, .int .u64 t259, .int .u64 t260, .int .i64 t261] 26 (0, 0)) (by (with_reducible repeat (first | apply kN | apply kD | apply kA)); exact BK263.out)) : gb269 ≠ gb263)); clear BK245; clear BK251; clear BK257; clear BK263; clear HB; have BK245 := n0_; have BK251 := n1_; have BK257 := n2_; have BK263 := n3_; have HB := n4_; have BK269 := n5_; have GW269 := n6_; have GE269 := n7_; have NB245_269 := n8_; have NB269_245 := n9_; have NB251_269 := n10_; have NB269_251 := n11_; have NB257_269 := n12_; have NB269_257 := n13_; have NB263_269 := n14_; have NB269_263 := n15_; clear n0_ n1_ n2_ n3_ n4_ n5_ n6_ n7_ n8_ n9_ n10_ n11_ n12_ n13_ n14_ n15_; clear hb hbox hg; have hnb69 := NB269_245.out; have hnc69 := NB245_269.out; have hnb70 := NB269_251.out; have hnc70 := NB251_269.out; have hnb71 := NB269_257.out; have hnc71 := NB257_269.out; have hnb72 := NB269_263.out; have hnc72 := NB263_269.out; have hcz73_0 : w68.cell? ⟨gb269, 0, none⟩ = some (.bool false) := (kC BK269.out 0).trans rfl; have hcz73_1 : w68.cell? ⟨gb269, 1, none⟩ = some (.int .u64 0) := (kC BK269.out 1).trans rfl; have hcz73_2 : w68.cell? ⟨gb269, 2, none⟩ = some (.int .u64 0) := (kC BK269.out 2).trans rfl; have hcz73_3 : w68.cell? ⟨gb269, 3, none⟩ = some (.int .i64 0) := (kC BK269.out 3).trans rfl; have hfz73_0 := kF BK269.out 0; have hfz73_1 := kF BK269.out 1; have hfz73_2 := kF BK269.out 2; have hfz73_3 := kF BK269.out 3) | ((with_reducible refine gate_callee (f := 21) rfl ?_); refine goesL_ (some 51) rfl rfl Tryz.func21 (by kernel_rfl) rfl #[.agg #[.bool t264, .int .u64 t265, .int .u64 t266, .int .i64 t267]] rfl (by (try simp only [List.map_toArray, List.map_cons, List.map_nil]); first | done | rfl | (simp only [List.length_drop, List.length_take]; rfl)) ?_; (with_reducible refine (ranges_Text.calls k t264 t265 t266 t267 t270 t271 _ ⟨hG_.out.below (by repeat (first | (with_reducible first | exact HB.out | apply bA | apply bN | apply bD | refine below_set ?_ (by apply Aside0.out; assumption)) | exact HB.out | exact Below.refl _ _))⟩ A8.out).mono ?_); rintro e w74 ⟨rfl, hb⟩; refine ⟨_, rfl, ?_⟩; have n0_ := aM (blk_below (o := .cells #[.bool t240, .int .u64 t241, .int .u64 t242, .int .i64 t243] 26 (0, 0)) (by (with_reducible repeat (first | apply kN | apply kD | apply kA)); refine blk_far ?_ NB245_269.out _; (with_reducible repeat (first | apply kN | apply kD | apply kA)); refine blk_far ?_ NB245_269.out _; (with_reducible repeat (first | apply kN | apply kD | apply kA)); refine blk_far ?_ NB245_269.out _; (with_reducible repeat (first | apply kN | apply kD | apply kA)); refine blk_far ?_ NB245_269.out _; (with_reducible repeat (first | apply kN | apply kD | apply kA)); exact BK245.out) hb); have n1_ := aM (blk_below (o := .cells #[.bool t246, .int .u64 t247, .int .u64 t248, .int .i64 t249] 26 (0, 0)) (by (with_reducible repeat (first | apply kN | apply kD | apply kA)); refine blk_far ?_ NB251_269.out _; (with_reducible repeat (first | apply kN | apply kD | apply kA)); refine blk_far ?_ NB251_269.out _; (with_reducible repeat (first | apply kN | apply kD | apply kA)); refine blk_far ?_ NB251_269.out _; (with_reducible repeat (first | apply kN | apply kD | apply kA)); refine blk_far ?_ NB251_269.out _; (with_reducible repeat (first | apply kN | apply kD | apply kA)); exact BK251.out) hb); have n2_ := aM (blk_below (o := .cells #[.bool t252, .int .u64 t253, .int .u64 t254, .int .i64 t255] 26 (0, 0)) (by (with_reducible repeat (first | apply kN | apply kD | apply kA)); refine blk_far ?_ NB257_269.out _; (with_reducible repeat (first | apply kN | apply kD | apply kA)); refine blk_far ?_ NB257_269.out _; (with_reducible repeat (first | apply kN | apply kD | apply kA)); refine blk_far ?_ NB257_269.out _; (with_reducible repeat (first | apply kN | apply kD | apply kA)); refine blk_far ?_ NB257_269.out _; (with_reducible repeat (first | apply kN | apply kD | apply kA)); exact BK257.out) hb); have n3_ := aM (blk_below (o := .cells #[.bool t258, .int .u64 t259, .int .u64 t260, .int .i64 t261] 26 (0, 0)) (by (with_reducible repeat (first | apply kN | apply kD | apply kA)); refine blk_far ?_ NB263_269.out _; (with_reducible repeat (first | apply kN | apply kD | apply kA)); refine blk_far ?_ NB263_269.out _; (with_reducible repeat (first | apply kN | apply kD | apply kA)); refine blk_far ?_ NB263_269.out _; (with_reducible repeat (first | apply kN | apply kD | apply kA)); refine blk_far ?_ NB263_269.out _; (with_reducible repeat (first | apply kN | apply kD | apply kA)); exact BK263.out) hb); have n4_ := aM (blk_below (o := .cells #[.bool t264, .int .u64 t265, .int .u64 t266, .int .i64 t267] 26 (0, 0)) (by (with_reducible repeat (first | apply kN | apply kD | apply kA)); refine blk_put (cs := #[.bool t264, .int .u64 t265, .int .u64 t266, .int .i64 0]) ?_ 3 _ rfl; (with_reducible repeat (first | apply kN | apply kD | apply kA)); refine blk_put (cs := #[.bool t264, .int .u64 t265, .int .u64 0, .int .i64 0]) ?_ 2 _ rfl; (with_reducible repeat (first | apply kN | apply kD | apply kA)); refine blk_put (cs := #[.bool t264, .int .u64 0, .int .u64 0, .int .i64 0]) ?_ 1 _ rfl; (with_reducible repeat (first | apply kN | apply kD | apply kA)); refine blk_put (cs := #[.bool false, .int .u64 0, .int .u64 0, .int .i64 0]) ?_ 0 _ rfl; (with_reducible repeat (first | apply kN | apply kD | apply kA)); exact BK269.out) hb); have n5_ := aM (below_step (by repeat (first | (with_reducible first | exact HB.out | apply bA | apply bN | apply bD | refine below_set ?_ (by apply Aside0.out; assumption)) | exact HB.out)) hb); clear BK245; clear BK251; clear BK257; clear BK263; clear BK269; clear HB; have BK245 := n0_; have BK251 := n1_; have BK257 := n2_; have BK263 := n3_; have BK269 := n4_; have HB := n5_; clear n0_ n1_ n2_ n3_ n4_ n5_; (try clear hb); (try clear hb2); (try clear hk); (try clear hi)) | ((with_reducible refine gate_callee (f := 22) rfl ?_); refine goesL_ (some 55) rfl rfl Tryz.func22 (by kernel_rfl) rfl #[.string (⟨#[102, 100, 48, 48, 58, 58, 47, 54, 52]⟩ : ByteArray)] rfl (by (try simp only [List.map_toArray, List.map_cons, List.map_nil]); first | done | rfl | (simp only [List.length_drop, List.length_take]; rfl)) ?_; (with_reducible refine (ranges_Read.calls k (⟨#[102, 100, 48, 48, 58, 58, 47, 54, 52]⟩ : ByteArray) t272 t273 t274 t275 t276 _ ⟨hG_.out.below (by repeat (first | (with_reducible first | exact HB.out | apply bA | apply bN | apply bD | refine below_set ?_ (by apply Aside0.out; assumption)) | exact HB.out | exact Below.refl _ _))⟩ A9.out).mono ?_); rintro e w75 ⟨rfl, hb⟩; refine ⟨_, rfl, ?_⟩; have n0_ := aM (blk_below (o := .cells #[.bool t240, .int .u64 t241, .int .u64 t242, .int .i64 t243] 26 (0, 0)) (by (with_reducible repeat (first | apply kN | apply kD | apply kA)); exact BK245.out) hb); have n1_ := aM (blk_below (o := .cells #[.bool t246, .int .u64 t247, .int .u64 t248, .int .i64 t249] 26 (0, 0)) (by (with_reducible repeat (first | apply kN | apply kD | apply kA)); exact BK251.out) hb); have n2_ := aM (blk_below (o := .cells #[.bool t252, .int .u64 t253, .int .u64 t254, .int .i64 t255] 26 (0, 0)) (by (with_reducible repeat (first | apply kN | apply kD | apply kA)); exact BK257.out) hb); have n3_ := aM (blk_below (o := .cells #[.bool t258, .int .u64 t259, .int .u64 t260, .int .i64 t261] 26 (0, 0)) (by (with_reducible repeat (first | apply kN | apply kD | apply kA)); exact BK263.out) hb); have n4_ := aM (blk_below (o := .cells #[.bool t264, .int .u64 t265, .int .u64 t266, .int .i64 t267] 26 (0, 0)) (by (with_reducible repeat (first | apply kN | apply kD | apply kA)); exact BK269.out) hb); have n5_ := aM (below_step (by repeat (first | (with_reducible first | exact HB.out | apply bA | apply bN | apply bD | refine below_set ?_ (by apply Aside0.out; assumption)) | exact HB.out)) hb); clear BK245; clear BK251; clear BK257; clear BK263; clear BK269; clear HB; have BK245 := n0_; have BK251 := n1_; have BK257 := n2_; have BK263 := n3_; have BK269 := n4_; have HB := n5_; clear n0_ n1_ n2_ n3_ n4_ n5_; (try clear hb); (try clear hb2); (try clear hk); (try clear hi)) | ((with_reducible refine gate_dst (N := 13) rfl ?_); (try (refine gate_guard (by rfl) ?_; dsimp only)); refine box_event ?hg (N := 13) ?hd (cs := #[.bool false, .int .u64 0, .int .u64 0, .int .i64 0]) (t := 26) ?hr ?_; (case hd => rfl); (case hg => rfl); (case hr => first | (go_simp; done) | (go_simp; rfl)); intro gb277 hg w76 hbox hb; have n0_ := aM (blk_below (o := .cells #[.bool t240, .int .u64 t241, .int .u64 t242, .int .i64 t243] 26 (0, 0)) (by (with_reducible repeat (first | apply kN | apply kD | apply kA)); exact BK245.out) hb); have n1_ := aM (blk_below (o := .cells #[.bool t246, .int .u64 t247, .int .u64 t248, .int .i64 t249] 26 (0, 0)) (by (with_reducible repeat (first | apply kN | apply kD | apply kA)); exact BK251.out) hb); have n2_ := aM (blk_below (o := .cells #[.bool t252, .int .u64 t253, .int .u64 t254, .int .i64 t255] 26 (0, 0)) (by (with_reducible repeat (first | apply kN | apply kD | apply kA)); exact BK257.out) hb); have n3_ := aM (blk_below (o := .cells #[.bool t258, .int .u64 t259, .int .u64 t260, .int .i64 t261] 26 (0, 0)) (by (with_reducible repeat (first | apply kN | apply kD | apply kA)); exact BK263.out) hb); have n4_ := aM (blk_below (o := .cells #[.bool t264, .int .u64 t265, .int .u64 t266, .int .i64 t267] 26 (0, 0)) (by (with_reducible repeat (first | apply kN | apply kD | apply kA)); exact BK269.out) hb); have n5_ := aM (below_step (by repeat (first | (with_reducible first | exact HB.out | apply bA | apply bN | apply bD | refine below_set ?_ (by apply Aside0.out; assumption)) | exact HB.out)) hb); have n6_ := aM (hbox); have n7_ := aM ((by rw [hg]; exact (below_size (by repeat (first | (with_reducible first | exact HB.out | apply bA | apply bN | apply bD | refine below_set ?_ (by apply Aside0.out; assumption)) | exact HB.out))) : w.heap.size ≤ gb277)); have n8_ := aM ((by rw [hg]; exact (below_size (by repeat (first | (with_reducible first | exact HB.out | apply bA | apply bN | apply bD | refine below_set ?_ (by apply Aside0.out; assumption)) | exact HB.out))) : w.heap.size ≤ gb277)); have n9_ := aM ((by rw [hg]; exact Nat.ne_of_lt (blk_lt (g := gb245) (o := .cells #[.bool t240, .int .u64 t241, .int .u64 t242, .int .i64 t243] 26 (0, 0)) (by (with_reducible repeat (first | apply kN | apply kD | apply kA)); exact BK245.out)) : gb245 ≠ gb277)); have n10_ := aM ((by rw [hg]; exact Nat.ne_of_gt (blk_lt (g := gb245) (o := .cells #[.bool t240, .int .u64 t241, .int .u64 t242, .int .i64 t243] 26 (0, 0)) (by (with_reducible repeat (first | apply kN | apply kD | apply kA)); exact BK245.out)) : gb277 ≠ gb245)); have n11_ := aM ((by rw [hg]; exact Nat.ne_of_lt (blk_lt (g := gb251) (o := .cells #[.bool t246, .int .u64 t247, .int .u64 t248, .int .i64 t249] 26 (0, 0)) (by (with_reducible repeat (first | apply kN | apply kD | apply kA)); exact BK251.out)) : gb251 ≠ gb277)); have n12_ := aM ((by rw [hg]; exact Nat.ne_of_gt (blk_lt (g := gb251) (o := .cells #[.bool t246, .int .u64 t247, .int .u64 t248, .int .i64 t249] 26 (0, 0)) (by (with_reducible repeat (first | apply kN | apply kD | apply kA)); exact BK251.out)) : gb277 ≠ gb251)); have n13_ := aM ((by rw [hg]; exact Nat.ne_of_lt (blk_lt (g := gb257) (o := .cells #[.bool t252, .int .u64 t253, .int .u64 t254, .int .i64 t255] 26 (0, 0)) (by (with_reducible repeat (first | apply kN | apply kD | apply kA)); exact BK257.out)) : gb257 ≠ gb277)); have n14_ := aM ((by rw [hg]; exact Nat.ne_of_gt (blk_lt (g := gb257) (o := .cells #[.bool t252, .int .u64 t253, .int .u64 t254, .int .i64 t255] 26 (0, 0)) (by (with_reducible repeat (first | apply kN | apply kD | apply kA)); exact BK257.out)) : gb277 ≠ gb257)); have n15_ := aM ((by rw [hg]; exact Nat.ne_of_lt (blk_lt (g := gb263) (o := .cells #[.bool t258, .int .u64 t259, .int .u64 t260, .int .i64 t261] 26 (0, 0)) (by (with_reducible repeat (first | apply kN | apply kD | apply kA)); exact BK263.out)) : gb263 ≠ gb277)); have n16_ := aM ((by rw [hg]; exact Nat.ne_of_gt (blk_lt (g := gb263) (o := .cells #[.bool t258, .int .u64 t259, .int .u64 t260, .int .i64 t261] 26 (0, 0)) (by (with_reducible repeat (first | apply kN | apply kD | apply kA)); exact BK263.out)) : gb277 ≠ gb263)); have n17_ := aM ((by rw [hg]; exact Nat.ne_of_lt (blk_lt (g := gb269) (o := .cells #[.bool t264, .int .u64 t265, .int .u64 t266, .int .i64 t267] 26 (0, 0)) (by (with_reducible repeat (first | apply kN | apply kD | apply kA)); exact BK269.out)) : gb269 ≠ gb277)); have n18_ := aM ((by rw [hg]; exact Nat.ne_of_gt (blk_lt (g := gb269) (o := .cells #[.bool t264, .int .u64 t265, .int .u64 t266, .int .i64 t267] 26 (0, 0)) (by (with_reducible repeat (first | apply kN | apply kD | apply kA)); exact BK269.out)) : gb277 ≠ gb269)); clear BK245; clear BK251; clear BK257; clear BK263; clear BK269; clear HB; have BK245 := n0_; have BK251 := n1_; have BK257 := n2_; have BK263 := n3_; have BK269 := n4_; have HB := n5_; have BK277 := n6_; have GW277 := n7_; have GE277 := n8_; have NB245_277 := n9_; have NB277_245 := n10_; have NB251_277 := n11_; have NB277_251 := n12_; have NB257_277 := n13_; have NB277_257 := n14_; have NB263_277 := n15_; have NB277_263 := n16_; have NB269_277 := n17_; have NB277_269 := n18_; clear n0_ n1_ n2_ n3_ n4_ n5_ n6_ n7_ n8_ n9_ n10_ n11_ n12_ n13_ n14_ n15_ n16_ n17_ n18_; clear hb hbox hg; have hnb77 := NB277_245.out; have hnc77 := NB245_277.out; have hnb78 := NB277_251.out; have hnc78 := NB251_277.out; have hnb79 := NB277_257.out; have hnc79 := NB257_277.out; have hnb80 := NB277_263.out; have hnc80 := NB263_277.out; have hnb81 := NB277_269.out; have hnc81 := NB269_277.out; have hcz82_0 : w76.cell? ⟨gb277, 0, none⟩ = some (.bool false) := (kC BK277.out 0).trans rfl; have hcz82_1 : w76.cell? ⟨gb277, 1, none⟩ = some (.int .u64 0) := (kC BK277.out 1).trans rfl; have hcz82_2 : w76.cell? ⟨gb277, 2, none⟩ = some (.int .u64 0) := (kC BK277.out 2).trans rfl; have hcz82_3 : w76.cell? ⟨gb277, 3, none⟩ = some (.int .i64 0) := (kC BK277.out 3).trans rfl; have hfz82_0 := kF BK277.out 0; have hfz82_1 := kF BK277.out 1; have hfz82_2 := kF BK277.out 2; have hfz82_3 := kF BK277.out 3) | ((with_reducible refine gate_callee (f := 22) rfl ?_); refine goesL_ (some 59) rfl rfl Tryz.func22 (by kernel_rfl) rfl #[.string (⟨#[49, 48, 46, 50, 53, 53, 46, 48, 46, 48, 47, 49, 54]⟩ : ByteArray)] rfl (by (try simp only [List.map_toArray, List.map_cons, List.map_nil]); first | done | rfl | (simp only [List.length_drop, List.length_take]; rfl)) ?_; (with_reducible refine (ranges_Read.calls k (⟨#[49, 48, 46, 50, 53, 53, 46, 48, 46, 48, 47, 49, 54]⟩ : ByteArray) t278 t279 t280 t281 t282 _ ⟨hG_.out.below (by repeat (first | (with_reducible first | exact HB.out | apply bA | apply bN | apply bD | refine below_set ?_ (by apply Aside0.out; assumption)) | exact HB.out | exact Below.refl _ _))⟩ A10.out).mono ?_); rintro e w83 ⟨rfl, hb⟩; refine ⟨_, rfl, ?_⟩; have n0_ := aM (blk_below (o := .cells #[.bool t240, .int .u64 t241, .int .u64 t242, .int .i64 t243] 26 (0, 0)) (by (with_reducible repeat (first | apply kN | apply kD | apply kA)); refine blk_far ?_ NB245_277.out _; (with_reducible repeat (first | apply kN | apply kD | apply kA)); refine blk_far ?_ NB245_277.out _; (with_reducible repeat (first | apply kN | apply kD | apply kA)); refine blk_far ?_ NB245_277.out _; (with_reducible repeat (first | apply kN | apply kD | apply kA)); refine blk_far ?_ NB245_277.out _; (with_reducible repeat (first | apply kN | apply kD | apply kA)); exact BK245.out) hb); have n1_ := aM (blk_below (o := .cells #[.bool t246, .int .u64 t247, .int .u64 t248, .int .i64 t249] 26 (0, 0)) (by (with_reducible repeat (first | apply kN | apply kD | apply kA)); refine blk_far ?_ NB251_277.out _; (with_reducible repeat (first | apply kN | apply kD | apply kA)); refine blk_far ?_ NB251_277.out _; (with_reducible repeat (first | apply kN | apply kD | apply kA)); refine blk_far ?_ NB251_277.out _; (with_reducible repeat (first | apply kN | apply kD | apply kA)); refine blk_far ?_ NB251_277.out _; (with_reducible repeat (first | apply kN | apply kD | apply kA)); exact BK251.out) hb); have n2_ := aM (blk_below (o := .cells #[.bool t252, .int .u64 t253, .int .u64 t254, .int .i64 t255] 26 (0, 0)) (by (with_reducible repeat (first | apply kN | apply kD | apply kA)); refine blk_far ?_ NB257_277.out _; (with_reducible repeat (first | apply kN | apply kD | apply kA)); refine blk_far ?_ NB257_277.out _; (with_reducible repeat (first | apply kN | apply kD | apply kA)); refine blk_far ?_ NB257_277.out _; (with_reducible repeat (first | apply kN | apply kD | apply kA)); refine blk_far ?_ NB257_277.out _; (with_reducible repeat (first | apply kN | apply kD | apply kA)); exact BK257.out) hb); have n3_ := aM (blk_below (o := .cells #[.bool t258, .int .u64 t259, .int .u64 t260, .int .i64 t261] 26 (0, 0)) (by (with_reducible repeat (first | apply kN | apply kD | apply kA)); refine blk_far ?_ NB263_277.out _; (with_reducible repeat (first | apply kN | apply kD | apply kA)); refine blk_far ?_ NB263_277.out _; (with_reducible repeat (first | apply kN | apply kD | apply kA)); refine blk_far ?_ NB263_277.out _; (with_reducible repeat (first | apply kN | apply kD | apply kA)); refine blk_far ?_ NB263_277.out _; (with_reducible repeat (first | apply kN | apply kD | apply kA)); exact BK263.out) hb); have n4_ := aM (blk_below (o := .cells #[.bool t264, .int .u64 t265, .int .u64 t266, .int .i64 t267] 26 (0, 0)) (by (with_reducible repeat (first | apply kN | apply kD | apply kA)); refine blk_far ?_ NB269_277.out _; (with_reducible repeat (first | apply kN | apply kD | apply kA)); refine blk_far ?_ NB269_277.out _; (with_reducible repeat (first | apply kN | apply kD | apply kA)); refine blk_far ?_ NB269_277.out _; (with_reducible repeat (first | apply kN | apply kD | apply kA)); refine blk_far ?_ NB269_277.out _; (with_reducible repeat (first | apply kN | apply kD | apply kA)); exact BK269.out) hb); have n5_ := aM (blk_below (o := .cells #[.bool t272, .int .u64 t273, .int .u64 t274, .int .i64 t275] 26 (0, 0)) (by (with_reducible repeat (first | apply kN | apply kD | apply kA)); refine blk_put (cs := #[.bool t272, .int .u64 t273, .int .u64 t274, .int .i64 0]) ?_ 3 _ rfl; (with_reducible repeat (first | apply kN | apply kD | apply kA)); refine blk_put (cs := #[.bool t272, .int .u64 t273, .int .u64 0, .int .i64 0]) ?_ 2 _ rfl; (with_reducible repeat (first | apply kN | apply kD | apply kA)); refine blk_put (cs := #[.bool t272, .int .u64 0, .int .u64 0, .int .i64 0]) ?_ 1 _ rfl; (with_reducible repeat (first | apply kN | apply kD | apply kA)); refine blk_put (cs := #[.bool false, .int .u64 0, .int .u64 0, .int .i64 0]) ?_ 0 _ rfl; (with_reducible repeat (first | apply kN | apply kD | apply kA)); exact BK277.out) hb); have n6_ := aM (below_step (by repeat (first | (with_reducible first | exact HB.out | apply bA | apply bN | apply bD | refine below_set ?_ (by apply Aside0.out; assumption)) | exact HB.out)) hb); clear BK245; clear BK251; clear BK257; clear BK263; clear BK269; clear BK277; clear HB; have BK245 := n0_; have BK251 := n1_; have BK257 := n2_; have BK263 := n3_; have BK269 := n4_; have BK277 := n5_; have HB := n6_; clear n0_ n1_ n2_ n3_ n4_ n5_ n6_; (try clear hb); (try clear hb2); (try clear hk); (try clear hi)) | ((with_reducible refine gate_dst (N := 15) rfl ?_); (try (refine gate_guard (by rfl) ?_; dsimp only)); refine box_event ?hg (N := 15) ?hd (cs := #[.bool false, .int .u64 0, .int .u64 0, .int .i64 0]) (t := 26) ?hr ?_; (case hd => rfl); (case hg => rfl); (case hr => first | (go_simp; done) | (go_simp; rfl)); intro gb283 hg w84 hbox hb; have n0_ := aM (blk_below (o := .cells #[.bool t240, .int .u64 t241, .int .u64 t242, .int .i64 t243] 26 (0, 0)) (by (with_reducible repeat (first | apply kN | apply kD | apply kA)); exact BK245.out) hb); have n1_ := aM (blk_below (o := .cells #[.bool t246, .int .u64 t247, .int .u64 t248, .int .i64 t249] 26 (0, 0)) (by (with_reducible repeat (first | apply kN | apply kD | apply kA)); exact BK251.out) hb); have n2_ := aM (blk_below (o := .cells #[.bool t252, .int .u64 t253, .int .u64 t254, .int .i64 t255] 26 (0, 0)) (by (with_reducible repeat (first | apply kN | apply kD | apply kA)); exact BK257.out) hb); have n3_ := aM (blk_below (o := .cells #[.bool t258, .int .u64 t259, .int .u64 t260, .int .i64 t261] 26 (0, 0)) (by (with_reducible repeat (first | apply kN | apply kD | apply kA)); exact BK263.out) hb); have n4_ := aM (blk_below (o := .cells #[.bool t264, .int .u64 t265, .int .u64 t266, .int .i64 t267] 26 (0, 0)) (by (with_reducible repeat (first | apply kN | apply kD | apply kA)); exact BK269.out) hb); have n5_ := aM (blk_below (o := .cells #[.bool t272, .int .u64 t273, .int .u64 t274, .int .i64 t275] 26 (0, 0)) (by (with_reducible repeat (first | apply kN | apply kD | apply kA)); exact BK277.out) hb); have n6_ := aM (below_step (by repeat (first | (with_reducible first | exact HB.out | apply bA | apply bN | apply bD | refine below_set ?_ (by apply Aside0.out; assumption)) | exact HB.out)) hb); have n7_ := aM (hbox); have n8_ := aM ((by rw [hg]; exact (below_size (by repeat (first | (with_reducible first | exact HB.out | apply bA | apply bN | apply bD | refine below_set ?_ (by apply Aside0.out; assumption)) | exact HB.out))) : w.heap.size ≤ gb283)); have n9_ := aM ((by rw [hg]; exact (below_size (by repeat (first | (with_reducible first | exact HB.out | apply bA | apply bN | apply bD | refine below_set ?_ (by apply Aside0.out; assumption)) | exact HB.out))) : w.heap.size ≤ gb283)); have n10_ := aM ((by rw [hg]; exact Nat.ne_of_lt (blk_lt (g := gb245) (o := .cells #[.bool t240, .int .u64 t241, .int .u64 t242, .int .i64 t243] 26 (0, 0)) (by (with_reducible repeat (first | apply kN | apply kD | apply kA)); exact BK245.out)) : gb245 ≠ gb283)); have n11_ := aM ((by rw [hg]; exact Nat.ne_of_gt (blk_lt (g := gb245) (o := .cells #[.bool t240, .int .u64 t241, .int .u64 t242, .int .i64 t243] 26 (0, 0)) (by (with_reducible repeat (first | apply kN | apply kD | apply kA)); exact BK245.out)) : gb283 ≠ gb245)); have n12_ := aM ((by rw [hg]; exact Nat.ne_of_lt (blk_lt (g := gb251) (o := .cells #[.bool t246, .int .u64 t247, .int .u64 t248, .int .i64 t249] 26 (0, 0)) (by (with_reducible repeat (first | apply kN | apply kD | apply kA)); exact BK251.out)) : gb251 ≠ gb283)); have n13_ := aM ((by rw [hg]; exact Nat.ne_of_gt (blk_lt (g := gb251) (o := .cells #[.bool t246, .int .u64 t247, .int .u64 t248, .int .i64 t249] 26 (0, 0)) (by (with_reducible repeat (first | apply kN | apply kD | apply kA)); exact BK251.out)) : gb283 ≠ gb251)); have n14_ := aM ((by rw [hg]; exact Nat.ne_of_lt (blk_lt (g := gb257) (o := .cells #[.bool t252, .int .u64 t253, .int .u64 t254, .int .i64 t255] 26 (0, 0)) (by (with_reducible repeat (first | apply kN | apply kD | apply kA)); exact BK257.out)) : gb257 ≠ gb283)); have n15_ := aM ((by rw [hg]; exact Nat.ne_of_gt (blk_lt (g := gb257) (o := .cells #[.bool t252, .int .u64 t253, .int .u64 t254, .int .i64 t255] 26 (0, 0)) (by (with_reducible repeat (first | apply kN | apply kD | apply kA)); exact BK257.out)) : gb283 ≠ gb257)); have n16_ := aM ((by rw [hg]; exact Nat.ne_of_lt (blk_lt (g := gb263) (o := .cells #[.bool t258, .int .u64 t259, .int .u64 t260, .int .i64 t261] 26 (0, 0)) (by (with_reducible repeat (first | apply kN | apply kD | apply kA)); exact BK263.out)) : gb263 ≠ gb283)); have n17_ := aM ((by rw [hg]; exact Nat.ne_of_gt (blk_lt (g := gb263) (o := .cells #[.bool t258, .int .u64 t259, .int .u64 t260, .int .i64 t261] 26 (0, 0)) (by (with_reducible repeat (first | apply kN | apply kD | apply kA)); exact BK263.out)) : gb283 ≠ gb263)); have n18_ := aM ((by rw [hg]; exact Nat.ne_of_lt (blk_lt (g := gb269) (o := .cells #[.bool t264, .int .u64 t265, .int .u64 t266, .int .i64 t267] 26 (0, 0)) (by (with_reducible repeat (first | apply kN | apply kD | apply kA)); exact BK269.out)) : gb269 ≠ gb283)); have n19_ := aM ((by rw [hg]; exact Nat.ne_of_gt (blk_lt (g := gb269) (o := .cells #[.bool t264, .int .u64 t265, .int .u64 t266, .int .i64 t267] 26 (0, 0)) (by (with_reducible repeat (first | apply kN | apply kD | apply kA)); exact BK269.out)) : gb283 ≠ gb269)); have n20_ := aM ((by rw [hg]; exact Nat.ne_of_lt (blk_lt (g := gb277) (o := .cells #[.bool t272, .int .u64 t273, .int .u64 t274, .int .i64 t275] 26 (0, 0)) (by (with_reducible repeat (first | apply kN | apply kD | apply kA)); exact BK277.out)) : gb277 ≠ gb283)); have n21_ := aM ((by rw [hg]; exact Nat.ne_of_gt (blk_lt (g := gb277) (o := .cells #[.bool t272, .int .u64 t273, .int .u64 t274, .int .i64 t275] 26 (0, 0)) (by (with_reducible repeat (first | apply kN | apply kD | apply kA)); exact BK277.out)) : gb283 ≠ gb277)); clear BK245; clear BK251; clear BK257; clear BK263; clear BK269; clear BK277; clear HB; have BK245 := n0_; have BK251 := n1_; have BK257 := n2_; have BK263 := n3_; have BK269 := n4_; have BK277 := n5_; have HB := n6_; have BK283 := n7_; have GW283 := n8_; have GE283 := n9_; have NB245_283 := n10_; have NB283_245 := n11_; have NB251_283 := n12_; have NB283_251 := n13_; have NB257_283 := n14_; have NB283_257 := n15_; have NB263_283 := n16_; have NB283_263 := n17_; have NB269_283 := n18_; have NB283_269 := n19_; have NB277_283 := n20_; have NB283_277 := n21_; clear n0_ n1_ n2_ n3_ n4_ n5_ n6_ n7_ n8_ n9_ n10_ n11_ n12_ n13_ n14_ n15_ n16_ n17_ n18_ n19_ n20_ n21_; clear hb hbox hg; have hnb85 := NB283_245.out; have hnc85 := NB245_283.out; have hnb86 := NB283_251.out; have hnc86 := NB251_283.out; have hnb87 := NB283_257.out; have hnc87 := NB257_283.out; have hnb88 := NB283_263.out; have hnc88 := NB263_283.out; have hnb89 := NB283_269.out; have hnc89 := NB269_283.out; have hnb90 := NB283_277.out; have hnc90 := NB277_283.out; have hcz91_0 : w84.cell? ⟨gb283, 0, none⟩ = some (.bool false) := (kC BK283.out 0).trans rfl; have hcz91_1 : w84.cell? ⟨gb283, 1, none⟩ = some (.int .u64 0) := (kC BK283.out 1).trans rfl; have hcz91_2 : w84.cell? ⟨gb283, 2, none⟩ = some (.int .u64 0) := (kC BK283.out 2).trans rfl; have hcz91_3 : w84.cell? ⟨gb283, 3, none⟩ = some (.int .i64 0) := (kC BK283.out 3).trans rfl; have hfz91_0 := kF BK283.out 0; have hfz91_1 := kF BK283.out 1; have hfz91_2 := kF BK283.out 2; have hfz91_3 := kF BK283.out 3))
     have n0_ : Aside0 (((((w84.setCell ⟨gb283, 0, none⟩ (.bool t278)).setCell ⟨gb283, 1, none⟩ (.int .u64 t279)).setCell ⟨gb283, 2, none⟩ (.int .u64 t280)).setCell ⟨gb283, 3, none⟩ (.int .i64 t281)).heap[gb245]? = some (.cells #[.bool t240, .int .u64 t241, .int .u64 t242, .int .i64 t243] 26 (0, 0))) := ⟨by (with_reducible repeat (first | apply kN | apply kD | apply kA)); refine blk_far ?_ NB245_283.out _; (with_reducible repeat (first | apply kN | apply kD | apply kA)); refine blk_far ?_ NB245_283.out _; (with_reducible repeat (first | apply kN | apply kD | apply kA)); refine blk_far ?_ NB245_283.out _; (with_reducible repeat (first | apply kN | apply kD | apply kA)); refine blk_far ?_ NB245_283.out _; (with_reducible repeat (first | apply kN | apply kD | apply kA)); exact BK245.out⟩
     have n1_ : Aside0 (((((w84.setCell ⟨gb283, 0, none⟩ (.bool t278)).setCell ⟨gb283, 1, none⟩ (.int .u64 t279)).setCell ⟨gb283, 2, none⟩ (.int .u64 t280)).setCell ⟨gb283, 3, none⟩ (.int .i64 t281)).heap[gb251]? = some (.cells #[.bool t246, .int .u64 t247, .int .u64 t248, .int .i64 t249] 26 (0, 0))) := ⟨by (with_reducible repeat (first | apply kN | apply kD | apply kA)); refine blk_far ?_ NB251_283.out _; (with_reducible repeat (first | apply kN | apply kD | apply kA)); refine blk_far ?_ NB251_283.out _; (with_reducible repeat (first | apply kN | apply kD | apply kA)); refine blk_far ?_ NB251_283.out _; (with_reducible repeat (first | apply kN | apply kD | apply kA)); refine blk_far ?_ NB251_283.out _; (with_reducible repeat (first | apply kN | apply kD | apply kA)); exact BK251.out⟩
     have n2_ : Aside0 (((((w84.setCell ⟨gb283, 0, none⟩ (.bool t278)).setCell ⟨gb283, 1, none⟩ (.int .u64 t279)).setCell ⟨gb283, 2, none⟩ (.int .u64 t280)).setCell ⟨gb283, 3, none⟩ (.int .i64 t281)).heap[gb257]? = some (.cells #[.bool t252, .int .u64 t253, .int .u64 t254, .int .i64 t255] 26 (0, 0))) := ⟨by (with_reducible repeat (first | apply kN | apply kD | apply kA)); refine blk_far ?_ NB257_283.out _; (with_reducible repeat (first | apply kN | apply kD | apply kA)); refine blk_far ?_ NB257_283.out _; (with_reducible repeat (first | apply kN | apply kD | apply kA)); refine blk_far ?_ NB257_283.out _; (with_reducible repeat (first | apply kN | apply kD | apply kA)); refine blk_far ?_ NB257_283.out _; (with_reducible repeat (first | apply kN | apply kD | apply kA)); exact BK257.out⟩
     have n3_ : Aside0 (((((w84.setCell ⟨gb283, 0, none⟩ (.bool t278)).setCell ⟨gb283, 1, none⟩ (.int .u64 t279)).setCell ⟨gb283, 2, none⟩ (.int .u64 t280)).setCell ⟨gb283, 3, none⟩ (.int .i64 t281)).heap[gb263]? = some (.cells #[.bool t258, .int .u64 t259, .int .u64 t260, .int .i64 t261] 26 (0, 0))) := ⟨by (with_reducible repeat (first | apply kN | apply kD | apply kA)); refine blk_far ?_ NB263_283.out _; (with_reducible repeat (first | apply kN | apply kD | apply kA)); refine blk_far ?_ NB263_283.out _; (with_reducible repeat (first | apply kN | apply kD | apply kA)); refine blk_far ?_ NB263_283.out _; (with_reducible repeat (first | apply kN | apply kD | apply kA)); refine blk_far ?_ NB263_283.out _; (with_reducible repeat (first | apply kN | apply kD | apply kA)); exact BK263.out⟩
     have n4_ : Aside0 (((((w84.setCell ⟨gb283, 0, none⟩ (.bool t278)).setCell ⟨gb283, 1, none⟩ (.int .u64 t279)).setCell ⟨gb283, 2, none⟩ (.int .u64 t280)).setCell ⟨gb283, 3, none⟩ (.int .i64 t281)).heap[gb269]? = some (.cells #[.bool t264, .int .u64 t265, .int .u64 t266, .int .i64 t267] 26 (0, 0))) := ⟨by (with_reducible repeat (first | apply kN | apply kD | apply kA)); refine blk_far ?_ NB269_283.out _; (with_reducible repeat (first | apply kN | apply kD | apply kA)); refine blk_far ?_ NB269_283.out _; (with_reducible repeat (first | apply kN | apply kD | apply kA)); refine blk_far ?_ NB269_283.out _; (with_reducible repeat (first | apply kN | apply kD | apply kA)); refine blk_far ?_ NB269_283.out _; (with_reducible repeat (first | apply kN | apply kD | apply kA)); exact BK269.out⟩
     have n5_ : Aside0 (((((w84.setCell ⟨gb283, 0, none⟩ (.bool t278)).setCell ⟨gb283, 1, none⟩ (.int .u64 t279)).setCell ⟨gb283, 2, none⟩ (.int .u64 t280)).setCell ⟨gb283, 3, none⟩ (.int .i64 t281)).heap[gb277]? = some (.cells #[.bool t272, .int .u64 t273, .int .u64 t274, .int .i64 t275] 26 (0, 0))) := ⟨by (with_reducible repeat (first | apply kN | apply kD | apply kA)); refine blk_far ?_ NB277_283.out _; (with_reducible repeat (first | apply kN | apply kD | apply kA)); refine blk_far ?_ NB277_283.out _; (with_reducible repeat (first | apply kN | apply kD | apply kA)); refine blk_far ?_ NB277_283.out _; (with_reducible repeat (first | apply kN | apply kD | apply kA)); refine blk_far ?_ NB277_283.out _; (with_reducible repeat (first | apply kN | apply kD | apply kA)); exact BK277.out⟩
     have n6_ : Aside0 (((((w84.setCell ⟨gb283, 0, none⟩ (.bool t278)).setCell ⟨gb283, 1, none⟩ (.int .u64 t279)).setCell ⟨gb283, 2, none⟩ (.int .u64 t280)).setCell ⟨gb283, 3, none⟩ (.int .i64 t281)).heap[gb283]? = some (.cells #[.bool t278, .int .u64 t279, .int .u64 t280, .int .i64 t281] 26 (0, 0))) := ⟨by (with_reducible repeat (first | apply kN | apply kD | apply kA)); refine blk_put (cs := #[.bool t278, .int .u64 t279, .int .u64 t280, .int .i64 0]) ?_ 3 _ rfl; (with_reducible repeat (first | apply kN | apply kD | apply kA)); refine blk_put (cs := #[.bool t278, .int .u64 t279, .int .u64 0, .int .i64 0]) ?_ 2 _ rfl; (with_reducible repeat (first | apply kN | apply kD | apply kA)); refine blk_put (cs := #[.bool t278, .int .u64 0, .int .u64 0, .int .i64 0]) ?_ 1 _ rfl; (with_reducible repeat (first | apply kN | apply kD | apply kA)); refine blk_put (cs := #[.bool false, .int .u64 0, .int .u64 0, .int .i64 0]) ?_ 0 _ rfl; (with_reducible repeat (first | apply kN | apply kD | apply kA)); exact BK283.out⟩
     have n7_ : Aside0 (Below w.heap.size w ((((w84.setCell ⟨gb283, 0, none⟩ (.bool t278)).setCell ⟨gb283, 1, none⟩ (.int .u64 t279)).setCell ⟨gb283, 2, none⟩ (.int .u64 t280)).setCell ⟨gb283, 3, none⟩ (.int .i64 t281))) := ⟨by repeat (first | (with_reducible first | exact HB.out | apply bA | apply bN | apply bD | refine below_set ?_ (by apply Aside0.out; assumption)) | exact HB.out)⟩
     (try clear BK245)
     (try clear BK251)
     (try clear BK257)
     (try clear BK263)
     (try clear BK269)
     (try clear BK277)
     (try clear BK283)
     (try clear HB)
     (try (repeat rw [setCell_drewN_]))
     generalize ((((w84.setCell ⟨gb283, 0, none⟩ (.bool t278)).setCell ⟨gb283, 1, none⟩ (.int .u64 t279)).setCell ⟨gb283, 2, none⟩ (.int .u64 t280)).setCell ⟨gb283, 3, none⟩ (.int .i64 t281)) = w92 at n0_ n1_ n2_ n3_ n4_ n5_ n6_ n7_ ⊢
     have BK245 := n0_
     have BK251 := n1_
     have BK257 := n2_
     have BK263 := n3_
     have BK269 := n4_
     have BK277 := n5_
     have BK283 := n6_
     have HB := n7_
     clear n0_ n1_ n2_ n3_ n4_ n5_ n6_ n7_
     have n0_ := aM (kD BK245.out)
     have n1_ := aM (kD BK251.out)
     have n2_ := aM (kD BK257.out)
     have n3_ := aM (kD BK263.out)
     have n4_ := aM (kD BK269.out)
     have n5_ := aM (kD BK277.out)
     have n6_ := aM (kD BK283.out)
     have n7_ := aM (bD HB.out)
     clear BK245 BK251 BK257 BK263
     clear BK269 BK277 BK283 HB
     have BK245 := n0_
     have BK251 := n1_
     have BK257 := n2_
     have BK263 := n3_
     have BK269 := n4_
     have BK277 := n5_
     have BK283 := n6_
     have HB := n7_
     clear n0_ n1_ n2_ n3_ n4_ n5_ n6_ n7_
     refine start_ (n := 8) (S := fun w' => w'.cell? ⟨gb269, 0, none⟩ = some (.bool t264) ∧ w'.cell? ⟨gb269, 1, none⟩ = some (.int .u64 t265) ∧ w'.cell? ⟨gb269, 2, none⟩ = some (.int .u64 t266) ∧ w'.cell? ⟨gb269, 3, none⟩ = some (.int .i64 t267)) (ds := []) #[Nn,Nn,Nn,Nn,Nn,Nn,Nn,Nn] (by kernel_rfl) rfl rfl ⟨(kC BK269.out 0).trans rfl, (kC BK269.out 1).trans rfl, (kC BK269.out 2).trans rfl, (kC BK269.out 3).trans rfl⟩ (fun hHeld => ?_); refine with_tabW nameplatelaw05_RangesNames.tab11 nameplatelaw05_RangesNames.bits11 (fun HT_ HW_ => ?_)
     generalize w92.drew = w93 at BK245 BK251 BK257 BK263 BK269 BK277 BK283 HB hHeld ⊢
     refine take_ (i := 0) (N := some 63) (v := ?_) (a' := ?_) #[Yy,Nn,Nn,Nn,Nn,Nn,Nn,Nn] rfl rfl (take_ofW HT_.out HW_.out (by kernel_rfl)) (fun _ _ _ h => h) (Or.inl ⟨by rfl, ?_⟩) hHeld ?_ ?_
     rotate_left
     ·rintro w' ⟨s0, s1, s2, s3⟩
      go_simp
      with_reducible rfl
     rotate_left
     ·simp only [Act.put, List.setIfInBounds_toArray, List.set_cons_zero, List.set_cons_succ, i64_w, i32_w]
      rfl
     refine one_ (i := 1) (N := some 64) #[Yy,Yy,Nn,Nn,Nn,Nn,Nn,Nn] rfl rfl (one_of HT_.out (by kernel_rfl)) (by decide) (fun K hK => ?_)
     refine goes_ Tryz.func25 (by kernel_rfl) rfl #[.int .u8 10, .int .u8 0, .int .u8 1, .int .u8 0] (by rfl) rfl rfl (by (try simp only [List.map_toArray, List.map_cons, List.map_nil]); first | done | rfl | (simp only [List.length_drop, List.length_take]; rfl)) ?_
     with_reducible refine (addr_Four.calls k 10 0 1 0 t284 t285 t286 _ A11.out).mono ?_
     rintro e w94 ⟨rfl, hb⟩
     refine ⟨_, rfl, ?_⟩
     have n0_ := aM (blk_below (o := .cells #[.bool t240, .int .u64 t241, .int .u64 t242, .int .i64 t243] 26 (0, 0)) (by (with_reducible repeat (first | apply kN | apply kD | apply kA)); exact BK245.out) hb)
     have n1_ := aM (blk_below (o := .cells #[.bool t246, .int .u64 t247, .int .u64 t248, .int .i64 t249] 26 (0, 0)) (by (with_reducible repeat (first | apply kN | apply kD | apply kA)); exact BK251.out) hb)
     have n2_ := aM (blk_below (o := .cells #[.bool t252, .int .u64 t253, .int .u64 t254, .int .i64 t255] 26 (0, 0)) (by (with_reducible repeat (first | apply kN | apply kD | apply kA)); exact BK257.out) hb)
     have n3_ := aM (blk_below (o := .cells #[.bool t258, .int .u64 t259, .int .u64 t260, .int .i64 t261] 26 (0, 0)) (by (with_reducible repeat (first | apply kN | apply kD | apply kA)); exact BK263.out) hb)
     have n4_ := aM (blk_below (o := .cells #[.bool t264, .int .u64 t265, .int .u64 t266, .int .i64 t267] 26 (0, 0)) (by (with_reducible repeat (first | apply kN | apply kD | apply kA)); exact BK269.out) hb)
     have n5_ := aM (blk_below (o := .cells #[.bool t272, .int .u64 t273, .int .u64 t274, .int .i64 t275] 26 (0, 0)) (by (with_reducible repeat (first | apply kN | apply kD | apply kA)); exact BK277.out) hb)
     have n6_ := aM (blk_below (o := .cells #[.bool t278, .int .u64 t279, .int .u64 t280, .int .i64 t281] 26 (0, 0)) (by (with_reducible repeat (first | apply kN | apply kD | apply kA)); exact BK283.out) hb)
     have n7_ := aM (below_step (by repeat (first | (with_reducible first | exact HB.out | apply bA | apply bN | apply bD | refine below_set ?_ (by apply Aside0.out; assumption)) | exact HB.out)) hb)
     clear BK245 BK251 BK257 BK263
     clear BK269 BK277 BK283 HB
     have BK245 := n0_
     have BK251 := n1_
     have BK257 := n2_
     have BK263 := n3_
     have BK269 := n4_
     have BK277 := n5_
     have BK283 := n6_
     have HB := n7_
     clear n0_ n1_ n2_ n3_ n4_ n5_ n6_ n7_
     (try clear hb)
     (try clear hb2)
     (try clear hk)
     (try clear hi)
     refine hK.out _ _ ⟨(kC BK269.out 0).trans rfl, (kC BK269.out 1).trans rfl, (kC BK269.out 2).trans rfl, (kC BK269.out 3).trans rfl⟩ (fun hHeld => ?_)
     clear hK K
     refine norm_ (a' := ?_) ?_ ?_
     rotate_left
     ·show Act.put _ (some 64) _ = _
      simp only [Act.put, List.setIfInBounds_toArray, List.set_cons_zero, List.set_cons_succ, i64_w, i32_w]
      rfl
     refine one_ (i := 2) (N := some 65) #[Yy,Yy,Yy,Nn,Nn,Nn,Nn,Nn] rfl rfl (one_of HT_.out (by kernel_rfl)) (by decide) (fun K hK => ?_)
     refine goes_ Tryz.func23 (by kernel_rfl) rfl #[.agg #[.bool t264, .int .u64 t265, .int .u64 t266, .int .i64 t267], .agg #[.bool t284, .int .u64 t285, .int .u64 t286]] (by rfl) rfl rfl (by (try simp only [List.map_toArray, List.map_cons, List.map_nil]); first | done | rfl | (simp only [List.length_drop, List.length_take]; rfl)) ?_
     with_reducible refine (ranges_Index.calls t264 t265 t266 t267 t284 t285 t286 t287 true _ A12.out).mono ?_
     rintro e w95 ⟨rfl, hb⟩
     refine ⟨_, rfl, ?_⟩
     have n0_ := aM (blk_below (o := .cells #[.bool t240, .int .u64 t241, .int .u64 t242, .int .i64 t243] 26 (0, 0)) (by (with_reducible repeat (first | apply kN | apply kD | apply kA)); exact BK245.out) hb)
     have n1_ := aM (blk_below (o := .cells #[.bool t246, .int .u64 t247, .int .u64 t248, .int .i64 t249] 26 (0, 0)) (by (with_reducible repeat (first | apply kN | apply kD | apply kA)); exact BK251.out) hb)
     have n2_ := aM (blk_below (o := .cells #[.bool t252, .int .u64 t253, .int .u64 t254, .int .i64 t255] 26 (0, 0)) (by (with_reducible repeat (first | apply kN | apply kD | apply kA)); exact BK257.out) hb)
     have n3_ := aM (blk_below (o := .cells #[.bool t258, .int .u64 t259, .int .u64 t260, .int .i64 t261] 26 (0, 0)) (by (with_reducible repeat (first | apply kN | apply kD | apply kA)); exact BK263.out) hb)
     have n4_ := aM (blk_below (o := .cells #[.bool t264, .int .u64 t265, .int .u64 t266, .int .i64 t267] 26 (0, 0)) (by (with_reducible repeat (first | apply kN | apply kD | apply kA)); exact BK269.out) hb)
     have n5_ := aM (blk_below (o := .cells #[.bool t272, .int .u64 t273, .int .u64 t274, .int .i64 t275] 26 (0, 0)) (by (with_reducible repeat (first | apply kN | apply kD | apply kA)); exact BK277.out) hb)
     have n6_ := aM (blk_below (o := .cells #[.bool t278, .int .u64 t279, .int .u64 t280, .int .i64 t281] 26 (0, 0)) (by (with_reducible repeat (first | apply kN | apply kD | apply kA)); exact BK283.out) hb)
     have n7_ := aM (below_step (by repeat (first | (with_reducible first | exact HB.out | apply bA | apply bN | apply bD | refine below_set ?_ (by apply Aside0.out; assumption)) | exact HB.out)) hb)
     clear BK245 BK251 BK257 BK263
     clear BK269 BK277 BK283 HB
     have BK245 := n0_
     have BK251 := n1_
     have BK257 := n2_
     have BK263 := n3_
     have BK269 := n4_
     have BK277 := n5_
     have BK283 := n6_
     have HB := n7_
     clear n0_ n1_ n2_ n3_ n4_ n5_ n6_ n7_
     (try clear hb)
     (try clear hb2)
     (try clear hk)
     (try clear hi)
     refine hK.out _ _ ⟨(kC BK269.out 0).trans rfl, (kC BK269.out 1).trans rfl, (kC BK269.out 2).trans rfl, (kC BK269.out 3).trans rfl⟩ (fun hHeld => ?_)
     clear hK K
     refine norm_ (a' := ?_) ?_ ?_
     rotate_left
     ·show Act.put _ (some 65) _ = _
      simp only [Act.put, List.setIfInBounds_toArray, List.set_cons_zero, List.set_cons_succ, i64_w, i32_w]
      rfl
     refine pure_ (i := 3) (N := some 62) (v := ?_) (a' := ?_) #[Yy,Yy,Yy,Yy,Nn,Nn,Nn,Nn] rfl rfl (any_of HT_.out (by kernel_rfl)) (fun _ _ _ h => h) (Or.inl ⟨by rfl, ?_⟩) ?_ ?_
     rotate_left
     ·intro w'
      go_simp
      with_reducible rfl
     rotate_left
     ·simp only [Act.put, List.setIfInBounds_toArray, List.set_cons_zero, List.set_cons_succ, i64_w, i32_w]
      rfl
     refine pure_ (i := 4) (N := some 66) (v := ?_) (a' := ?_) #[Yy,Yy,Yy,Yy,Yy,Nn,Nn,Nn] rfl rfl (any_of HT_.out (by kernel_rfl)) (fun _ _ _ h => h) (Or.inl ⟨by rfl, ?_⟩) ?_ ?_
     rotate_left
     ·intro w'
      go_simp
      with_reducible rfl
     rotate_left
     ·simp only [Act.put, List.setIfInBounds_toArray, List.set_cons_zero, List.set_cons_succ, i64_w, i32_w]
      rfl
     refine pure_ (i := 5) (N := some 67) (v := ?_) (a' := ?_) #[Yy,Yy,Yy,Yy,Yy,Yy,Nn,Nn] rfl rfl (any_of HT_.out (by kernel_rfl)) (fun _ _ _ h => h) (Or.inl ⟨by rfl, ?_⟩) ?_ ?_
     rotate_left
     ·intro w'
      go_simp
      with_reducible rfl
     rotate_left
     ·simp only [Act.put, List.setIfInBounds_toArray, List.set_cons_zero, List.set_cons_succ, i64_w, i32_w]
      rfl
     refine pure_ (i := 6) (N := some 17) (v := ?_) (a' := ?_) #[Yy,Yy,Yy,Yy,Yy,Yy,Yy,Nn] rfl rfl (any_of HT_.out (by kernel_rfl)) (fun _ _ _ h => h) (Or.inl ⟨by rfl, ?_⟩) ?_ ?_
     rotate_left
     ·intro w'
      go_simp
      with_reducible rfl
     rotate_left
     ·simp only [Act.put, List.setIfInBounds_toArray, List.set_cons_zero, List.set_cons_succ, i64_w, i32_w]
      rfl
     refine pure_ (i := 7) (N := some 18) (v := ?_) (a' := ?_) #[Yy,Yy,Yy,Yy,Yy,Yy,Yy,Yy] rfl rfl (any_of HT_.out (by kernel_rfl)) (fun _ _ _ h => h) (Or.inl ⟨by rfl, ?_⟩) ?_ ?_
     rotate_left
     ·intro w'
      go_simp
      with_reducible rfl
     rotate_left
     ·simp only [Act.put, List.setIfInBounds_toArray, List.set_cons_zero, List.set_cons_succ, i64_w, i32_w]
      rfl
     refine done_ (done_of HT_.out (by kernel_rfl)) ?_
     try go_wp2
     have n0_ := aM (kD BK245.out)
     have n1_ := aM (kD BK251.out)
     have n2_ := aM (kD BK257.out)
     have n3_ := aM (kD BK263.out)
     have n4_ := aM (kD BK269.out)
     have n5_ := aM (kD BK277.out)
     have n6_ := aM (kD BK283.out)
     have n7_ := aM (bD HB.out)
     clear BK245 BK251 BK257 BK263
     clear BK269 BK277 BK283 HB
     have BK245 := n0_
     have BK251 := n1_
     have BK257 := n2_
     have BK263 := n3_
     have BK269 := n4_
     have BK277 := n5_
     have BK283 := n6_
     have HB := n7_
     clear n0_ n1_ n2_ n3_ n4_ n5_ n6_ n7_
     refine start_ (n := 8) (S := fun w' => w'.cell? ⟨gb269, 0, none⟩ = some (.bool t264) ∧ w'.cell? ⟨gb269, 1, none⟩ = some (.int .u64 t265) ∧ w'.cell? ⟨gb269, 2, none⟩ = some (.int .u64 t266) ∧ w'.cell? ⟨gb269, 3, none⟩ = some (.int .i64 t267)) (ds := []) #[Nn,Nn,Nn,Nn,Nn,Nn,Nn,Nn] (by kernel_rfl) rfl rfl ⟨(kC BK269.out 0).trans rfl, (kC BK269.out 1).trans rfl, (kC BK269.out 2).trans rfl, (kC BK269.out 3).trans rfl⟩ (fun hHeld => ?_); refine with_tabW nameplatelaw05_RangesNames.tab12 nameplatelaw05_RangesNames.bits12 (fun HT_ HW_ => ?_)
     generalize w95.drew = w96 at BK245 BK251 BK257 BK263 BK269 BK277 BK283 HB hHeld ⊢
     refine take_ (i := 0) (N := some 69) (v := ?_) (a' := ?_) #[Yy,Nn,Nn,Nn,Nn,Nn,Nn,Nn] rfl rfl (take_ofW HT_.out HW_.out (by kernel_rfl)) (fun _ _ _ h => h) (Or.inl ⟨by rfl, ?_⟩) hHeld ?_ ?_
     rotate_left
     ·rintro w' ⟨s0, s1, s2, s3⟩
      go_simp
      with_reducible rfl
     rotate_left
     ·simp only [Act.put, List.setIfInBounds_toArray, List.set_cons_zero, List.set_cons_succ, i64_w, i32_w]
      rfl
     refine one_ (i := 1) (N := some 70) #[Yy,Yy,Nn,Nn,Nn,Nn,Nn,Nn] rfl rfl (one_of HT_.out (by kernel_rfl)) (by decide) (fun K hK => ?_)
     refine goes_ Tryz.func25 (by kernel_rfl) rfl #[.int .u8 10, .int .u8 1, .int .u8 0, .int .u8 0] (by rfl) rfl rfl (by (try simp only [List.map_toArray, List.map_cons, List.map_nil]); first | done | rfl | (simp only [List.length_drop, List.length_take]; rfl)) ?_
     with_reducible refine (addr_Four.calls k 10 1 0 0 t289 t290 t291 _ A13.out).mono ?_
     rintro e w97 ⟨rfl, hb⟩
     refine ⟨_, rfl, ?_⟩
     have n0_ := aM (blk_below (o := .cells #[.bool t240, .int .u64 t241, .int .u64 t242, .int .i64 t243] 26 (0, 0)) (by (with_reducible repeat (first | apply kN | apply kD | apply kA)); exact BK245.out) hb)
     have n1_ := aM (blk_below (o := .cells #[.bool t246, .int .u64 t247, .int .u64 t248, .int .i64 t249] 26 (0, 0)) (by (with_reducible repeat (first | apply kN | apply kD | apply kA)); exact BK251.out) hb)
     have n2_ := aM (blk_below (o := .cells #[.bool t252, .int .u64 t253, .int .u64 t254, .int .i64 t255] 26 (0, 0)) (by (with_reducible repeat (first | apply kN | apply kD | apply kA)); exact BK257.out) hb)
     have n3_ := aM (blk_below (o := .cells #[.bool t258, .int .u64 t259, .int .u64 t260, .int .i64 t261] 26 (0, 0)) (by (with_reducible repeat (first | apply kN | apply kD | apply kA)); exact BK263.out) hb)
     have n4_ := aM (blk_below (o := .cells #[.bool t264, .int .u64 t265, .int .u64 t266, .int .i64 t267] 26 (0, 0)) (by (with_reducible repeat (first | apply kN | apply kD | apply kA)); exact BK269.out) hb)
     have n5_ := aM (blk_below (o := .cells #[.bool t272, .int .u64 t273, .int .u64 t274, .int .i64 t275] 26 (0, 0)) (by (with_reducible repeat (first | apply kN | apply kD | apply kA)); exact BK277.out) hb)
     have n6_ := aM (blk_below (o := .cells #[.bool t278, .int .u64 t279, .int .u64 t280, .int .i64 t281] 26 (0, 0)) (by (with_reducible repeat (first | apply kN | apply kD | apply kA)); exact BK283.out) hb)
     have n7_ := aM (below_step (by repeat (first | (with_reducible first | exact HB.out | apply bA | apply bN | apply bD | refine below_set ?_ (by apply Aside0.out; assumption)) | exact HB.out)) hb)
     clear BK245 BK251 BK257 BK263
     clear BK269 BK277 BK283 HB
     have BK245 := n0_
     have BK251 := n1_
     have BK257 := n2_
     have BK263 := n3_
     have BK269 := n4_
     have BK277 := n5_
     have BK283 := n6_
     have HB := n7_
     clear n0_ n1_ n2_ n3_ n4_ n5_ n6_ n7_
     (try clear hb)
     (try clear hb2)
     (try clear hk)
     (try clear hi)
     refine hK.out _ _ ⟨(kC BK269.out 0).trans rfl, (kC BK269.out 1).trans rfl, (kC BK269.out 2).trans rfl, (kC BK269.out 3).trans rfl⟩ (fun hHeld => ?_)
     clear hK K
     refine norm_ (a' := ?_) ?_ ?_
     rotate_left
     ·show Act.put _ (some 70) _ = _
      simp only [Act.put, List.setIfInBounds_toArray, List.set_cons_zero, List.set_cons_succ, i64_w, i32_w]
      rfl
     refine one_ (i := 2) (N := some 71) #[Yy,Yy,Yy,Nn,Nn,Nn,Nn,Nn] rfl rfl (one_of HT_.out (by kernel_rfl)) (by decide) (fun K hK => ?_)
     refine goes_ Tryz.func23 (by kernel_rfl) rfl #[.agg #[.bool t264, .int .u64 t265, .int .u64 t266, .int .i64 t267], .agg #[.bool t289, .int .u64 t290, .int .u64 t291]] (by rfl) rfl rfl (by (try simp only [List.map_toArray, List.map_cons, List.map_nil]); first | done | rfl | (simp only [List.length_drop, List.length_take]; rfl)) ?_
     with_reducible refine (ranges_Index.calls t264 t265 t266 t267 t289 t290 t291 t292 false _ A14.out).mono ?_
     rintro e w98 ⟨rfl, hb⟩
     refine ⟨_, rfl, ?_⟩
     have n0_ := aM (blk_below (o := .cells #[.bool t240, .int .u64 t241, .int .u64 t242, .int .i64 t243] 26 (0, 0)) (by (with_reducible repeat (first | apply kN | apply kD | apply kA)); exact BK245.out) hb)
     have n1_ := aM (blk_below (o := .cells #[.bool t246, .int .u64 t247, .int .u64 t248, .int .i64 t249] 26 (0, 0)) (by (with_reducible repeat (first | apply kN | apply kD | apply kA)); exact BK251.out) hb)
     have n2_ := aM (blk_below (o := .cells #[.bool t252, .int .u64 t253, .int .u64 t254, .int .i64 t255] 26 (0, 0)) (by (with_reducible repeat (first | apply kN | apply kD | apply kA)); exact BK257.out) hb)
     have n3_ := aM (blk_below (o := .cells #[.bool t258, .int .u64 t259, .int .u64 t260, .int .i64 t261] 26 (0, 0)) (by (with_reducible repeat (first | apply kN | apply kD | apply kA)); exact BK263.out) hb)
     have n4_ := aM (blk_below (o := .cells #[.bool t264, .int .u64 t265, .int .u64 t266, .int .i64 t267] 26 (0, 0)) (by (with_reducible repeat (first | apply kN | apply kD | apply kA)); exact BK269.out) hb)
     have n5_ := aM (blk_below (o := .cells #[.bool t272, .int .u64 t273, .int .u64 t274, .int .i64 t275] 26 (0, 0)) (by (with_reducible repeat (first | apply kN | apply kD | apply kA)); exact BK277.out) hb)
     have n6_ := aM (blk_below (o := .cells #[.bool t278, .int .u64 t279, .int .u64 t280, .int .i64 t281] 26 (0, 0)) (by (with_reducible repeat (first | apply kN | apply kD | apply kA)); exact BK283.out) hb)
     have n7_ := aM (below_step (by repeat (first | (with_reducible first | exact HB.out | apply bA | apply bN | apply bD | refine below_set ?_ (by apply Aside0.out; assumption)) | exact HB.out)) hb)
     clear BK245 BK251 BK257 BK263
     clear BK269 BK277 BK283 HB
     have BK245 := n0_
     have BK251 := n1_
     have BK257 := n2_
     have BK263 := n3_
     have BK269 := n4_
     have BK277 := n5_
     have BK283 := n6_
     have HB := n7_
     clear n0_ n1_ n2_ n3_ n4_ n5_ n6_ n7_
     (try clear hb)
     (try clear hb2)
     (try clear hk)
     (try clear hi)
     refine hK.out _ _ ⟨(kC BK269.out 0).trans rfl, (kC BK269.out 1).trans rfl, (kC BK269.out 2).trans rfl, (kC BK269.out 3).trans rfl⟩ (fun hHeld => ?_)
     clear hK K
     refine norm_ (a' := ?_) ?_ ?_
     rotate_left
     ·show Act.put _ (some 71) _ = _
      simp only [Act.put, List.setIfInBounds_toArray, List.set_cons_zero, List.set_cons_succ, i64_w, i32_w]
      rfl
     refine pure_ (i := 3) (N := some 68) (v := ?_) (a' := ?_) #[Yy,Yy,Yy,Yy,Nn,Nn,Nn,Nn] rfl rfl (any_of HT_.out (by kernel_rfl)) (fun _ _ _ h => h) (Or.inl ⟨by rfl, ?_⟩) ?_ ?_
     rotate_left
     ·intro w'
      go_simp
      with_reducible rfl
     rotate_left
     ·simp only [Act.put, List.setIfInBounds_toArray, List.set_cons_zero, List.set_cons_succ, i64_w, i32_w]
      rfl
     refine pure_ (i := 4) (N := some 72) (v := ?_) (a' := ?_) #[Yy,Yy,Yy,Yy,Yy,Nn,Nn,Nn] rfl rfl (any_of HT_.out (by kernel_rfl)) (fun _ _ _ h => h) (Or.inl ⟨by rfl, ?_⟩) ?_ ?_
     rotate_left
     ·intro w'
      go_simp
      with_reducible rfl
     rotate_left
     ·simp only [Act.put, List.setIfInBounds_toArray, List.set_cons_zero, List.set_cons_succ, i64_w, i32_w]
      rfl
     refine pure_ (i := 5) (N := some 73) (v := ?_) (a' := ?_) #[Yy,Yy,Yy,Yy,Yy,Yy,Nn,Nn] rfl rfl (any_of HT_.out (by kernel_rfl)) (fun _ _ _ h => h) (Or.inl ⟨by rfl, ?_⟩) ?_ ?_
     rotate_left
     ·intro w'
      go_simp
      with_reducible rfl
     rotate_left
     ·simp only [Act.put, List.setIfInBounds_toArray, List.set_cons_zero, List.set_cons_succ, i64_w, i32_w]
      rfl
     refine pure_ (i := 6) (N := some 19) (v := ?_) (a' := ?_) #[Yy,Yy,Yy,Yy,Yy,Yy,Yy,Nn] rfl rfl (any_of HT_.out (by kernel_rfl)) (fun _ _ _ h => h) (Or.inl ⟨by rfl, ?_⟩) ?_ ?_
     rotate_left
     ·intro w'
      go_simp
      with_reducible rfl
     rotate_left
     ·simp only [Act.put, List.setIfInBounds_toArray, List.set_cons_zero, List.set_cons_succ, i64_w, i32_w]
      rfl
     refine pure_ (i := 7) (N := some 20) (v := ?_) (a' := ?_) #[Yy,Yy,Yy,Yy,Yy,Yy,Yy,Yy] rfl rfl (any_of HT_.out (by kernel_rfl)) (fun _ _ _ h => h) (Or.inl ⟨by rfl, ?_⟩) ?_ ?_
     rotate_left
     ·intro w'
      go_simp
      with_reducible rfl
     rotate_left
     ·simp only [Act.put, List.setIfInBounds_toArray, List.set_cons_zero, List.set_cons_succ, i64_w, i32_w]
      rfl
     refine done_ (done_of HT_.out (by kernel_rfl)) ?_
     have hcz99_0 : w98.cell? ⟨gb269, 0, none⟩ = some (.bool t264) := (kC BK269.out 0).trans rfl
     have hcz99_1 : w98.cell? ⟨gb269, 1, none⟩ = some (.int .u64 t265) := (kC BK269.out 1).trans rfl
     have hcz99_2 : w98.cell? ⟨gb269, 2, none⟩ = some (.int .u64 t266) := (kC BK269.out 2).trans rfl
     have hcz99_3 : w98.cell? ⟨gb269, 3, none⟩ = some (.int .i64 t267) := (kC BK269.out 3).trans rfl
     have hfz99_0 := kF BK269.out 0
     have hfz99_1 := kF BK269.out 1
     have hfz99_2 := kF BK269.out 2
     have hfz99_3 := kF BK269.out 3
     try go_wp2_with (first | ((with_reducible refine gate_callee (f := 13) rfl ?_); refine goesL_ (some 76) rfl rfl Tryz.func13 (by kernel_rfl) rfl #[.agg #[.bool t264, .int .u64 t265, .int .u64 t266, .int .i64 t267], .int .i64 (-1)] rfl (by (try simp only [List.map_toArray, List.map_cons, List.map_nil]); first | done | rfl | (simp only [List.length_drop, List.length_take]; rfl)) ?_; (with_reducible refine (ranges_At.calls t264 t265 t266 t267 (-1) t294 t295 t296 false _ A15.out).mono ?_); rintro e w100 ⟨rfl, hb⟩; refine ⟨_, rfl, ?_⟩; have n0_ := aM (blk_below (o := .cells #[.bool t240, .int .u64 t241, .int .u64 t242, .int .i64 t243] 26 (0, 0)) (by (with_reducible repeat (first | apply kN | apply kD | apply kA)); exact BK245.out) hb); have n1_ := aM (blk_below (o := .cells #[.bool t246, .int .u64 t247, .int .u64 t248, .int .i64 t249] 26 (0, 0)) (by (with_reducible repeat (first | apply kN | apply kD | apply kA)); exact BK251.out) hb); have n2_ := aM (blk_below (o := .cells #[.bool t252, .int .u64 t253, .int .u64 t254, .int .i64 t255] 26 (0, 0)) (by (with_reducible repeat (first | apply kN | apply kD | apply kA)); exact BK257.out) hb); have n3_ := aM (blk_below (o := .cells #[.bool t258, .int .u64 t259, .int .u64 t260, .int .i64 t261] 26 (0, 0)) (by (with_reducible repeat (first | apply kN | apply kD | apply kA)); exact BK263.out) hb); have n4_ := aM (blk_below (o := .cells #[.bool t264, .int .u64 t265, .int .u64 t266, .int .i64 t267] 26 (0, 0)) (by (with_reducible repeat (first | apply kN | apply kD | apply kA)); exact BK269.out) hb); have n5_ := aM (blk_below (o := .cells #[.bool t272, .int .u64 t273, .int .u64 t274, .int .i64 t275] 26 (0, 0)) (by (with_reducible repeat (first | apply kN | apply kD | apply kA)); exact BK277.out) hb); have n6_ := aM (blk_below (o := .cells #[.bool t278, .int .u64 t279, .int .u64 t280, .int .i64 t281] 26 (0, 0)) (by (with_reducible repeat (first | apply kN | apply kD | apply kA)); exact BK283.out) hb); have n7_ := aM (below_step (by repeat (first | (with_reducible first | exact HB.out | apply bA | apply bN | apply bD | refine below_set ?_ (by apply Aside0.out; assumption)) | exact HB.out)) hb); clear BK245; clear BK251; clear BK257; clear BK263; clear BK269; clear BK277; clear BK283; clear HB; have BK245 := n0_; have BK251 := n1_; have BK257 := n2_; have BK263 := n3_; have BK269 := n4_; have BK277 := n5_; have BK283 := n6_; have HB := n7_; clear n0_ n1_ n2_ n3_ n4_ n5_ n6_ n7_; (try clear hb); (try clear hb2); (try clear hk); (try clear hi)) | ((with_reducible refine gate_dst (N := 21) rfl ?_); (try (refine gate_guard (by rfl) ?_; dsimp only)); refine box_event ?hg (N := 21) ?hd (cs := #[.bool false, .int .u64 0, .int .u64 0]) (t := 24) ?hr ?_; (case hd => rfl); (case hg => rfl); (case hr => first | (go_simp; done) | (go_simp; rfl)); intro gb298 hg w101 hbox hb; have n0_ := aM (blk_below (o := .cells #[.bool t240, .int .u64 t241, .int .u64 t242, .int .i64 t243] 26 (0, 0)) (by (with_reducible repeat (first | apply kN | apply kD | apply kA)); exact BK245.out) hb); have n1_ := aM (blk_below (o := .cells #[.bool t246, .int .u64 t247, .int .u64 t248, .int .i64 t249] 26 (0, 0)) (by (with_reducible repeat (first | apply kN | apply kD | apply kA)); exact BK251.out) hb); have n2_ := aM (blk_below (o := .cells #[.bool t252, .int .u64 t253, .int .u64 t254, .int .i64 t255] 26 (0, 0)) (by (with_reducible repeat (first | apply kN | apply kD | apply kA)); exact BK257.out) hb); have n3_ := aM (blk_below (o := .cells #[.bool t258, .int .u64 t259, .int .u64 t260, .int .i64 t261] 26 (0, 0)) (by (with_reducible repeat (first | apply kN | apply kD | apply kA)); exact BK263.out) hb); have n4_ := aM (blk_below (o := .cells #[.bool t264, .int .u64 t265, .int .u64 t266, .int .i64 t267] 26 (0, 0)) (by (with_reducible repeat (first | apply kN | apply kD | apply kA)); exact BK269.out) hb); have n5_ := aM (blk_below (o := .cells #[.bool t272, .int .u64 t273, .int .u64 t274, .int .i64 t275] 26 (0, 0)) (by (with_reducible repeat (first | apply kN | apply kD | apply kA)); exact BK277.out) hb); have n6_ := aM (blk_below (o := .cells #[.bool t278, .int .u64 t279, .int .u64 t280, .int .i64 t281] 26 (0, 0)) (by (with_reducible repeat (first | apply kN | apply kD | apply kA)); exact BK283.out) hb); have n7_ := aM (below_step (by repeat (first | (with_reducible first | exact HB.out | apply bA | apply bN | apply bD | refine below_set ?_ (by apply Aside0.out; assumption)) | exact HB.out)) hb); have n8_ := aM (hbox); have n9_ := aM ((by rw [hg]; exact (below_size (by repeat (first | (with_reducible first | exact HB.out | apply bA | apply bN | apply bD | refine below_set ?_ (by apply Aside0.out; assumption)) | exact HB.out))) : w.heap.size ≤ gb298)); have n10_ := aM ((by rw [hg]; exact (below_size (by repeat (first | (with_reducible first | exact HB.out | apply bA | apply bN | apply bD | refine below_set ?_ (by apply Aside0.out; assumption)) | exact HB.out))) : w.heap.size ≤ gb298)); have n11_ := aM ((by rw [hg]; exact Nat.ne_of_lt (blk_lt (g := gb245) (o := .cells #[.bool t240, .int .u64 t241, .int .u64 t242, .int .i64 t243] 26 (0, 0)) (by (with_reducible repeat (first | apply kN | apply kD | apply kA)); exact BK245.out)) : gb245 ≠ gb298)); have n12_ := aM ((by rw [hg]; exact Nat.ne_of_gt (blk_lt (g := gb245) (o := .cells #[.bool t240, .int .u64 t241, .int .u64 t242, .int .i64 t243] 26 (0, 0)) (by (with_reducible repeat (first | apply kN | apply kD | apply kA)); exact BK245.out)) : gb298 ≠ gb245)); have n13_ := aM ((by rw [hg]; exact Nat.ne_of_lt (blk_lt (g := gb251) (o := .cells #[.bool t246, .int .u64 t247, .int .u64 t248, .int .i64 t249] 26 (0, 0)) (by (with_reducible repeat (first | apply kN | apply kD | apply kA)); exact BK251.out)) : gb251 ≠ gb298)); have n14_ := aM ((by rw [hg]; exact Nat.ne_of_gt (blk_lt (g := gb251) (o := .cells #[.bool t246, .int .u64 t247, .int .u64 t248, .int .i64 t249] 26 (0, 0)) (by (with_reducible repeat (first | apply kN | apply kD | apply kA)); exact BK251.out)) : gb298 ≠ gb251)); have n15_ := aM ((by rw [hg]; exact Nat.ne_of_lt (blk_lt (g := gb257) (o := .cells #[.bool t252, .int .u64 t253, .int .u64 t254, .int .i64 t255] 26 (0, 0)) (by (with_reducible repeat (first | apply kN | apply kD | apply kA)); exact BK257.out)) : gb257 ≠ gb298)); have n16_ := aM ((by rw [hg]; exact Nat.ne_of_gt (blk_lt (g := gb257) (o := .cells #[.bool t252, .int .u64 t253, .int .u64 t254, .int .i64 t255] 26 (0, 0)) (by (with_reducible repeat (first | apply kN | apply kD | apply kA)); exact BK257.out)) : gb298 ≠ gb257)); have n17_ := aM ((by rw [hg]; exact Nat.ne_of_lt (blk_lt (g := gb263) (o := .cells #[.bool t258, .int .u64 t259, .int .u64 t260, .int .i64 t261] 26 (0, 0)) (by (with_reducible repeat (first | apply kN | apply kD | apply kA)); exact BK263.out)) : gb263 ≠ gb298)); have n18_ := aM ((by rw [hg]; exact Nat.ne_of_gt (blk_lt (g := gb263) (o := .cells #[.bool t258, .int .u64 t259, .int .u64 t260, .int .i64 t261] 26 (0, 0)) (by (with_reducible repeat (first | apply kN | apply kD | apply kA)); exact BK263.out)) : gb298 ≠ gb263)); have n19_ := aM ((by rw [hg]; exact Nat.ne_of_lt (blk_lt (g := gb269) (o := .cells #[.bool t264, .int .u64 t265, .int .u64 t266, .int .i64 t267] 26 (0, 0)) (by (with_reducible repeat (first | apply kN | apply kD | apply kA)); exact BK269.out)) : gb269 ≠ gb298)); have n20_ := aM ((by rw [hg]; exact Nat.ne_of_gt (blk_lt (g := gb269) (o := .cells #[.bool t264, .int .u64 t265, .int .u64 t266, .int .i64 t267] 26 (0, 0)) (by (with_reducible repeat (first | apply kN | apply kD | apply kA)); exact BK269.out)) : gb298 ≠ gb269)); have n21_ := aM ((by rw [hg]; exact Nat.ne_of_lt (blk_lt (g := gb277) (o := .cells #[.bool t272, .int .u64 t273, .int .u64 t274, .int .i64 t275] 26 (0, 0)) (by (with_reducible repeat (first | apply kN | apply kD | apply kA)); exact BK277.out)) : gb277 ≠ gb298)); have n22_ := aM ((by rw [hg]; exact Nat.ne_of_gt (blk_lt (g := gb277) (o := .cells #[.bool t272, .int .u64 t273, .int .u64 t274, .int .i64 t275] 26 (0, 0)) (by (with_reducible repeat (first | apply kN | apply kD | apply kA)); exact BK277.out)) : gb298 ≠ gb277)); have n23_ := aM ((by rw [hg]; exact Nat.ne_of_lt (blk_lt (g := gb283) (o := .cells #[.bool t278, .int .u64 t279, .int .u64 t280, .int .i64 t281] 26 (0, 0)) (by (with_reducible repeat (first | apply kN | apply kD | apply kA)); exact BK283.out)) : gb283 ≠ gb298)); have n24_ := aM ((by rw [hg]; exact Nat.ne_of_gt (blk_lt (g := gb283) (o := .cells #[.bool t278, .int .u64 t279, .int .u64 t280, .int .i64 t281] 26 (0, 0)) (by (with_reducible repeat (first | apply kN | apply kD | apply kA)); exact BK283.out)) : gb298 ≠ gb283)); clear BK245; clear BK251; clear BK257; clear BK263; clear BK269; clear BK277; clear BK283; clear HB; have BK245 := n0_; have BK251 := n1_; have BK257 := n2_; have BK263 := n3_; have BK269 := n4_; have BK277 := n5_; have BK283 := n6_; have HB := n7_; have BK298 := n8_; have GW298 := n9_; have GE298 := n10_; have NB245_298 := n11_; have NB298_245 := n12_; have NB251_298 := n13_; have NB298_251 := n14_; have NB257_298 := n15_; have NB298_257 := n16_; have NB263_298 := n17_; have NB298_263 := n18_; have NB269_298 := n19_; have NB298_269 := n20_; have NB277_298 := n21_; have NB298_277 := n22_; have NB283_298 := n23_; have NB298_283 := n24_; clear n0_ n1_ n2_ n3_ n4_ n5_ n6_ n7_ n8_ n9_ n10_ n11_ n12_ n13_ n14_ n15_ n16_ n17_ n18_ n19_ n20_ n21_ n22_ n23_ n24_; clear hb hbox hg; have hnb102 := NB298_245.out; have hnc102 := NB245_298.out; have hnb103 := NB298_251.out; have hnc103 := NB251_298.out; have hnb104 := NB298_257.out; have hnc104 := NB257_298.out; have hnb105 := NB298_263.out; have hnc105 := NB263_298.out; have hnb106 := NB298_269.out; have hnc106 := NB269_298.out; have hnb107 := NB298_277.out; have hnc107 := NB277_298.out; have hnb108 := NB298_283.out; have hnc108 := NB283_298.out; have hcz109_0 : w101.cell? ⟨gb298, 0, none⟩ = some (.bool false) := (kC BK298.out 0).trans rfl; have hcz109_1 : w101.cell? ⟨gb298, 1, none⟩ = some (.int .u64 0) := (kC BK298.out 1).trans rfl; have hcz109_2 : w101.cell? ⟨gb298, 2, none⟩ = some (.int .u64 0) := (kC BK298.out 2).trans rfl; have hfz109_0 := kF BK298.out 0; have hfz109_1 := kF BK298.out 1; have hfz109_2 := kF BK298.out 2) | ((with_reducible refine gate_callee (f := 22) rfl ?_); refine goesL_ (some 80) rfl rfl Tryz.func22 (by kernel_rfl) rfl #[.string (⟨#[49, 48, 46, 48, 46, 48, 46, 52, 47, 51, 50]⟩ : ByteArray)] rfl (by (try simp only [List.map_toArray, List.map_cons, List.map_nil]); first | done | rfl | (simp only [List.length_drop, List.length_take]; rfl)) ?_; (with_reducible refine (ranges_Read.calls k (⟨#[49, 48, 46, 48, 46, 48, 46, 52, 47, 51, 50]⟩ : ByteArray) t299 t300 t301 t302 t303 _ ⟨hG_.out.below (by repeat (first | (with_reducible first | exact HB.out | apply bA | apply bN | apply bD | refine below_set ?_ (by apply Aside0.out; assumption)) | exact HB.out | exact Below.refl _ _))⟩ A16.out).mono ?_); rintro e w110 ⟨rfl, hb⟩; refine ⟨_, rfl, ?_⟩; have n0_ := aM (blk_below (o := .cells #[.bool t240, .int .u64 t241, .int .u64 t242, .int .i64 t243] 26 (0, 0)) (by (with_reducible repeat (first | apply kN | apply kD | apply kA)); refine blk_far ?_ NB245_298.out _; (with_reducible repeat (first | apply kN | apply kD | apply kA)); refine blk_far ?_ NB245_298.out _; (with_reducible repeat (first | apply kN | apply kD | apply kA)); refine blk_far ?_ NB245_298.out _; (with_reducible repeat (first | apply kN | apply kD | apply kA)); exact BK245.out) hb); have n1_ := aM (blk_below (o := .cells #[.bool t246, .int .u64 t247, .int .u64 t248, .int .i64 t249] 26 (0, 0)) (by (with_reducible repeat (first | apply kN | apply kD | apply kA)); refine blk_far ?_ NB251_298.out _; (with_reducible repeat (first | apply kN | apply kD | apply kA)); refine blk_far ?_ NB251_298.out _; (with_reducible repeat (first | apply kN | apply kD | apply kA)); refine blk_far ?_ NB251_298.out _; (with_reducible repeat (first | apply kN | apply kD | apply kA)); exact BK251.out) hb); have n2_ := aM (blk_below (o := .cells #[.bool t252, .int .u64 t253, .int .u64 t254, .int .i64 t255] 26 (0, 0)) (by (with_reducible repeat (first | apply kN | apply kD | apply kA)); refine blk_far ?_ NB257_298.out _; (with_reducible repeat (first | apply kN | apply kD | apply kA)); refine blk_far ?_ NB257_298.out _; (with_reducible repeat (first | apply kN | apply kD | apply kA)); refine blk_far ?_ NB257_298.out _; (with_reducible repeat (first | apply kN | apply kD | apply kA)); exact BK257.out) hb); have n3_ := aM (blk_below (o := .cells #[.bool t258, .int .u64 t259, .int .u64 t260, .int .i64 t261] 26 (0, 0)) (by (with_reducible repeat (first | apply kN | apply kD | apply kA)); refine blk_far ?_ NB263_298.out _; (with_reducible repeat (first | apply kN | apply kD | apply kA)); refine blk_far ?_ NB263_298.out _; (with_reducible repeat (first | apply kN | apply kD | apply kA)); refine blk_far ?_ NB263_298.out _; (with_reducible repeat (first | apply kN | apply kD | apply kA)); exact BK263.out) hb); have n4_ := aM (blk_below (o := .cells #[.bool t264, .int .u64 t265, .int .u64 t266, .int .i64 t267] 26 (0, 0)) (by (with_reducible repeat (first | apply kN | apply kD | apply kA)); refine blk_far ?_ NB269_298.out _; (with_reducible repeat (first | apply kN | apply kD | apply kA)); refine blk_far ?_ NB269_298.out _; (with_reducible repeat (first | apply kN | apply kD | apply kA)); refine blk_far ?_ NB269_298.out _; (with_reducible repeat (first | apply kN | apply kD | apply kA)); exact BK269.out) hb); have n5_ := aM (blk_below (o := .cells #[.bool t272, .int .u64 t273, .int .u64 t274, .int .i64 t275] 26 (0, 0)) (by (with_reducible repeat (first | apply kN | apply kD | apply kA)); refine blk_far ?_ NB277_298.out _; (with_reducible repeat (first | apply kN | apply kD | apply kA)); refine blk_far ?_ NB277_298.out _; (with_reducible repeat (first | apply kN | apply kD | apply kA)); refine blk_far ?_ NB277_298.out _; (with_reducible repeat (first | apply kN | apply kD | apply kA)); exact BK277.out) hb); have n6_ := aM (blk_below (o := .cells #[.bool t278, .int .u64 t279, .int .u64 t280, .int .i64 t281] 26 (0, 0)) (by (with_reducible repeat (first | apply kN | apply kD | apply kA)); refine blk_far ?_ NB283_298.out _; (with_reducible repeat (first | apply kN | apply kD | apply kA)); refine blk_far ?_ NB283_298.out _; (with_reducible repeat (first | apply kN | apply kD | apply kA)); refine blk_far ?_ NB283_298.out _; (with_reducible repeat (first | apply kN | apply kD | apply kA)); exact BK283.out) hb); have n7_ := aM (blk_below (o := .cells #[.bool t294, .int .u64 t295, .int .u64 t296] 24 (0, 0)) (by (with_reducible repeat (first | apply kN | apply kD | apply kA)); refine blk_put (cs := #[.bool t294, .int .u64 t295, .int .u64 0]) ?_ 2 _ rfl; (with_reducible repeat (first | apply kN | apply kD | apply kA)); refine blk_put (cs := #[.bool t294, .int .u64 0, .int .u64 0]) ?_ 1 _ rfl; (with_reducible repeat (first | apply kN | apply kD | apply kA)); refine blk_put (cs := #[.bool false, .int .u64 0, .int .u64 0]) ?_ 0 _ rfl; (with_reducible repeat (first | apply kN | apply kD | apply kA)); exact BK298.out) hb); have n8_ := aM (below_step (by repeat (first | (with_reducible first | exact HB.out | apply bA | apply bN | apply bD | refine below_set ?_ (by apply Aside0.out; assumption)) | exact HB.out)) hb); clear BK245; clear BK251; clear BK257; clear BK263; clear BK269; clear BK277; clear BK283; clear BK298; clear HB; have BK245 := n0_; have BK251 := n1_; have BK257 := n2_; have BK263 := n3_; have BK269 := n4_; have BK277 := n5_; have BK283 := n6_; have BK298 := n7_; have HB := n8_; clear n0_ n1_ n2_ n3_ n4_ n5_ n6_ n7_ n8_; (try clear hb); (try clear hb2); (try clear hk); (try clear hi)) | ((with_reducible refine gate_dst (N := 23) rfl ?_); (try (refine gate_guard (by rfl) ?_; dsimp only)); refine box_event ?hg (N := 23) ?hd (cs := #[.bool false, .int .u64 0, .int .u64 0, .int .i64 0]) (t := 26) ?hr ?_; (case hd => rfl); (case hg => rfl); (case hr => first | (go_simp; done) | (go_simp; rfl)); intro gb304 hg w111 hbox hb; have n0_ := aM (blk_below (o := .cells #[.bool t240, .int .u64 t241, .int .u64 t242, .int .i64 t243] 26 (0, 0)) (by (with_reducible repeat (first | apply kN | apply kD | apply kA)); exact BK245.out) hb); have n1_ := aM (blk_below (o := .cells #[.bool t246, .int .u64 t247, .int .u64 t248, .int .i64 t249] 26 (0, 0)) (by (with_reducible repeat (first | apply kN | apply kD | apply kA)); exact BK251.out) hb); have n2_ := aM (blk_below (o := .cells #[.bool t252, .int .u64 t253, .int .u64 t254, .int .i64 t255] 26 (0, 0)) (by (with_reducible repeat (first | apply kN | apply kD | apply kA)); exact BK257.out) hb); have n3_ := aM (blk_below (o := .cells #[.bool t258, .int .u64 t259, .int .u64 t260, .int .i64 t261] 26 (0, 0)) (by (with_reducible repeat (first | apply kN | apply kD | apply kA)); exact BK263.out) hb); have n4_ := aM (blk_below (o := .cells #[.bool t264, .int .u64 t265, .int .u64 t266, .int .i64 t267] 26 (0, 0)) (by (with_reducible repeat (first | apply kN | apply kD | apply kA)); exact BK269.out) hb); have n5_ := aM (blk_below (o := .cells #[.bool t272, .int .u64 t273, .int .u64 t274, .int .i64 t275] 26 (0, 0)) (by (with_reducible repeat (first | apply kN | apply kD | apply kA)); exact BK277.out) hb); have n6_ := aM (blk_below (o := .cells #[.bool t278, .int .u64 t279, .int .u64 t280, .int .i64 t281] 26 (0, 0)) (by (with_reducible repeat (first | apply kN | apply kD | apply kA)); exact BK283.out) hb); have n7_ := aM (blk_below (o := .cells #[.bool t294, .int .u64 t295, .int .u64 t296] 24 (0, 0)) (by (with_reducible repeat (first | apply kN | apply kD | apply kA)); exact BK298.out) hb); have n8_ := aM (below_step (by repeat (first | (with_reducible first | exact HB.out | apply bA | apply bN | apply bD | refine below_set ?_ (by apply Aside0.out; assumption)) | exact HB.out)) hb); have n9_ := aM (hbox); have n10_ := aM ((by rw [hg]; exact (below_size (by repeat (first | (with_reducible first | exact HB.out | apply bA | apply bN | apply bD | refine below_set ?_ (by apply Aside0.out; assumption)) | exact HB.out))) : w.heap.size ≤ gb304)); have n11_ := aM ((by rw [hg]; exact (below_size (by repeat (first | (with_reducible first | exact HB.out | apply bA | apply bN | apply bD | refine below_set ?_ (by apply Aside0.out; assumption)) | exact HB.out))) : w.heap.size ≤ gb304)); have n12_ := aM ((by rw [hg]; exact Nat.ne_of_lt (blk_lt (g := gb245) (o := .cells #[.bool t240, .int .u64 t241, .int .u64 t242, .int .i64 t243] 26 (0, 0)) (by (with_reducible repeat (first | apply kN | apply kD | apply kA)); exact BK245.out)) : gb245 ≠ gb304)); have n13_ := aM ((by rw [hg]; exact Nat.ne_of_gt (blk_lt (g := gb245) (o := .cells #[.bool t240, .int .u64 t241, .int .u64 t242, .int .i64 t243] 26 (0, 0)) (by (with_reducible repeat (first | apply kN | apply kD | apply kA)); exact BK245.out)) : gb304 ≠ gb245)); have n14_ := aM ((by rw [hg]; exact Nat.ne_of_lt (blk_lt (g := gb251) (o := .cells #[.bool t246, .int .u64 t247, .int .u64 t248, .int .i64 t249] 26 (0, 0)) (by (with_reducible repeat (first | apply kN | apply kD | apply kA)); exact BK251.out)) : gb251 ≠ gb304)); have n15_ := aM ((by rw [hg]; exact Nat.ne_of_gt (blk_lt (g := gb251) (o := .cells #[.bool t246, .int .u64 t247, .int .u64 t248, .int .i64 t249] 26 (0, 0)) (by (with_reducible repeat (first | apply kN | apply kD | apply kA)); exact BK251.out)) : gb304 ≠ gb251)); have n16_ := aM ((by rw [hg]; exact Nat.ne_of_lt (blk_lt (g := gb257) (o := .cells #[.bool t252, .int .u64 t253, .int .u64 t254, .int .i64 t255] 26 (0, 0)) (by (with_reducible repeat (first | apply kN | apply kD | apply kA)); exact BK257.out)) : gb257 ≠ gb304)); have n17_ := aM ((by rw [hg]; exact Nat.ne_of_gt (blk_lt (g := gb257) (o := .cells #[.bool t252, .int .u64 t253, .int .u64 t254, .int .i64 t255] 26 (0, 0)) (by (with_reducible repeat (first | apply kN | apply kD | apply kA)); exact BK257.out)) : gb304 ≠ gb257)); have n18_ := aM ((by rw [hg]; exact Nat.ne_of_lt (blk_lt (g := gb263) (o := .cells #[.bool t258, .int .u64 t259, .int .u64 t260, .int .i64 t261] 26 (0, 0)) (by (with_reducible repeat (first | apply kN | apply kD | apply kA)); exact BK263.out)) : gb263 ≠ gb304)); have n19_ := aM ((by rw [hg]; exact Nat.ne_of_gt (blk_lt (g := gb263) (o := .cells #[.bool t258, .int .u64 t259, .int .u64 t260, .int .i64 t261] 26 (0, 0)) (by (with_reducible repeat (first | apply kN | apply kD | apply kA)); exact BK263.out)) : gb304 ≠ gb263)); have n20_ := aM ((by rw [hg]; exact Nat.ne_of_lt (blk_lt (g := gb269) (o := .cells #[.bool t264, .int .u64 t265, .int .u64 t266, .int .i64 t267] 26 (0, 0)) (by (with_reducible repeat (first | apply kN | apply kD | apply kA)); exact BK269.out)) : gb269 ≠ gb304)); have n21_ := aM ((by rw [hg]; exact Nat.ne_of_gt (blk_lt (g := gb269) (o := .cells #[.bool t264, .int .u64 t265, .int .u64 t266, .int .i64 t267] 26 (0, 0)) (by (with_reducible repeat (first | apply kN | apply kD | apply kA)); exact BK269.out)) : gb304 ≠ gb269)); have n22_ := aM ((by rw [hg]; exact Nat.ne_of_lt (blk_lt (g := gb277) (o := .cells #[.bool t272, .int .u64 t273, .int .u64 t274, .int .i64 t275] 26 (0, 0)) (by (with_reducible repeat (first | apply kN | apply kD | apply kA)); exact BK277.out)) : gb277 ≠ gb304)); have n23_ := aM ((by rw [hg]; exact Nat.ne_of_gt (blk_lt (g := gb277) (o := .cells #[.bool t272, .int .u64 t273, .int .u64 t274, .int .i64 t275] 26 (0, 0)) (by (with_reducible repeat (first | apply kN | apply kD | apply kA)); exact BK277.out)) : gb304 ≠ gb277)); have n24_ := aM ((by rw [hg]; exact Nat.ne_of_lt (blk_lt (g := gb283) (o := .cells #[.bool t278, .int .u64 t279, .int .u64 t280, .int .i64 t281] 26 (0, 0)) (by (with_reducible repeat (first | apply kN | apply kD | apply kA)); exact BK283.out)) : gb283 ≠ gb304)); have n25_ := aM ((by rw [hg]; exact Nat.ne_of_gt (blk_lt (g := gb283) (o := .cells #[.bool t278, .int .u64 t279, .int .u64 t280, .int .i64 t281] 26 (0, 0)) (by (with_reducible repeat (first | apply kN | apply kD | apply kA)); exact BK283.out)) : gb304 ≠ gb283)); have n26_ := aM ((by rw [hg]; exact Nat.ne_of_lt (blk_lt (g := gb298) (o := .cells #[.bool t294, .int .u64 t295, .int .u64 t296] 24 (0, 0)) (by (with_reducible repeat (first | apply kN | apply kD | apply kA)); exact BK298.out)) : gb298 ≠ gb304)); have n27_ := aM ((by rw [hg]; exact Nat.ne_of_gt (blk_lt (g := gb298) (o := .cells #[.bool t294, .int .u64 t295, .int .u64 t296] 24 (0, 0)) (by (with_reducible repeat (first | apply kN | apply kD | apply kA)); exact BK298.out)) : gb304 ≠ gb298)); clear BK245; clear BK251; clear BK257; clear BK263; clear BK269; clear BK277; clear BK283; clear BK298; clear HB; have BK245 := n0_; have BK251 := n1_; have BK257 := n2_; have BK263 := n3_; have BK269 := n4_; have BK277 := n5_; have BK283 := n6_; have BK298 := n7_; have HB := n8_; have BK304 := n9_; have GW304 := n10_; have GE304 := n11_; have NB245_304 := n12_; have NB304_245 := n13_; have NB251_304 := n14_; have NB304_251 := n15_; have NB257_304 := n16_; have NB304_257 := n17_; have NB263_304 := n18_; have NB304_263 := n19_; have NB269_304 := n20_; have NB304_269 := n21_; have NB277_304 := n22_; have NB304_277 := n23_; have NB283_304 := n24_; have NB304_283 := n25_; have NB298_304 := n26_; have NB304_298 := n27_; clear n0_ n1_ n2_ n3_ n4_ n5_ n6_ n7_ n8_ n9_ n10_ n11_ n12_ n13_ n14_ n15_ n16_ n17_ n18_ n19_ n20_ n21_ n22_ n23_ n24_ n25_ n26_ n27_; clear hb hbox hg; have hnb112 := NB304_245.out; have hnc112 := NB245_304.out; have hnb113 := NB304_251.out; have hnc113 := NB251_304.out; have hnb114 := NB304_257.out; have hnc114 := NB257_304.out; have hnb115 := NB304_263.out; have hnc115 := NB263_304.out; have hnb116 := NB304_269.out; have hnc116 := NB269_304.out; have hnb117 := NB304_277.out; have hnc117 := NB277_304.out; have hnb118 := NB304_283.out; have hnc118 := NB283_304.out; have hnb119 := NB304_298.out; have hnc119 := NB298_304.out; have hcz120_0 : w111.cell? ⟨gb304, 0, none⟩ = some (.bool false) := (kC BK304.out 0).trans rfl; have hcz120_1 : w111.cell? ⟨gb304, 1, none⟩ = some (.int .u64 0) := (kC BK304.out 1).trans rfl; have hcz120_2 : w111.cell? ⟨gb304, 2, none⟩ = some (.int .u64 0) := (kC BK304.out 2).trans rfl; have hcz120_3 : w111.cell? ⟨gb304, 3, none⟩ = some (.int .i64 0) := (kC BK304.out 3).trans rfl; have hfz120_0 := kF BK304.out 0; have hfz120_1 := kF BK304.out 1; have hfz120_2 := kF BK304.out 2; have hfz120_3 := kF BK304.out 3) | ((with_reducible refine gate_callee (f := 22) rfl ?_); refine goesL_ (some 84) rfl rfl Tryz.func22 (by kernel_rfl) rfl #[.string (⟨#[49, 48, 46, 48, 46, 48, 46, 48, 47, 50, 57]⟩ : ByteArray)] rfl (by (try simp only [List.map_toArray, List.map_cons, List.map_nil]); first | done | rfl | (simp only [List.length_drop, List.length_take]; rfl)) ?_; (with_reducible refine (ranges_Read.calls k (⟨#[49, 48, 46, 48, 46, 48, 46, 48, 47, 50, 57]⟩ : ByteArray) t305 t306 t307 t308 t309 _ ⟨hG_.out.below (by repeat (first | (with_reducible first | exact HB.out | apply bA | apply bN | apply bD | refine below_set ?_ (by apply Aside0.out; assumption)) | exact HB.out | exact Below.refl _ _))⟩ A17.out).mono ?_); rintro e w121 ⟨rfl, hb⟩; refine ⟨_, rfl, ?_⟩; have n0_ := aM (blk_below (o := .cells #[.bool t240, .int .u64 t241, .int .u64 t242, .int .i64 t243] 26 (0, 0)) (by (with_reducible repeat (first | apply kN | apply kD | apply kA)); refine blk_far ?_ NB245_304.out _; (with_reducible repeat (first | apply kN | apply kD | apply kA)); refine blk_far ?_ NB245_304.out _; (with_reducible repeat (first | apply kN | apply kD | apply kA)); refine blk_far ?_ NB245_304.out _; (with_reducible repeat (first | apply kN | apply kD | apply kA)); refine blk_far ?_ NB245_304.out _; (with_reducible repeat (first | apply kN | apply kD | apply kA)); exact BK245.out) hb); have n1_ := aM (blk_below (o := .cells #[.bool t246, .int .u64 t247, .int .u64 t248, .int .i64 t249] 26 (0, 0)) (by (with_reducible repeat (first | apply kN | apply kD | apply kA)); refine blk_far ?_ NB251_304.out _; (with_reducible repeat (first | apply kN | apply kD | apply kA)); refine blk_far ?_ NB251_304.out _; (with_reducible repeat (first | apply kN | apply kD | apply kA)); refine blk_far ?_ NB251_304.out _; (with_reducible repeat (first | apply kN | apply kD | apply kA)); refine blk_far ?_ NB251_304.out _; (with_reducible repeat (first | apply kN | apply kD | apply kA)); exact BK251.out) hb); have n2_ := aM (blk_below (o := .cells #[.bool t252, .int .u64 t253, .int .u64 t254, .int .i64 t255] 26 (0, 0)) (by (with_reducible repeat (first | apply kN | apply kD | apply kA)); refine blk_far ?_ NB257_304.out _; (with_reducible repeat (first | apply kN | apply kD | apply kA)); refine blk_far ?_ NB257_304.out _; (with_reducible repeat (first | apply kN | apply kD | apply kA)); refine blk_far ?_ NB257_304.out _; (with_reducible repeat (first | apply kN | apply kD | apply kA)); refine blk_far ?_ NB257_304.out _; (with_reducible repeat (first | apply kN | apply kD | apply kA)); exact BK257.out) hb); have n3_ := aM (blk_below (o := .cells #[.bool t258, .int .u64 t259, .int .u64 t260, .int .i64 t261] 26 (0, 0)) (by (with_reducible repeat (first | apply kN | apply kD | apply kA)); refine blk_far ?_ NB263_304.out _; (with_reducible repeat (first | apply kN | apply kD | apply kA)); refine blk_far ?_ NB263_304.out _; (with_reducible repeat (first | apply kN | apply kD | apply kA)); refine blk_far ?_ NB263_304.out _; (with_reducible repeat (first | apply kN | apply kD | apply kA)); refine blk_far ?_ NB263_304.out _; (with_reducible repeat (first | apply kN | apply kD | apply kA)); exact BK263.out) hb); have n4_ := aM (blk_below (o := .cells #[.bool t264, .int .u64 t265, .int .u64 t266, .int .i64 t267] 26 (0, 0)) (by (with_reducible repeat (first | apply kN | apply kD | apply kA)); refine blk_far ?_ NB269_304.out _; (with_reducible repeat (first | apply kN | apply kD | apply kA)); refine blk_far ?_ NB269_304.out _; (with_reducible repeat (first | apply kN | apply kD | apply kA)); refine blk_far ?_ NB269_304.out _; (with_reducible repeat (first | apply kN | apply kD | apply kA)); refine blk_far ?_ NB269_304.out _; (with_reducible repeat (first | apply kN | apply kD | apply kA)); exact BK269.out) hb); have n5_ := aM (blk_below (o := .cells #[.bool t272, .int .u64 t273, .int .u64 t274, .int .i64 t275] 26 (0, 0)) (by (with_reducible repeat (first | apply kN | apply kD | apply kA)); refine blk_far ?_ NB277_304.out _; (with_reducible repeat (first | apply kN | apply kD | apply kA)); refine blk_far ?_ NB277_304.out _; (with_reducible repeat (first | apply kN | apply kD | apply kA)); refine blk_far ?_ NB277_304.out _; (with_reducible repeat (first | apply kN | apply kD | apply kA)); refine blk_far ?_ NB277_304.out _; (with_reducible repeat (first | apply kN | apply kD | apply kA)); exact BK277.out) hb); have n6_ := aM (blk_below (o := .cells #[.bool t278, .int .u64 t279, .int .u64 t280, .int .i64 t281] 26 (0, 0)) (by (with_reducible repeat (first | apply kN | apply kD | apply kA)); refine blk_far ?_ NB283_304.out _; (with_reducible repeat (first | apply kN | apply kD | apply kA)); refine blk_far ?_ NB283_304.out _; (with_reducible repeat (first | apply kN | apply kD | apply kA)); refine blk_far ?_ NB283_304.out _; (with_reducible repeat (first | apply kN | apply kD | apply kA)); refine blk_far ?_ NB283_304.out _; (with_reducible repeat (first | apply kN | apply kD | apply kA)); exact BK283.out) hb); have n7_ := aM (blk_below (o := .cells #[.bool t294, .int .u64 t295, .int .u64 t296] 24 (0, 0)) (by (with_reducible repeat (first | apply kN | apply kD | apply kA)); refine blk_far ?_ NB298_304.out _; (with_reducible repeat (first | apply kN | apply kD | apply kA)); refine blk_far ?_ NB298_304.out _; (with_reducible repeat (first | apply kN | apply kD | apply kA)); refine blk_far ?_ NB298_304.out _; (with_reducible repeat (first | apply kN | apply kD | apply kA)); refine blk_far ?_ NB298_304.out _; (with_reducible repeat (first | apply kN | apply kD | apply kA)); exact BK298.out) hb); have n8_ := aM (blk_below (o := .cells #[.bool t299, .int .u64 t300, .int .u64 t301, .int .i64 t302] 26 (0, 0)) (by (with_reducible repeat (first | apply kN | apply kD | apply kA)); refine blk_put (cs := #[.bool t299, .int .u64 t300, .int .u64 t301, .int .i64 0]) ?_ 3 _ rfl; (with_reducible repeat (first | apply kN | apply kD | apply kA)); refine blk_put (cs := #[.bool t299, .int .u64 t300, .int .u64 0, .int .i64 0]) ?_ 2 _ rfl; (with_reducible repeat (first | apply kN | apply kD | apply kA)); refine blk_put (cs := #[.bool t299, .int .u64 0, .int .u64 0, .int .i64 0]) ?_ 1 _ rfl; (with_reducible repeat (first | apply kN | apply kD | apply kA)); refine blk_put (cs := #[.bool false, .int .u64 0, .int .u64 0, .int .i64 0]) ?_ 0 _ rfl; (with_reducible repeat (first | apply kN | apply kD | apply kA)); exact BK304.out) hb); have n9_ := aM (below_step (by repeat (first | (with_reducible first | exact HB.out | apply bA | apply bN | apply bD | refine below_set ?_ (by apply Aside0.out; assumption)) | exact HB.out)) hb); clear BK245; clear BK251; clear BK257; clear BK263; clear BK269; clear BK277; clear BK283; clear BK298; clear BK304; clear HB; have BK245 := n0_; have BK251 := n1_; have BK257 := n2_; have BK263 := n3_; have BK269 := n4_; have BK277 := n5_; have BK283 := n6_; have BK298 := n7_; have BK304 := n8_; have HB := n9_; clear n0_ n1_ n2_ n3_ n4_ n5_ n6_ n7_ n8_ n9_; (try clear hb); (try clear hb2); (try clear hk); (try clear hi)) | ((with_reducible refine gate_dst (N := 25) rfl ?_); (try (refine gate_guard (by rfl) ?_; dsimp only)); refine box_event ?hg (N := 25) ?hd (cs := #[.bool false, .int .u64 0, .int .u64 0, .int .i64 0]) (t := 26) ?hr ?_; (case hd => rfl); (case hg => rfl); (case hr => first | (go_simp; done) | (go_simp; rfl)); intro gb310 hg w122 hbox hb; have n0_ := aM (blk_below (o := .cells #[.bool t240, .int .u64 t241, .int .u64 t242, .int .i64 t243] 26 (0, 0)) (by (with_reducible repeat (first | apply kN | apply kD | apply kA)); exact BK245.out) hb); have n1_ := aM (blk_below (o := .cells #[.bool t246, .int .u64 t247, .int .u64 t248, .int .i64 t249] 26 (0, 0)) (by (with_reducible repeat (first | apply kN | apply kD | apply kA)); exact BK251.out) hb); have n2_ := aM (blk_below (o := .cells #[.bool t252, .int .u64 t253, .int .u64 t254, .int .i64 t255] 26 (0, 0)) (by (with_reducible repeat (first | apply kN | apply kD | apply kA)); exact BK257.out) hb); have n3_ := aM (blk_below (o := .cells #[.bool t258, .int .u64 t259, .int .u64 t260, .int .i64 t261] 26 (0, 0)) (by (with_reducible repeat (first | apply kN | apply kD | apply kA)); exact BK263.out) hb); have n4_ := aM (blk_below (o := .cells #[.bool t264, .int .u64 t265, .int .u64 t266, .int .i64 t267] 26 (0, 0)) (by (with_reducible repeat (first | apply kN | apply kD | apply kA)); exact BK269.out) hb); have n5_ := aM (blk_below (o := .cells #[.bool t272, .int .u64 t273, .int .u64 t274, .int .i64 t275] 26 (0, 0)) (by (with_reducible repeat (first | apply kN | apply kD | apply kA)); exact BK277.out) hb); have n6_ := aM (blk_below (o := .cells #[.bool t278, .int .u64 t279, .int .u64 t280, .int .i64 t281] 26 (0, 0)) (by (with_reducible repeat (first | apply kN | apply kD | apply kA)); exact BK283.out) hb); have n7_ := aM (blk_below (o := .cells #[.bool t294, .int .u64 t295, .int .u64 t296] 24 (0, 0)) (by (with_reducible repeat (first | apply kN | apply kD | apply kA)); exact BK298.out) hb); have n8_ := aM (blk_below (o := .cells #[.bool t299, .int .u64 t300, .int .u64 t301, .int .i64 t302] 26 (0, 0)) (by (with_reducible repeat (first | apply kN | apply kD | apply kA)); exact BK304.out) hb); have n9_ := aM (below_step (by repeat (first | (with_reducible first | exact HB.out | apply bA | apply bN | apply bD | refine below_set ?_ (by apply Aside0.out; assumption)) | exact HB.out)) hb); have n10_ := aM (hbox); have n11_ := aM ((by rw [hg]; exact (below_size (by repeat (first | (with_reducible first | exact HB.out | apply bA | apply bN | apply bD | refine below_set ?_ (by apply Aside0.out; assumption)) | exact HB.out))) : w.heap.size ≤ gb310)); have n12_ := aM ((by rw [hg]; exact (below_size (by repeat (first | (with_reducible first | exact HB.out | apply bA | apply bN | apply bD | refine below_set ?_ (by apply Aside0.out; assumption)) | exact HB.out))) : w.heap.size ≤ gb310)); have n13_ := aM ((by rw [hg]; exact Nat.ne_of_lt (blk_lt (g := gb245) (o := .cells #[.bool t240, .int .u64 t241, .int .u64 t242, .int .i64 t243] 26 (0, 0)) (by (with_reducible repeat (first | apply kN | apply kD | apply kA)); exact BK245.out)) : gb245 ≠ gb310)); have n14_ := aM ((by rw [hg]; exact Nat.ne_of_gt (blk_lt (g := gb245) (o := .cells #[.bool t240, .int .u64 t241, .int .u64 t242, .int .i64 t243] 26 (0, 0)) (by (with_reducible repeat (first | apply kN | apply kD | apply kA)); exact BK245.out)) : gb310 ≠ gb245)); have n15_ := aM ((by rw [hg]; exact Nat.ne_of_lt (blk_lt (g := gb251) (o := .cells #[.bool t246, .int .u64 t247, .int .u64 t248, .int .i64 t249] 26 (0, 0)) (by (with_reducible repeat (first | apply kN | apply kD | apply kA)); exact BK251.out)) : gb251 ≠ gb310)); have n16_ := aM ((by rw [hg]; exact Nat.ne_of_gt (blk_lt (g := gb251) (o := .cells #[.bool t246, .int .u64 t247, .int .u64 t248, .int .i64 t249] 26 (0, 0)) (by (with_reducible repeat (first | apply kN | apply kD | apply kA)); exact BK251.out)) : gb310 ≠ gb251)); have n17_ := aM ((by rw [hg]; exact Nat.ne_of_lt (blk_lt (g := gb257) (o := .cells #[.bool t252, .int .u64 t253, .int .u64 t254, .int .i64 t255] 26 (0, 0)) (by (with_reducible repeat (first | apply kN | apply kD | apply kA)); exact BK257.out)) : gb257 ≠ gb310)); have n18_ := aM ((by rw [hg]; exact Nat.ne_of_gt (blk_lt (g := gb257) (o := .cells #[.bool t252, .int .u64 t253, .int .u64 t254, .int .i64 t255] 26 (0, 0)) (by (with_reducible repeat (first | apply kN | apply kD | apply kA)); exact BK257.out)) : gb310 ≠ gb257)); have n19_ := aM ((by rw [hg]; exact Nat.ne_of_lt (blk_lt (g := gb263) (o := .cells #[.bool t258, .int .u64 t259, .int .u64 t260, .int .i64 t261] 26 (0, 0)) (by (with_reducible repeat (first | apply kN | apply kD | apply kA)); exact BK263.out)) : gb263 ≠ gb310)); have n20_ := aM ((by rw [hg]; exact Nat.ne_of_gt (blk_lt (g := gb263) (o := .cells #[.bool t258, .int .u64 t259, .int .u64 t260, .int .i64 t261] 26 (0, 0)) (by (with_reducible repeat (first | apply kN | apply kD | apply kA)); exact BK263.out)) : gb310 ≠ gb263)); have n21_ := aM ((by rw [hg]; exact Nat.ne_of_lt (blk_lt (g := gb269) (o := .cells #[.bool t264, .int .u64 t265, .int .u64 t266, .int .i64 t267] 26 (0, 0)) (by (with_reducible repeat (first | apply kN | apply kD | apply kA)); exact BK269.out)) : gb269 ≠ gb310)); have n22_ := aM ((by rw [hg]; exact Nat.ne_of_gt (blk_lt (g := gb269) (o := .cells #[.bool t264, .int .u64 t265, .int .u64 t266, .int .i64 t267] 26 (0, 0)) (by (with_reducible repeat (first | apply kN | apply kD | apply kA)); exact BK269.out)) : gb310 ≠ gb269)); have n23_ := aM ((by rw [hg]; exact Nat.ne_of_lt (blk_lt (g := gb277) (o := .cells #[.bool t272, .int .u64 t273, .int .u64 t274, .int .i64 t275] 26 (0, 0)) (by (with_reducible repeat (first | apply kN | apply kD | apply kA)); exact BK277.out)) : gb277 ≠ gb310)); have n24_ := aM ((by rw [hg]; exact Nat.ne_of_gt (blk_lt (g := gb277) (o := .cells #[.bool t272, .int .u64 t273, .int .u64 t274, .int .i64 t275] 26 (0, 0)) (by (with_reducible repeat (first | apply kN | apply kD | apply kA)); exact BK277.out)) : gb310 ≠ gb277)); have n25_ := aM ((by rw [hg]; exact Nat.ne_of_lt (blk_lt (g := gb283) (o := .cells #[.bool t278, .int .u64 t279, .int .u64 t280, .int .i64 t281] 26 (0, 0)) (by (with_reducible repeat (first | apply kN | apply kD | apply kA)); exact BK283.out)) : gb283 ≠ gb310)); have n26_ := aM ((by rw [hg]; exact Nat.ne_of_gt (blk_lt (g := gb283) (o := .cells #[.bool t278, .int .u64 t279, .int .u64 t280, .int .i64 t281] 26 (0, 0)) (by (with_reducible repeat (first | apply kN | apply kD | apply kA)); exact BK283.out)) : gb310 ≠ gb283)); have n27_ := aM ((by rw [hg]; exact Nat.ne_of_lt (blk_lt (g := gb298) (o := .cells #[.bool t294, .int .u64 t295, .int .u64 t296] 24 (0, 0)) (by (with_reducible repeat (first | apply kN | apply kD | apply kA)); exact BK298.out)) : gb298 ≠ gb310)); have n28_ := aM ((by rw [hg]; exact Nat.ne_of_gt (blk_lt (g := gb298) (o := .cells #[.bool t294, .int .u64 t295, .int .u64 t296] 24 (0, 0)) (by (with_reducible repeat (first | apply kN | apply kD | apply kA)); exact BK298.out)) : gb310 ≠ gb298)); have n29_ := aM ((by rw [hg]; exact Nat.ne_of_lt (blk_lt (g := gb304) (o := .cells #[.bool t299, .int .u64 t300, .int .u64 t301, .int .i64 t302] 26 (0, 0)) (by (with_reducible repeat (first | apply kN | apply kD | apply kA)); exact BK304.out)) : gb304 ≠ gb310)); have n30_ := aM ((by rw [hg]; exact Nat.ne_of_gt (blk_lt (g := gb304) (o := .cells #[.bool t299, .int .u64 t300, .int .u64 t301, .int .i64 t302] 26 (0, 0)) (by (with_reducible repeat (first | apply kN | apply kD | apply kA)); exact BK304.out)) : gb310 ≠ gb304)); clear BK245; clear BK251; clear BK257; clear BK263; clear BK269; clear BK277; clear BK283; clear BK298; clear BK304; clear HB; have BK245 := n0_; have BK251 := n1_; have BK257 := n2_; have BK263 := n3_; have BK269 := n4_; have BK277 := n5_; have BK283 := n6_; have BK298 := n7_; have BK304 := n8_; have HB := n9_; have BK310 := n10_; have GW310 := n11_; have GE310 := n12_; have NB245_310 := n13_; have NB310_245 := n14_; have NB251_310 := n15_; have NB310_251 := n16_; have NB257_310 := n17_; have NB310_257 := n18_; have NB263_310 := n19_; have NB310_263 := n20_; have NB269_310 := n21_; have NB310_269 := n22_; have NB277_310 := n23_; have NB310_277 := n24_; have NB283_310 := n25_; have NB310_283 := n26_; have NB298_310 := n27_; have NB310_298 := n28_; have NB304_310 := n29_; have NB310_304 := n30_; clear n0_ n1_ n2_ n3_ n4_ n5_ n6_ n7_ n8_ n9_ n10_ n11_ n12_ n13_ n14_ n15_ n16_ n17_ n18_ n19_ n20_ n21_ n22_ n23_ n24_ n25_ n26_ n27_ n28_ n29_ n30_; clear hb hbox hg; have hnb123 := NB310_245.out; have hnc123 := NB245_310.out; have hnb124 := NB310_251.out; have hnc124 := NB251_310.out; have hnb125 := NB310_257.out; have hnc125 := NB257_310.out; have hnb126 := NB310_263.out; have hnc126 := NB263_310.out; have hnb127 := NB310_269.out; have hnc127 := NB269_310.out; have hnb128 := NB310_277.out; have hnc128 := NB277_310.out; have hnb129 := NB310_283.out; have hnc129 := NB283_310.out; have hnb130 := NB310_298.out; have hnc130 := NB298_310.out; have hnb131 := NB310_304.out; have hnc131 := NB304_310.out; have hcz132_0 : w122.cell? ⟨gb310, 0, none⟩ = some (.bool false) := (kC BK310.out 0).trans rfl; have hcz132_1 : w122.cell? ⟨gb310, 1, none⟩ = some (.int .u64 0) := (kC BK310.out 1).trans rfl; have hcz132_2 : w122.cell? ⟨gb310, 2, none⟩ = some (.int .u64 0) := (kC BK310.out 2).trans rfl; have hcz132_3 : w122.cell? ⟨gb310, 3, none⟩ = some (.int .i64 0) := (kC BK310.out 3).trans rfl; have hfz132_0 := kF BK310.out 0; have hfz132_1 := kF BK310.out 1; have hfz132_2 := kF BK310.out 2; have hfz132_3 := kF BK310.out 3))
     have n0_ : Aside0 (((((w122.setCell ⟨gb310, 0, none⟩ (.bool t305)).setCell ⟨gb310, 1, none⟩ (.int .u64 t306)).setCell ⟨gb310, 2, none⟩ (.int .u64 t307)).setCell ⟨gb310, 3, none⟩ (.int .i64 t308)).heap[gb245]? = some (.cells #[.bool t240, .int .u64 t241, .int .u64 t242, .int .i64 t243] 26 (0, 0))) := ⟨by (with_reducible repeat (first | apply kN | apply kD | apply kA)); refine blk_far ?_ NB245_310.out _; (with_reducible repeat (first | apply kN | apply kD | apply kA)); refine blk_far ?_ NB245_310.out _; (with_reducible repeat (first | apply kN | apply kD | apply kA)); refine blk_far ?_ NB245_310.out _; (with_reducible repeat (first | apply kN | apply kD | apply kA)); refine blk_far ?_ NB245_310.out _; (with_reducible repeat (first | apply kN | apply kD | apply kA)); exact BK245.out⟩
     have n1_ : Aside0 (((((w122.setCell ⟨gb310, 0, none⟩ (.bool t305)).setCell ⟨gb310, 1, none⟩ (.int .u64 t306)).setCell ⟨gb310, 2, none⟩ (.int .u64 t307)).setCell ⟨gb310, 3, none⟩ (.int .i64 t308)).heap[gb251]? = some (.cells #[.bool t246, .int .u64 t247, .int .u64 t248, .int .i64 t249] 26 (0, 0))) := ⟨by (with_reducible repeat (first | apply kN | apply kD | apply kA)); refine blk_far ?_ NB251_310.out _; (with_reducible repeat (first | apply kN | apply kD | apply kA)); refine blk_far ?_ NB251_310.out _; (with_reducible repeat (first | apply kN | apply kD | apply kA)); refine blk_far ?_ NB251_310.out _; (with_reducible repeat (first | apply kN | apply kD | apply kA)); refine blk_far ?_ NB251_310.out _; (with_reducible repeat (first | apply kN | apply kD | apply kA)); exact BK251.out⟩
     have n2_ : Aside0 (((((w122.setCell ⟨gb310, 0, none⟩ (.bool t305)).setCell ⟨gb310, 1, none⟩ (.int .u64 t306)).setCell ⟨gb310, 2, none⟩ (.int .u64 t307)).setCell ⟨gb310, 3, none⟩ (.int .i64 t308)).heap[gb257]? = some (.cells #[.bool t252, .int .u64 t253, .int .u64 t254, .int .i64 t255] 26 (0, 0))) := ⟨by (with_reducible repeat (first | apply kN | apply kD | apply kA)); refine blk_far ?_ NB257_310.out _; (with_reducible repeat (first | apply kN | apply kD | apply kA)); refine blk_far ?_ NB257_310.out _; (with_reducible repeat (first | apply kN | apply kD | apply kA)); refine blk_far ?_ NB257_310.out _; (with_reducible repeat (first | apply kN | apply kD | apply kA)); refine blk_far ?_ NB257_310.out _; (with_reducible repeat (first | apply kN | apply kD | apply kA)); exact BK257.out⟩
     have n3_ : Aside0 (((((w122.setCell ⟨gb310, 0, none⟩ (.bool t305)).setCell ⟨gb310, 1, none⟩ (.int .u64 t306)).setCell ⟨gb310, 2, none⟩ (.int .u64 t307)).setCell ⟨gb310, 3, none⟩ (.int .i64 t308)).heap[gb263]? = some (.cells #[.bool t258, .int .u64 t259, .int .u64 t260, .int .i64 t261] 26 (0, 0))) := ⟨by (with_reducible repeat (first | apply kN | apply kD | apply kA)); refine blk_far ?_ NB263_310.out _; (with_reducible repeat (first | apply kN | apply kD | apply kA)); refine blk_far ?_ NB263_310.out _; (with_reducible repeat (first | apply kN | apply kD | apply kA)); refine blk_far ?_ NB263_310.out _; (with_reducible repeat (first | apply kN | apply kD | apply kA)); refine blk_far ?_ NB263_310.out _; (with_reducible repeat (first | apply kN | apply kD | apply kA)); exact BK263.out⟩
     have n4_ : Aside0 (((((w122.setCell ⟨gb310, 0, none⟩ (.bool t305)).setCell ⟨gb310, 1, none⟩ (.int .u64 t306)).setCell ⟨gb310, 2, none⟩ (.int .u64 t307)).setCell ⟨gb310, 3, none⟩ (.int .i64 t308)).heap[gb269]? = some (.cells #[.bool t264, .int .u64 t265, .int .u64 t266, .int .i64 t267] 26 (0, 0))) := ⟨by (with_reducible repeat (first | apply kN | apply kD | apply kA)); refine blk_far ?_ NB269_310.out _; (with_reducible repeat (first | apply kN | apply kD | apply kA)); refine blk_far ?_ NB269_310.out _; (with_reducible repeat (first | apply kN | apply kD | apply kA)); refine blk_far ?_ NB269_310.out _; (with_reducible repeat (first | apply kN | apply kD | apply kA)); refine blk_far ?_ NB269_310.out _; (with_reducible repeat (first | apply kN | apply kD | apply kA)); exact BK269.out⟩
     have n5_ : Aside0 (((((w122.setCell ⟨gb310, 0, none⟩ (.bool t305)).setCell ⟨gb310, 1, none⟩ (.int .u64 t306)).setCell ⟨gb310, 2, none⟩ (.int .u64 t307)).setCell ⟨gb310, 3, none⟩ (.int .i64 t308)).heap[gb277]? = some (.cells #[.bool t272, .int .u64 t273, .int .u64 t274, .int .i64 t275] 26 (0, 0))) := ⟨by (with_reducible repeat (first | apply kN | apply kD | apply kA)); refine blk_far ?_ NB277_310.out _; (with_reducible repeat (first | apply kN | apply kD | apply kA)); refine blk_far ?_ NB277_310.out _; (with_reducible repeat (first | apply kN | apply kD | apply kA)); refine blk_far ?_ NB277_310.out _; (with_reducible repeat (first | apply kN | apply kD | apply kA)); refine blk_far ?_ NB277_310.out _; (with_reducible repeat (first | apply kN | apply kD | apply kA)); exact BK277.out⟩
     have n6_ : Aside0 (((((w122.setCell ⟨gb310, 0, none⟩ (.bool t305)).setCell ⟨gb310, 1, none⟩ (.int .u64 t306)).setCell ⟨gb310, 2, none⟩ (.int .u64 t307)).setCell ⟨gb310, 3, none⟩ (.int .i64 t308)).heap[gb283]? = some (.cells #[.bool t278, .int .u64 t279, .int .u64 t280, .int .i64 t281] 26 (0, 0))) := ⟨by (with_reducible repeat (first | apply kN | apply kD | apply kA)); refine blk_far ?_ NB283_310.out _; (with_reducible repeat (first | apply kN | apply kD | apply kA)); refine blk_far ?_ NB283_310.out _; (with_reducible repeat (first | apply kN | apply kD | apply kA)); refine blk_far ?_ NB283_310.out _; (with_reducible repeat (first | apply kN | apply kD | apply kA)); refine blk_far ?_ NB283_310.out _; (with_reducible repeat (first | apply kN | apply kD | apply kA)); exact BK283.out⟩
     have n7_ : Aside0 (((((w122.setCell ⟨gb310, 0, none⟩ (.bool t305)).setCell ⟨gb310, 1, none⟩ (.int .u64 t306)).setCell ⟨gb310, 2, none⟩ (.int .u64 t307)).setCell ⟨gb310, 3, none⟩ (.int .i64 t308)).heap[gb298]? = some (.cells #[.bool t294, .int .u64 t295, .int .u64 t296] 24 (0, 0))) := ⟨by (with_reducible repeat (first | apply kN | apply kD | apply kA)); refine blk_far ?_ NB298_310.out _; (with_reducible repeat (first | apply kN | apply kD | apply kA)); refine blk_far ?_ NB298_310.out _; (with_reducible repeat (first | apply kN | apply kD | apply kA)); refine blk_far ?_ NB298_310.out _; (with_reducible repeat (first | apply kN | apply kD | apply kA)); refine blk_far ?_ NB298_310.out _; (with_reducible repeat (first | apply kN | apply kD | apply kA)); exact BK298.out⟩
     have n8_ : Aside0 (((((w122.setCell ⟨gb310, 0, none⟩ (.bool t305)).setCell ⟨gb310, 1, none⟩ (.int .u64 t306)).setCell ⟨gb310, 2, none⟩ (.int .u64 t307)).setCell ⟨gb310, 3, none⟩ (.int .i64 t308)).heap[gb304]? = some (.cells #[.bool t299, .int .u64 t300, .int .u64 t301, .int .i64 t302] 26 (0, 0))) := ⟨by (with_reducible repeat (first | apply kN | apply kD | apply kA)); refine blk_far ?_ NB304_310.out _; (with_reducible repeat (first | apply kN | apply kD | apply kA)); refine blk_far ?_ NB304_310.out _; (with_reducible repeat (first | apply kN | apply kD | apply kA)); refine blk_far ?_ NB304_310.out _; (with_reducible repeat (first | apply kN | apply kD | apply kA)); refine blk_far ?_ NB304_310.out _; (with_reducible repeat (first | apply kN | apply kD | apply kA)); exact BK304.out⟩
     have n9_ : Aside0 (((((w122.setCell ⟨gb310, 0, none⟩ (.bool t305)).setCell ⟨gb310, 1, none⟩ (.int .u64 t306)).setCell ⟨gb310, 2, none⟩ (.int .u64 t307)).setCell ⟨gb310, 3, none⟩ (.int .i64 t308)).heap[gb310]? = some (.cells #[.bool t305, .int .u64 t306, .int .u64 t307, .int .i64 t308] 26 (0, 0))) := ⟨by (with_reducible repeat (first | apply kN | apply kD | apply kA)); refine blk_put (cs := #[.bool t305, .int .u64 t306, .int .u64 t307, .int .i64 0]) ?_ 3 _ rfl; (with_reducible repeat (first | apply kN | apply kD | apply kA)); refine blk_put (cs := #[.bool t305, .int .u64 t306, .int .u64 0, .int .i64 0]) ?_ 2 _ rfl; (with_reducible repeat (first | apply kN | apply kD | apply kA)); refine blk_put (cs := #[.bool t305, .int .u64 0, .int .u64 0, .int .i64 0]) ?_ 1 _ rfl; (with_reducible repeat (first | apply kN | apply kD | apply kA)); refine blk_put (cs := #[.bool false, .int .u64 0, .int .u64 0, .int .i64 0]) ?_ 0 _ rfl; (with_reducible repeat (first | apply kN | apply kD | apply kA)); exact BK310.out⟩
     have n10_ : Aside0 (Below w.heap.size w ((((w122.setCell ⟨gb310, 0, none⟩ (.bool t305)).setCell ⟨gb310, 1, none⟩ (.int .u64 t306)).setCell ⟨gb310, 2, none⟩ (.int .u64 t307)).setCell ⟨gb310, 3, none⟩ (.int .i64 t308))) := ⟨by repeat (first | (with_reducible first | exact HB.out | apply bA | apply bN | apply bD | refine below_set ?_ (by apply Aside0.out; assumption)) | exact HB.out)⟩
     (try clear BK245)
     (try clear BK251)
     (try clear BK257)
     (try clear BK263)
     (try clear BK269)
     (try clear BK277)
     (try clear BK283)
     (try clear BK298)
     (try clear BK304)
     (try clear BK310)
     (try clear HB)
     (try (repeat rw [setCell_drewN_]))
     generalize ((((w122.setCell ⟨gb310, 0, none⟩ (.bool t305)).setCell ⟨gb310, 1, none⟩ (.int .u64 t306)).setCell ⟨gb310, 2, none⟩ (.int .u64 t307)).setCell ⟨gb310, 3, none⟩ (.int .i64 t308)) = w133 at n0_ n1_ n2_ n3_ n4_ n5_ n6_ n7_ n8_ n9_ n10_ ⊢
     have BK245 := n0_
     have BK251 := n1_
     have BK257 := n2_
     have BK263 := n3_
     have BK269 := n4_
     have BK277 := n5_
     have BK283 := n6_
     have BK298 := n7_
     have BK304 := n8_
     have BK310 := n9_
     have HB := n10_
     clear n0_ n1_ n2_ n3_ n4_ n5_ n6_ n7_ n8_ n9_ n10_
     have n0_ := aM (kD BK245.out)
     have n1_ := aM (kD BK251.out)
     have n2_ := aM (kD BK257.out)
     have n3_ := aM (kD BK263.out)
     have n4_ := aM (kD BK269.out)
     have n5_ := aM (kD BK277.out)
     have n6_ := aM (kD BK283.out)
     have n7_ := aM (kD BK298.out)
     have n8_ := aM (kD BK304.out)
     have n9_ := aM (kD BK310.out)
     have n10_ := aM (bD HB.out)
     clear BK245 BK251 BK257 BK263
     clear BK269 BK277 BK283 BK298
     clear BK304 BK310 HB
     have BK245 := n0_
     have BK251 := n1_
     have BK257 := n2_
     have BK263 := n3_
     have BK269 := n4_
     have BK277 := n5_
     have BK283 := n6_
     have BK298 := n7_
     have BK304 := n8_
     have BK310 := n9_
     have HB := n10_
     clear n0_ n1_ n2_ n3_ n4_ n5_ n6_ n7_ n8_ n9_ n10_
     refine start_ (n := 91) (S := fun w' => w'.cell? ⟨gb269, 0, none⟩ = some (.bool t264) ∧ w'.cell? ⟨gb269, 1, none⟩ = some (.int .u64 t265) ∧ w'.cell? ⟨gb269, 2, none⟩ = some (.int .u64 t266) ∧ w'.cell? ⟨gb269, 3, none⟩ = some (.int .i64 t267) ∧ w'.cell? ⟨gb277, 0, none⟩ = some (.bool t272) ∧ w'.cell? ⟨gb277, 1, none⟩ = some (.int .u64 t273) ∧ w'.cell? ⟨gb277, 2, none⟩ = some (.int .u64 t274) ∧ w'.cell? ⟨gb277, 3, none⟩ = some (.int .i64 t275) ∧ w'.cell? ⟨gb283, 0, none⟩ = some (.bool t278) ∧ w'.cell? ⟨gb283, 1, none⟩ = some (.int .u64 t279) ∧ w'.cell? ⟨gb283, 2, none⟩ = some (.int .u64 t280) ∧ w'.cell? ⟨gb283, 3, none⟩ = some (.int .i64 t281) ∧ w'.cell? ⟨gb310, 0, none⟩ = some (.bool t305) ∧ w'.cell? ⟨gb310, 1, none⟩ = some (.int .u64 t306) ∧ w'.cell? ⟨gb310, 2, none⟩ = some (.int .u64 t307) ∧ w'.cell? ⟨gb310, 3, none⟩ = some (.int .i64 t308) ∧ w'.cell? ⟨gb304, 0, none⟩ = some (.bool t299) ∧ w'.cell? ⟨gb304, 1, none⟩ = some (.int .u64 t300) ∧ w'.cell? ⟨gb304, 2, none⟩ = some (.int .u64 t301) ∧ w'.cell? ⟨gb304, 3, none⟩ = some (.int .i64 t302)) (ds := []) #[Nn,Nn,Nn,Nn,Nn,Nn,Nn,Nn,Nn,Nn,Nn,Nn,Nn,Nn,Nn,Nn,Nn,Nn,Nn,Nn,Nn,Nn,Nn,Nn,Nn,Nn,Nn,Nn,Nn,Nn,Nn,Nn,Nn,Nn,Nn,Nn,Nn,Nn,Nn,Nn,Nn,Nn,Nn,Nn,Nn,Nn,Nn,Nn,Nn,Nn,Nn,Nn,Nn,Nn,Nn,Nn,Nn,Nn,Nn,Nn,Nn,Nn,Nn,Nn,Nn,Nn,Nn,Nn,Nn,Nn,Nn,Nn,Nn,Nn,Nn,Nn,Nn,Nn,Nn,Nn,Nn,Nn,Nn,Nn,Nn,Nn,Nn,Nn,Nn,Nn,Nn] (by kernel_rfl) rfl rfl ⟨(kC BK269.out 0).trans rfl, (kC BK269.out 1).trans rfl, (kC BK269.out 2).trans rfl, (kC BK269.out 3).trans rfl, (kC BK277.out 0).trans rfl, (kC BK277.out 1).trans rfl, (kC BK277.out 2).trans rfl, (kC BK277.out 3).trans rfl, (kC BK283.out 0).trans rfl, (kC BK283.out 1).trans rfl, (kC BK283.out 2).trans rfl, (kC BK283.out 3).trans rfl, (kC BK310.out 0).trans rfl, (kC BK310.out 1).trans rfl, (kC BK310.out 2).trans rfl, (kC BK310.out 3).trans rfl, (kC BK304.out 0).trans rfl, (kC BK304.out 1).trans rfl, (kC BK304.out 2).trans rfl, (kC BK304.out 3).trans rfl⟩ (fun hHeld => ?_); refine with_tabW nameplatelaw05_RangesNames.tab16 nameplatelaw05_RangesNames.bits16 (fun HT_ HW_ => ?_)
     generalize w133.drew = w134 at BK245 BK251 BK257 BK263 BK269 BK277 BK283 BK298 BK304 BK310 HB hHeld ⊢
     refine pure_ (i := 0) (N := some 87) (v := ?_) (a' := ?_) #[Yy,Nn,Nn,Nn,Nn,Nn,Nn,Nn,Nn,Nn,Nn,Nn,Nn,Nn,Nn,Nn,Nn,Nn,Nn,Nn,Nn,Nn,Nn,Nn,Nn,Nn,Nn,Nn,Nn,Nn,Nn,Nn,Nn,Nn,Nn,Nn,Nn,Nn,Nn,Nn,Nn,Nn,Nn,Nn,Nn,Nn,Nn,Nn,Nn,Nn,Nn,Nn,Nn,Nn,Nn,Nn,Nn,Nn,Nn,Nn,Nn,Nn,Nn,Nn,Nn,Nn,Nn,Nn,Nn,Nn,Nn,Nn,Nn,Nn,Nn,Nn,Nn,Nn,Nn,Nn,Nn,Nn,Nn,Nn,Nn,Nn,Nn,Nn,Nn,Nn,Nn] rfl rfl (any_of HT_.out (by kernel_rfl)) (fun _ _ _ h => h) (Or.inl ⟨by rfl, ?_⟩) ?_ ?_
     rotate_left
     ·intro w'
      go_simp
      with_reducible rfl
     rotate_left
     ·simp only [Act.put, List.setIfInBounds_toArray, List.set_cons_zero, List.set_cons_succ, i64_w, i32_w]
      rfl
     refine pure_ (i := 1) (N := some 88) (v := ?_) (a' := ?_) #[Yy,Yy,Nn,Nn,Nn,Nn,Nn,Nn,Nn,Nn,Nn,Nn,Nn,Nn,Nn,Nn,Nn,Nn,Nn,Nn,Nn,Nn,Nn,Nn,Nn,Nn,Nn,Nn,Nn,Nn,Nn,Nn,Nn,Nn,Nn,Nn,Nn,Nn,Nn,Nn,Nn,Nn,Nn,Nn,Nn,Nn,Nn,Nn,Nn,Nn,Nn,Nn,Nn,Nn,Nn,Nn,Nn,Nn,Nn,Nn,Nn,Nn,Nn,Nn,Nn,Nn,Nn,Nn,Nn,Nn,Nn,Nn,Nn,Nn,Nn,Nn,Nn,Nn,Nn,Nn,Nn,Nn,Nn,Nn,Nn,Nn,Nn,Nn,Nn,Nn,Nn] rfl rfl (any_of HT_.out (by kernel_rfl)) (fun _ _ _ h => h) (Or.inl ⟨by rfl, ?_⟩) ?_ ?_
     rotate_left
     ·intro w'
      go_simp
      with_reducible rfl
     rotate_left
     ·simp only [Act.put, List.setIfInBounds_toArray, List.set_cons_zero, List.set_cons_succ, i64_w, i32_w]
      rfl
     refine pure_ (i := 2) (N := some 89) (v := ?_) (a' := ?_) #[Yy,Yy,Yy,Nn,Nn,Nn,Nn,Nn,Nn,Nn,Nn,Nn,Nn,Nn,Nn,Nn,Nn,Nn,Nn,Nn,Nn,Nn,Nn,Nn,Nn,Nn,Nn,Nn,Nn,Nn,Nn,Nn,Nn,Nn,Nn,Nn,Nn,Nn,Nn,Nn,Nn,Nn,Nn,Nn,Nn,Nn,Nn,Nn,Nn,Nn,Nn,Nn,Nn,Nn,Nn,Nn,Nn,Nn,Nn,Nn,Nn,Nn,Nn,Nn,Nn,Nn,Nn,Nn,Nn,Nn,Nn,Nn,Nn,Nn,Nn,Nn,Nn,Nn,Nn,Nn,Nn,Nn,Nn,Nn,Nn,Nn,Nn,Nn,Nn,Nn,Nn] rfl rfl (any_of HT_.out (by kernel_rfl)) (fun _ _ _ h => h) (Or.inl ⟨by rfl, ?_⟩) ?_ ?_
     rotate_left
     ·intro w'
      go_simp
      with_reducible rfl
     rotate_left
     ·simp only [Act.put, List.setIfInBounds_toArray, List.set_cons_zero, List.set_cons_succ, i64_w, i32_w]
      rfl
     refine pure_ (i := 3) (N := some 90) (v := ?_) (a' := ?_) #[Yy,Yy,Yy,Yy,Nn,Nn,Nn,Nn,Nn,Nn,Nn,Nn,Nn,Nn,Nn,Nn,Nn,Nn,Nn,Nn,Nn,Nn,Nn,Nn,Nn,Nn,Nn,Nn,Nn,Nn,Nn,Nn,Nn,Nn,Nn,Nn,Nn,Nn,Nn,Nn,Nn,Nn,Nn,Nn,Nn,Nn,Nn,Nn,Nn,Nn,Nn,Nn,Nn,Nn,Nn,Nn,Nn,Nn,Nn,Nn,Nn,Nn,Nn,Nn,Nn,Nn,Nn,Nn,Nn,Nn,Nn,Nn,Nn,Nn,Nn,Nn,Nn,Nn,Nn,Nn,Nn,Nn,Nn,Nn,Nn,Nn,Nn,Nn,Nn,Nn,Nn] rfl rfl (any_of HT_.out (by kernel_rfl)) (fun _ _ _ h => h) (Or.inl ⟨by rfl, ?_⟩) ?_ ?_
     rotate_left
     ·intro w'
      go_simp
      with_reducible rfl
     rotate_left
     ·simp only [Act.put, List.setIfInBounds_toArray, List.set_cons_zero, List.set_cons_succ, i64_w, i32_w]
      rfl
     refine pure_ (i := 4) (N := some 91) (v := ?_) (a' := ?_) #[Yy,Yy,Yy,Yy,Yy,Nn,Nn,Nn,Nn,Nn,Nn,Nn,Nn,Nn,Nn,Nn,Nn,Nn,Nn,Nn,Nn,Nn,Nn,Nn,Nn,Nn,Nn,Nn,Nn,Nn,Nn,Nn,Nn,Nn,Nn,Nn,Nn,Nn,Nn,Nn,Nn,Nn,Nn,Nn,Nn,Nn,Nn,Nn,Nn,Nn,Nn,Nn,Nn,Nn,Nn,Nn,Nn,Nn,Nn,Nn,Nn,Nn,Nn,Nn,Nn,Nn,Nn,Nn,Nn,Nn,Nn,Nn,Nn,Nn,Nn,Nn,Nn,Nn,Nn,Nn,Nn,Nn,Nn,Nn,Nn,Nn,Nn,Nn,Nn,Nn,Nn] rfl rfl (any_of HT_.out (by kernel_rfl)) (fun _ _ _ h => h) (Or.inl ⟨by rfl, ?_⟩) ?_ ?_
     rotate_left
     ·intro w'
      go_simp
      with_reducible rfl
     rotate_left
     ·simp only [Act.put, List.setIfInBounds_toArray, List.set_cons_zero, List.set_cons_succ, i64_w, i32_w]
      rfl
     refine pure_ (i := 5) (N := some 92) (v := ?_) (a' := ?_) #[Yy,Yy,Yy,Yy,Yy,Yy,Nn,Nn,Nn,Nn,Nn,Nn,Nn,Nn,Nn,Nn,Nn,Nn,Nn,Nn,Nn,Nn,Nn,Nn,Nn,Nn,Nn,Nn,Nn,Nn,Nn,Nn,Nn,Nn,Nn,Nn,Nn,Nn,Nn,Nn,Nn,Nn,Nn,Nn,Nn,Nn,Nn,Nn,Nn,Nn,Nn,Nn,Nn,Nn,Nn,Nn,Nn,Nn,Nn,Nn,Nn,Nn,Nn,Nn,Nn,Nn,Nn,Nn,Nn,Nn,Nn,Nn,Nn,Nn,Nn,Nn,Nn,Nn,Nn,Nn,Nn,Nn,Nn,Nn,Nn,Nn,Nn,Nn,Nn,Nn,Nn] rfl rfl (any_of HT_.out (by kernel_rfl)) (fun _ _ _ h => h) (Or.inl ⟨by rfl, ?_⟩) ?_ ?_
     rotate_left
     ·intro w'
      go_simp
      with_reducible rfl
     rotate_left
     ·simp only [Act.put, List.setIfInBounds_toArray, List.set_cons_zero, List.set_cons_succ, i64_w, i32_w]
      rfl
     refine pure_ (i := 6) (N := some 93) (v := ?_) (a' := ?_) #[Yy,Yy,Yy,Yy,Yy,Yy,Yy,Nn,Nn,Nn,Nn,Nn,Nn,Nn,Nn,Nn,Nn,Nn,Nn,Nn,Nn,Nn,Nn,Nn,Nn,Nn,Nn,Nn,Nn,Nn,Nn,Nn,Nn,Nn,Nn,Nn,Nn,Nn,Nn,Nn,Nn,Nn,Nn,Nn,Nn,Nn,Nn,Nn,Nn,Nn,Nn,Nn,Nn,Nn,Nn,Nn,Nn,Nn,Nn,Nn,Nn,Nn,Nn,Nn,Nn,Nn,Nn,Nn,Nn,Nn,Nn,Nn,Nn,Nn,Nn,Nn,Nn,Nn,Nn,Nn,Nn,Nn,Nn,Nn,Nn,Nn,Nn,Nn,Nn,Nn,Nn] rfl rfl (any_of HT_.out (by kernel_rfl)) (fun _ _ _ h => h) (Or.inl ⟨by rfl, ?_⟩) ?_ ?_
     rotate_left
     ·intro w'
      go_simp
      with_reducible rfl
     rotate_left
     ·simp only [Act.put, List.setIfInBounds_toArray, List.set_cons_zero, List.set_cons_succ, i64_w, i32_w]
      rfl
     refine pure_ (i := 7) (N := some 94) (v := ?_) (a' := ?_) #[Yy,Yy,Yy,Yy,Yy,Yy,Yy,Yy,Nn,Nn,Nn,Nn,Nn,Nn,Nn,Nn,Nn,Nn,Nn,Nn,Nn,Nn,Nn,Nn,Nn,Nn,Nn,Nn,Nn,Nn,Nn,Nn,Nn,Nn,Nn,Nn,Nn,Nn,Nn,Nn,Nn,Nn,Nn,Nn,Nn,Nn,Nn,Nn,Nn,Nn,Nn,Nn,Nn,Nn,Nn,Nn,Nn,Nn,Nn,Nn,Nn,Nn,Nn,Nn,Nn,Nn,Nn,Nn,Nn,Nn,Nn,Nn,Nn,Nn,Nn,Nn,Nn,Nn,Nn,Nn,Nn,Nn,Nn,Nn,Nn,Nn,Nn,Nn,Nn,Nn,Nn] rfl rfl (any_of HT_.out (by kernel_rfl)) (fun _ _ _ h => h) (Or.inl ⟨by rfl, ?_⟩) ?_ ?_
     rotate_left
     ·intro w'
      go_simp
      with_reducible rfl
     rotate_left
     ·simp only [Act.put, List.setIfInBounds_toArray, List.set_cons_zero, List.set_cons_succ, i64_w, i32_w]
      rfl
     refine pure_ (i := 8) (N := some 95) (v := ?_) (a' := ?_) #[Yy,Yy,Yy,Yy,Yy,Yy,Yy,Yy,Yy,Nn,Nn,Nn,Nn,Nn,Nn,Nn,Nn,Nn,Nn,Nn,Nn,Nn,Nn,Nn,Nn,Nn,Nn,Nn,Nn,Nn,Nn,Nn,Nn,Nn,Nn,Nn,Nn,Nn,Nn,Nn,Nn,Nn,Nn,Nn,Nn,Nn,Nn,Nn,Nn,Nn,Nn,Nn,Nn,Nn,Nn,Nn,Nn,Nn,Nn,Nn,Nn,Nn,Nn,Nn,Nn,Nn,Nn,Nn,Nn,Nn,Nn,Nn,Nn,Nn,Nn,Nn,Nn,Nn,Nn,Nn,Nn,Nn,Nn,Nn,Nn,Nn,Nn,Nn,Nn,Nn,Nn] rfl rfl (any_of HT_.out (by kernel_rfl)) (fun _ _ _ h => h) (Or.inl ⟨by rfl, ?_⟩) ?_ ?_
     rotate_left
     ·intro w'
      go_simp
      with_reducible rfl
     rotate_left
     ·simp only [Act.put, List.setIfInBounds_toArray, List.set_cons_zero, List.set_cons_succ, i64_w, i32_w]
      rfl
     refine pure_ (i := 9) (N := some 96) (v := ?_) (a' := ?_) #[Yy,Yy,Yy,Yy,Yy,Yy,Yy,Yy,Yy,Yy,Nn,Nn,Nn,Nn,Nn,Nn,Nn,Nn,Nn,Nn,Nn,Nn,Nn,Nn,Nn,Nn,Nn,Nn,Nn,Nn,Nn,Nn,Nn,Nn,Nn,Nn,Nn,Nn,Nn,Nn,Nn,Nn,Nn,Nn,Nn,Nn,Nn,Nn,Nn,Nn,Nn,Nn,Nn,Nn,Nn,Nn,Nn,Nn,Nn,Nn,Nn,Nn,Nn,Nn,Nn,Nn,Nn,Nn,Nn,Nn,Nn,Nn,Nn,Nn,Nn,Nn,Nn,Nn,Nn,Nn,Nn,Nn,Nn,Nn,Nn,Nn,Nn,Nn,Nn,Nn,Nn] rfl rfl (any_of HT_.out (by kernel_rfl)) (fun _ _ _ h => h) (Or.inl ⟨by rfl, ?_⟩) ?_ ?_
     rotate_left
     ·intro w'
      go_simp
      with_reducible rfl
     rotate_left
     ·simp only [Act.put, List.setIfInBounds_toArray, List.set_cons_zero, List.set_cons_succ, i64_w, i32_w]
      rfl
     refine pure_ (i := 10) (N := some 97) (v := ?_) (a' := ?_) #[Yy,Yy,Yy,Yy,Yy,Yy,Yy,Yy,Yy,Yy,Yy,Nn,Nn,Nn,Nn,Nn,Nn,Nn,Nn,Nn,Nn,Nn,Nn,Nn,Nn,Nn,Nn,Nn,Nn,Nn,Nn,Nn,Nn,Nn,Nn,Nn,Nn,Nn,Nn,Nn,Nn,Nn,Nn,Nn,Nn,Nn,Nn,Nn,Nn,Nn,Nn,Nn,Nn,Nn,Nn,Nn,Nn,Nn,Nn,Nn,Nn,Nn,Nn,Nn,Nn,Nn,Nn,Nn,Nn,Nn,Nn,Nn,Nn,Nn,Nn,Nn,Nn,Nn,Nn,Nn,Nn,Nn,Nn,Nn,Nn,Nn,Nn,Nn,Nn,Nn,Nn] rfl rfl (any_of HT_.out (by kernel_rfl)) (fun _ _ _ h => h) (Or.inl ⟨by rfl, ?_⟩) ?_ ?_
     rotate_left
     ·intro w'
      go_simp
      with_reducible rfl
     rotate_left
     ·simp only [Act.put, List.setIfInBounds_toArray, List.set_cons_zero, List.set_cons_succ, i64_w, i32_w]
      rfl
     refine pure_ (i := 11) (N := some 98) (v := ?_) (a' := ?_) #[Yy,Yy,Yy,Yy,Yy,Yy,Yy,Yy,Yy,Yy,Yy,Yy,Nn,Nn,Nn,Nn,Nn,Nn,Nn,Nn,Nn,Nn,Nn,Nn,Nn,Nn,Nn,Nn,Nn,Nn,Nn,Nn,Nn,Nn,Nn,Nn,Nn,Nn,Nn,Nn,Nn,Nn,Nn,Nn,Nn,Nn,Nn,Nn,Nn,Nn,Nn,Nn,Nn,Nn,Nn,Nn,Nn,Nn,Nn,Nn,Nn,Nn,Nn,Nn,Nn,Nn,Nn,Nn,Nn,Nn,Nn,Nn,Nn,Nn,Nn,Nn,Nn,Nn,Nn,Nn,Nn,Nn,Nn,Nn,Nn,Nn,Nn,Nn,Nn,Nn,Nn] rfl rfl (any_of HT_.out (by kernel_rfl)) (fun _ _ _ h => h) (Or.inl ⟨by rfl, ?_⟩) ?_ ?_
     rotate_left
     ·intro w'
      go_simp
      with_reducible rfl
     rotate_left
     ·simp only [Act.put, List.setIfInBounds_toArray, List.set_cons_zero, List.set_cons_succ, i64_w, i32_w]
      rfl
     refine pure_ (i := 12) (N := some 99) (v := ?_) (a' := ?_) #[Yy,Yy,Yy,Yy,Yy,Yy,Yy,Yy,Yy,Yy,Yy,Yy,Yy,Nn,Nn,Nn,Nn,Nn,Nn,Nn,Nn,Nn,Nn,Nn,Nn,Nn,Nn,Nn,Nn,Nn,Nn,Nn,Nn,Nn,Nn,Nn,Nn,Nn,Nn,Nn,Nn,Nn,Nn,Nn,Nn,Nn,Nn,Nn,Nn,Nn,Nn,Nn,Nn,Nn,Nn,Nn,Nn,Nn,Nn,Nn,Nn,Nn,Nn,Nn,Nn,Nn,Nn,Nn,Nn,Nn,Nn,Nn,Nn,Nn,Nn,Nn,Nn,Nn,Nn,Nn,Nn,Nn,Nn,Nn,Nn,Nn,Nn,Nn,Nn,Nn,Nn] rfl rfl (any_of HT_.out (by kernel_rfl)) (fun _ _ _ h => h) (Or.inl ⟨by rfl, ?_⟩) ?_ ?_
     rotate_left
     ·intro w'
      go_simp
      with_reducible rfl
     rotate_left
     ·simp only [Act.put, List.setIfInBounds_toArray, List.set_cons_zero, List.set_cons_succ, i64_w, i32_w]
      rfl
     refine pure_ (i := 13) (N := some 100) (v := ?_) (a' := ?_) #[Yy,Yy,Yy,Yy,Yy,Yy,Yy,Yy,Yy,Yy,Yy,Yy,Yy,Yy,Nn,Nn,Nn,Nn,Nn,Nn,Nn,Nn,Nn,Nn,Nn,Nn,Nn,Nn,Nn,Nn,Nn,Nn,Nn,Nn,Nn,Nn,Nn,Nn,Nn,Nn,Nn,Nn,Nn,Nn,Nn,Nn,Nn,Nn,Nn,Nn,Nn,Nn,Nn,Nn,Nn,Nn,Nn,Nn,Nn,Nn,Nn,Nn,Nn,Nn,Nn,Nn,Nn,Nn,Nn,Nn,Nn,Nn,Nn,Nn,Nn,Nn,Nn,Nn,Nn,Nn,Nn,Nn,Nn,Nn,Nn,Nn,Nn,Nn,Nn,Nn,Nn] rfl rfl (any_of HT_.out (by kernel_rfl)) (fun _ _ _ h => h) (Or.inl ⟨by rfl, ?_⟩) ?_ ?_
     rotate_left
     ·intro w'
      go_simp
      with_reducible rfl
     rotate_left
     ·simp only [Act.put, List.setIfInBounds_toArray, List.set_cons_zero, List.set_cons_succ, i64_w, i32_w]
      rfl
     refine pure_ (i := 14) (N := some 101) (v := ?_) (a' := ?_) #[Yy,Yy,Yy,Yy,Yy,Yy,Yy,Yy,Yy,Yy,Yy,Yy,Yy,Yy,Yy,Nn,Nn,Nn,Nn,Nn,Nn,Nn,Nn,Nn,Nn,Nn,Nn,Nn,Nn,Nn,Nn,Nn,Nn,Nn,Nn,Nn,Nn,Nn,Nn,Nn,Nn,Nn,Nn,Nn,Nn,Nn,Nn,Nn,Nn,Nn,Nn,Nn,Nn,Nn,Nn,Nn,Nn,Nn,Nn,Nn,Nn,Nn,Nn,Nn,Nn,Nn,Nn,Nn,Nn,Nn,Nn,Nn,Nn,Nn,Nn,Nn,Nn,Nn,Nn,Nn,Nn,Nn,Nn,Nn,Nn,Nn,Nn,Nn,Nn,Nn,Nn] rfl rfl (any_of HT_.out (by kernel_rfl)) (fun _ _ _ h => h) (Or.inl ⟨by rfl, ?_⟩) ?_ ?_
     rotate_left
     ·intro w'
      go_simp
      with_reducible rfl
     rotate_left
     ·simp only [Act.put, List.setIfInBounds_toArray, List.set_cons_zero, List.set_cons_succ, i64_w, i32_w]
      rfl
     refine pure_ (i := 15) (N := some 102) (v := ?_) (a' := ?_) #[Yy,Yy,Yy,Yy,Yy,Yy,Yy,Yy,Yy,Yy,Yy,Yy,Yy,Yy,Yy,Yy,Nn,Nn,Nn,Nn,Nn,Nn,Nn,Nn,Nn,Nn,Nn,Nn,Nn,Nn,Nn,Nn,Nn,Nn,Nn,Nn,Nn,Nn,Nn,Nn,Nn,Nn,Nn,Nn,Nn,Nn,Nn,Nn,Nn,Nn,Nn,Nn,Nn,Nn,Nn,Nn,Nn,Nn,Nn,Nn,Nn,Nn,Nn,Nn,Nn,Nn,Nn,Nn,Nn,Nn,Nn,Nn,Nn,Nn,Nn,Nn,Nn,Nn,Nn,Nn,Nn,Nn,Nn,Nn,Nn,Nn,Nn,Nn,Nn,Nn,Nn] rfl rfl (any_of HT_.out (by kernel_rfl)) (fun _ _ _ h => h) (Or.inl ⟨by rfl, ?_⟩) ?_ ?_
     rotate_left
     ·intro w'
      go_simp
      with_reducible rfl
     rotate_left
     ·simp only [Act.put, List.setIfInBounds_toArray, List.set_cons_zero, List.set_cons_succ, i64_w, i32_w]
      rfl
     refine pure_ (i := 16) (N := some 103) (v := ?_) (a' := ?_) #[Yy,Yy,Yy,Yy,Yy,Yy,Yy,Yy,Yy,Yy,Yy,Yy,Yy,Yy,Yy,Yy,Yy,Nn,Nn,Nn,Nn,Nn,Nn,Nn,Nn,Nn,Nn,Nn,Nn,Nn,Nn,Nn,Nn,Nn,Nn,Nn,Nn,Nn,Nn,Nn,Nn,Nn,Nn,Nn,Nn,Nn,Nn,Nn,Nn,Nn,Nn,Nn,Nn,Nn,Nn,Nn,Nn,Nn,Nn,Nn,Nn,Nn,Nn,Nn,Nn,Nn,Nn,Nn,Nn,Nn,Nn,Nn,Nn,Nn,Nn,Nn,Nn,Nn,Nn,Nn,Nn,Nn,Nn,Nn,Nn,Nn,Nn,Nn,Nn,Nn,Nn] rfl rfl (any_of HT_.out (by kernel_rfl)) (fun _ _ _ h => h) (Or.inl ⟨by rfl, ?_⟩) ?_ ?_
     rotate_left
     ·intro w'
      go_simp
      with_reducible rfl
     rotate_left
     ·simp only [Act.put, List.setIfInBounds_toArray, List.set_cons_zero, List.set_cons_succ, i64_w, i32_w]
      rfl
     refine pure_ (i := 17) (N := some 104) (v := ?_) (a' := ?_) #[Yy,Yy,Yy,Yy,Yy,Yy,Yy,Yy,Yy,Yy,Yy,Yy,Yy,Yy,Yy,Yy,Yy,Yy,Nn,Nn,Nn,Nn,Nn,Nn,Nn,Nn,Nn,Nn,Nn,Nn,Nn,Nn,Nn,Nn,Nn,Nn,Nn,Nn,Nn,Nn,Nn,Nn,Nn,Nn,Nn,Nn,Nn,Nn,Nn,Nn,Nn,Nn,Nn,Nn,Nn,Nn,Nn,Nn,Nn,Nn,Nn,Nn,Nn,Nn,Nn,Nn,Nn,Nn,Nn,Nn,Nn,Nn,Nn,Nn,Nn,Nn,Nn,Nn,Nn,Nn,Nn,Nn,Nn,Nn,Nn,Nn,Nn,Nn,Nn,Nn,Nn] rfl rfl (any_of HT_.out (by kernel_rfl)) (fun _ _ _ h => h) (Or.inl ⟨by rfl, ?_⟩) ?_ ?_
     rotate_left
     ·intro w'
      go_simp
      with_reducible rfl
     rotate_left
     ·simp only [Act.put, List.setIfInBounds_toArray, List.set_cons_zero, List.set_cons_succ, i64_w, i32_w]
      rfl
     refine pure_ (i := 18) (N := some 105) (v := ?_) (a' := ?_) #[Yy,Yy,Yy,Yy,Yy,Yy,Yy,Yy,Yy,Yy,Yy,Yy,Yy,Yy,Yy,Yy,Yy,Yy,Yy,Nn,Nn,Nn,Nn,Nn,Nn,Nn,Nn,Nn,Nn,Nn,Nn,Nn,Nn,Nn,Nn,Nn,Nn,Nn,Nn,Nn,Nn,Nn,Nn,Nn,Nn,Nn,Nn,Nn,Nn,Nn,Nn,Nn,Nn,Nn,Nn,Nn,Nn,Nn,Nn,Nn,Nn,Nn,Nn,Nn,Nn,Nn,Nn,Nn,Nn,Nn,Nn,Nn,Nn,Nn,Nn,Nn,Nn,Nn,Nn,Nn,Nn,Nn,Nn,Nn,Nn,Nn,Nn,Nn,Nn,Nn,Nn] rfl rfl (any_of HT_.out (by kernel_rfl)) (fun _ _ _ h => h) (Or.inl ⟨by rfl, ?_⟩) ?_ ?_
     rotate_left
     ·intro w'
      go_simp
      with_reducible rfl
     rotate_left
     ·simp only [Act.put, List.setIfInBounds_toArray, List.set_cons_zero, List.set_cons_succ, i64_w, i32_w]
      rfl
     refine pure_ (i := 19) (N := some 106) (v := ?_) (a' := ?_) #[Yy,Yy,Yy,Yy,Yy,Yy,Yy,Yy,Yy,Yy,Yy,Yy,Yy,Yy,Yy,Yy,Yy,Yy,Yy,Yy,Nn,Nn,Nn,Nn,Nn,Nn,Nn,Nn,Nn,Nn,Nn,Nn,Nn,Nn,Nn,Nn,Nn,Nn,Nn,Nn,Nn,Nn,Nn,Nn,Nn,Nn,Nn,Nn,Nn,Nn,Nn,Nn,Nn,Nn,Nn,Nn,Nn,Nn,Nn,Nn,Nn,Nn,Nn,Nn,Nn,Nn,Nn,Nn,Nn,Nn,Nn,Nn,Nn,Nn,Nn,Nn,Nn,Nn,Nn,Nn,Nn,Nn,Nn,Nn,Nn,Nn,Nn,Nn,Nn,Nn,Nn] rfl rfl (any_of HT_.out (by kernel_rfl)) (fun _ _ _ h => h) (Or.inl ⟨by rfl, ?_⟩) ?_ ?_
     rotate_left
     ·intro w'
      go_simp
      with_reducible rfl
     rotate_left
     ·simp only [Act.put, List.setIfInBounds_toArray, List.set_cons_zero, List.set_cons_succ, i64_w, i32_w]
      rfl
     refine pure_ (i := 20) (N := some 107) (v := ?_) (a' := ?_) #[Yy,Yy,Yy,Yy,Yy,Yy,Yy,Yy,Yy,Yy,Yy,Yy,Yy,Yy,Yy,Yy,Yy,Yy,Yy,Yy,Yy,Nn,Nn,Nn,Nn,Nn,Nn,Nn,Nn,Nn,Nn,Nn,Nn,Nn,Nn,Nn,Nn,Nn,Nn,Nn,Nn,Nn,Nn,Nn,Nn,Nn,Nn,Nn,Nn,Nn,Nn,Nn,Nn,Nn,Nn,Nn,Nn,Nn,Nn,Nn,Nn,Nn,Nn,Nn,Nn,Nn,Nn,Nn,Nn,Nn,Nn,Nn,Nn,Nn,Nn,Nn,Nn,Nn,Nn,Nn,Nn,Nn,Nn,Nn,Nn,Nn,Nn,Nn,Nn,Nn,Nn] rfl rfl (any_of HT_.out (by kernel_rfl)) (fun _ _ _ h => h) (Or.inl ⟨by rfl, ?_⟩) ?_ ?_
     rotate_left
     ·intro w'
      go_simp
      with_reducible rfl
     rotate_left
     ·simp only [Act.put, List.setIfInBounds_toArray, List.set_cons_zero, List.set_cons_succ, i64_w, i32_w]
      rfl
     refine pure_ (i := 21) (N := some 108) (v := ?_) (a' := ?_) #[Yy,Yy,Yy,Yy,Yy,Yy,Yy,Yy,Yy,Yy,Yy,Yy,Yy,Yy,Yy,Yy,Yy,Yy,Yy,Yy,Yy,Yy,Nn,Nn,Nn,Nn,Nn,Nn,Nn,Nn,Nn,Nn,Nn,Nn,Nn,Nn,Nn,Nn,Nn,Nn,Nn,Nn,Nn,Nn,Nn,Nn,Nn,Nn,Nn,Nn,Nn,Nn,Nn,Nn,Nn,Nn,Nn,Nn,Nn,Nn,Nn,Nn,Nn,Nn,Nn,Nn,Nn,Nn,Nn,Nn,Nn,Nn,Nn,Nn,Nn,Nn,Nn,Nn,Nn,Nn,Nn,Nn,Nn,Nn,Nn,Nn,Nn,Nn,Nn,Nn,Nn] rfl rfl (any_of HT_.out (by kernel_rfl)) (fun _ _ _ h => h) (Or.inl ⟨by rfl, ?_⟩) ?_ ?_
     rotate_left
     ·intro w'
      go_simp
      with_reducible rfl
     rotate_left
     ·simp only [Act.put, List.setIfInBounds_toArray, List.set_cons_zero, List.set_cons_succ, i64_w, i32_w]
      rfl
     refine pure_ (i := 22) (N := some 109) (v := ?_) (a' := ?_) #[Yy,Yy,Yy,Yy,Yy,Yy,Yy,Yy,Yy,Yy,Yy,Yy,Yy,Yy,Yy,Yy,Yy,Yy,Yy,Yy,Yy,Yy,Yy,Nn,Nn,Nn,Nn,Nn,Nn,Nn,Nn,Nn,Nn,Nn,Nn,Nn,Nn,Nn,Nn,Nn,Nn,Nn,Nn,Nn,Nn,Nn,Nn,Nn,Nn,Nn,Nn,Nn,Nn,Nn,Nn,Nn,Nn,Nn,Nn,Nn,Nn,Nn,Nn,Nn,Nn,Nn,Nn,Nn,Nn,Nn,Nn,Nn,Nn,Nn,Nn,Nn,Nn,Nn,Nn,Nn,Nn,Nn,Nn,Nn,Nn,Nn,Nn,Nn,Nn,Nn,Nn] rfl rfl (any_of HT_.out (by kernel_rfl)) (fun _ _ _ h => h) (Or.inl ⟨by rfl, ?_⟩) ?_ ?_
     rotate_left
     ·intro w'
      go_simp
      with_reducible rfl
     rotate_left
     ·simp only [Act.put, List.setIfInBounds_toArray, List.set_cons_zero, List.set_cons_succ, i64_w, i32_w]
      rfl
     refine take_ (i := 23) (N := some 110) (v := ?_) (a' := ?_) #[Yy,Yy,Yy,Yy,Yy,Yy,Yy,Yy,Yy,Yy,Yy,Yy,Yy,Yy,Yy,Yy,Yy,Yy,Yy,Yy,Yy,Yy,Yy,Yy,Nn,Nn,Nn,Nn,Nn,Nn,Nn,Nn,Nn,Nn,Nn,Nn,Nn,Nn,Nn,Nn,Nn,Nn,Nn,Nn,Nn,Nn,Nn,Nn,Nn,Nn,Nn,Nn,Nn,Nn,Nn,Nn,Nn,Nn,Nn,Nn,Nn,Nn,Nn,Nn,Nn,Nn,Nn,Nn,Nn,Nn,Nn,Nn,Nn,Nn,Nn,Nn,Nn,Nn,Nn,Nn,Nn,Nn,Nn,Nn,Nn,Nn,Nn,Nn,Nn,Nn,Nn] rfl rfl (take_ofW HT_.out HW_.out (by kernel_rfl)) (fun _ _ _ h => h) (Or.inl ⟨by rfl, ?_⟩) hHeld ?_ ?_
     rotate_left
     ·rintro w' ⟨s0, s1, s2, s3, s4, s5, s6, s7, s8, s9, s10, s11, s12, s13, s14, s15, s16, s17, s18, s19⟩
      go_simp
      with_reducible rfl
     rotate_left
     ·simp only [Act.put, List.setIfInBounds_toArray, List.set_cons_zero, List.set_cons_succ, i64_w, i32_w]
      rfl
     refine one_ (i := 24) (N := some 111) #[Yy,Yy,Yy,Yy,Yy,Yy,Yy,Yy,Yy,Yy,Yy,Yy,Yy,Yy,Yy,Yy,Yy,Yy,Yy,Yy,Yy,Yy,Yy,Yy,Yy,Nn,Nn,Nn,Nn,Nn,Nn,Nn,Nn,Nn,Nn,Nn,Nn,Nn,Nn,Nn,Nn,Nn,Nn,Nn,Nn,Nn,Nn,Nn,Nn,Nn,Nn,Nn,Nn,Nn,Nn,Nn,Nn,Nn,Nn,Nn,Nn,Nn,Nn,Nn,Nn,Nn,Nn,Nn,Nn,Nn,Nn,Nn,Nn,Nn,Nn,Nn,Nn,Nn,Nn,Nn,Nn,Nn,Nn,Nn,Nn,Nn,Nn,Nn,Nn,Nn,Nn] rfl rfl (one_of HT_.out (by kernel_rfl)) (by decide) (fun K hK => ?_)
     refine goes_ Tryz.func12 (by kernel_rfl) rfl #[.agg #[.bool t264, .int .u64 t265, .int .u64 t266, .int .i64 t267]] (by rfl) rfl rfl (by (try simp only [List.map_toArray, List.map_cons, List.map_nil]); first | done | rfl | (simp only [List.length_drop, List.length_take]; rfl)) ?_
     with_reducible refine (ranges_Size.calls t264 t265 t266 t267 t311 _ A24.out).mono ?_
     rintro e w135 ⟨rfl, hb⟩
     refine ⟨_, rfl, ?_⟩
     have n0_ := aM (blk_below (o := .cells #[.bool t240, .int .u64 t241, .int .u64 t242, .int .i64 t243] 26 (0, 0)) (by (with_reducible repeat (first | apply kN | apply kD | apply kA)); exact BK245.out) hb)
     have n1_ := aM (blk_below (o := .cells #[.bool t246, .int .u64 t247, .int .u64 t248, .int .i64 t249] 26 (0, 0)) (by (with_reducible repeat (first | apply kN | apply kD | apply kA)); exact BK251.out) hb)
     have n2_ := aM (blk_below (o := .cells #[.bool t252, .int .u64 t253, .int .u64 t254, .int .i64 t255] 26 (0, 0)) (by (with_reducible repeat (first | apply kN | apply kD | apply kA)); exact BK257.out) hb)
     have n3_ := aM (blk_below (o := .cells #[.bool t258, .int .u64 t259, .int .u64 t260, .int .i64 t261] 26 (0, 0)) (by (with_reducible repeat (first | apply kN | apply kD | apply kA)); exact BK263.out) hb)
     have n4_ := aM (blk_below (o := .cells #[.bool t264, .int .u64 t265, .int .u64 t266, .int .i64 t267] 26 (0, 0)) (by (with_reducible repeat (first | apply kN | apply kD | apply kA)); exact BK269.out) hb)
     have n5_ := aM (blk_below (o := .cells #[.bool t272, .int .u64 t273, .int .u64 t274, .int .i64 t275] 26 (0, 0)) (by (with_reducible repeat (first | apply kN | apply kD | apply kA)); exact BK277.out) hb)
     have n6_ := aM (blk_below (o := .cells #[.bool t278, .int .u64 t279, .int .u64 t280, .int .i64 t281] 26 (0, 0)) (by (with_reducible repeat (first | apply kN | apply kD | apply kA)); exact BK283.out) hb)
     have n7_ := aM (blk_below (o := .cells #[.bool t294, .int .u64 t295, .int .u64 t296] 24 (0, 0)) (by (with_reducible repeat (first | apply kN | apply kD | apply kA)); exact BK298.out) hb)
     have n8_ := aM (blk_below (o := .cells #[.bool t299, .int .u64 t300, .int .u64 t301, .int .i64 t302] 26 (0, 0)) (by (with_reducible repeat (first | apply kN | apply kD | apply kA)); exact BK304.out) hb)
     have n9_ := aM (blk_below (o := .cells #[.bool t305, .int .u64 t306, .int .u64 t307, .int .i64 t308] 26 (0, 0)) (by (with_reducible repeat (first | apply kN | apply kD | apply kA)); exact BK310.out) hb)
     have n10_ := aM (below_step (by repeat (first | (with_reducible first | exact HB.out | apply bA | apply bN | apply bD | refine below_set ?_ (by apply Aside0.out; assumption)) | exact HB.out)) hb)
     clear BK245 BK251 BK257 BK263
     clear BK269 BK277 BK283 BK298
     clear BK304 BK310 HB
     have BK245 := n0_
     have BK251 := n1_
     have BK257 := n2_
     have BK263 := n3_
     have BK269 := n4_
     have BK277 := n5_
     have BK283 := n6_
     have BK298 := n7_
     have BK304 := n8_
     have BK310 := n9_
     have HB := n10_
     clear n0_ n1_ n2_ n3_ n4_ n5_ n6_ n7_ n8_ n9_ n10_
     (try clear hb)
     (try clear hb2)
     (try clear hk)
     (try clear hi)
     refine hK.out _ _ ⟨(kC BK269.out 0).trans rfl, (kC BK269.out 1).trans rfl, (kC BK269.out 2).trans rfl, (kC BK269.out 3).trans rfl, (kC BK277.out 0).trans rfl, (kC BK277.out 1).trans rfl, (kC BK277.out 2).trans rfl, (kC BK277.out 3).trans rfl, (kC BK283.out 0).trans rfl, (kC BK283.out 1).trans rfl, (kC BK283.out 2).trans rfl, (kC BK283.out 3).trans rfl, (kC BK310.out 0).trans rfl, (kC BK310.out 1).trans rfl, (kC BK310.out 2).trans rfl, (kC BK310.out 3).trans rfl, (kC BK304.out 0).trans rfl, (kC BK304.out 1).trans rfl, (kC BK304.out 2).trans rfl, (kC BK304.out 3).trans rfl⟩ (fun hHeld => ?_)
     clear hK K
     refine norm_ (a' := ?_) ?_ ?_
     rotate_left
     ·show Act.put _ (some 111) _ = _
      simp only [Act.put, List.setIfInBounds_toArray, List.set_cons_zero, List.set_cons_succ, i64_w, i32_w]
      rfl
     refine pure_ (i := 25) (N := some 112) (v := ?_) (a' := ?_) #[Yy,Yy,Yy,Yy,Yy,Yy,Yy,Yy,Yy,Yy,Yy,Yy,Yy,Yy,Yy,Yy,Yy,Yy,Yy,Yy,Yy,Yy,Yy,Yy,Yy,Yy,Nn,Nn,Nn,Nn,Nn,Nn,Nn,Nn,Nn,Nn,Nn,Nn,Nn,Nn,Nn,Nn,Nn,Nn,Nn,Nn,Nn,Nn,Nn,Nn,Nn,Nn,Nn,Nn,Nn,Nn,Nn,Nn,Nn,Nn,Nn,Nn,Nn,Nn,Nn,Nn,Nn,Nn,Nn,Nn,Nn,Nn,Nn,Nn,Nn,Nn,Nn,Nn,Nn,Nn,Nn,Nn,Nn,Nn,Nn,Nn,Nn,Nn,Nn,Nn,Nn] rfl rfl (any_of HT_.out (by kernel_rfl)) (fun _ _ _ h => h) (Or.inl ⟨by rfl, ?_⟩) ?_ ?_
     rotate_left
     ·intro w'
      go_simp
      with_reducible rfl
     rotate_left
     ·simp only [Act.put, List.setIfInBounds_toArray, List.set_cons_zero, List.set_cons_succ, i64_w, i32_w]
      rfl
     refine pure_ (i := 26) (N := some 113) (v := ?_) (a' := ?_) #[Yy,Yy,Yy,Yy,Yy,Yy,Yy,Yy,Yy,Yy,Yy,Yy,Yy,Yy,Yy,Yy,Yy,Yy,Yy,Yy,Yy,Yy,Yy,Yy,Yy,Yy,Yy,Nn,Nn,Nn,Nn,Nn,Nn,Nn,Nn,Nn,Nn,Nn,Nn,Nn,Nn,Nn,Nn,Nn,Nn,Nn,Nn,Nn,Nn,Nn,Nn,Nn,Nn,Nn,Nn,Nn,Nn,Nn,Nn,Nn,Nn,Nn,Nn,Nn,Nn,Nn,Nn,Nn,Nn,Nn,Nn,Nn,Nn,Nn,Nn,Nn,Nn,Nn,Nn,Nn,Nn,Nn,Nn,Nn,Nn,Nn,Nn,Nn,Nn,Nn,Nn] rfl rfl (any_of HT_.out (by kernel_rfl)) (fun _ _ _ h => h) (Or.inl ⟨by rfl, ?_⟩) ?_ ?_
     rotate_left
     ·intro w'
      go_simp
      with_reducible rfl
     rotate_left
     ·simp only [Act.put, List.setIfInBounds_toArray, List.set_cons_zero, List.set_cons_succ, i64_w, i32_w]
      rfl
     refine pure_ (i := 27) (N := some 114) (v := ?_) (a' := ?_) #[Yy,Yy,Yy,Yy,Yy,Yy,Yy,Yy,Yy,Yy,Yy,Yy,Yy,Yy,Yy,Yy,Yy,Yy,Yy,Yy,Yy,Yy,Yy,Yy,Yy,Yy,Yy,Yy,Nn,Nn,Nn,Nn,Nn,Nn,Nn,Nn,Nn,Nn,Nn,Nn,Nn,Nn,Nn,Nn,Nn,Nn,Nn,Nn,Nn,Nn,Nn,Nn,Nn,Nn,Nn,Nn,Nn,Nn,Nn,Nn,Nn,Nn,Nn,Nn,Nn,Nn,Nn,Nn,Nn,Nn,Nn,Nn,Nn,Nn,Nn,Nn,Nn,Nn,Nn,Nn,Nn,Nn,Nn,Nn,Nn,Nn,Nn,Nn,Nn,Nn,Nn] rfl rfl (any_of HT_.out (by kernel_rfl)) (fun _ _ _ h => h) (Or.inl ⟨by rfl, ?_⟩) ?_ ?_
     rotate_left
     ·intro w'
      go_simp
      with_reducible rfl
     rotate_left
     ·simp only [Act.put, List.setIfInBounds_toArray, List.set_cons_zero, List.set_cons_succ, i64_w, i32_w]
      rfl
     refine pure_ (i := 28) (N := some 115) (v := ?_) (a' := ?_) #[Yy,Yy,Yy,Yy,Yy,Yy,Yy,Yy,Yy,Yy,Yy,Yy,Yy,Yy,Yy,Yy,Yy,Yy,Yy,Yy,Yy,Yy,Yy,Yy,Yy,Yy,Yy,Yy,Yy,Nn,Nn,Nn,Nn,Nn,Nn,Nn,Nn,Nn,Nn,Nn,Nn,Nn,Nn,Nn,Nn,Nn,Nn,Nn,Nn,Nn,Nn,Nn,Nn,Nn,Nn,Nn,Nn,Nn,Nn,Nn,Nn,Nn,Nn,Nn,Nn,Nn,Nn,Nn,Nn,Nn,Nn,Nn,Nn,Nn,Nn,Nn,Nn,Nn,Nn,Nn,Nn,Nn,Nn,Nn,Nn,Nn,Nn,Nn,Nn,Nn,Nn] rfl rfl (any_of HT_.out (by kernel_rfl)) (fun _ _ _ h => h) (Or.inl ⟨by rfl, ?_⟩) ?_ ?_
     rotate_left
     ·intro w'
      go_simp
      with_reducible rfl
     rotate_left
     ·simp only [Act.put, List.setIfInBounds_toArray, List.set_cons_zero, List.set_cons_succ, i64_w, i32_w]
      rfl
     refine pure_ (i := 29) (N := some 116) (v := ?_) (a' := ?_) #[Yy,Yy,Yy,Yy,Yy,Yy,Yy,Yy,Yy,Yy,Yy,Yy,Yy,Yy,Yy,Yy,Yy,Yy,Yy,Yy,Yy,Yy,Yy,Yy,Yy,Yy,Yy,Yy,Yy,Yy,Nn,Nn,Nn,Nn,Nn,Nn,Nn,Nn,Nn,Nn,Nn,Nn,Nn,Nn,Nn,Nn,Nn,Nn,Nn,Nn,Nn,Nn,Nn,Nn,Nn,Nn,Nn,Nn,Nn,Nn,Nn,Nn,Nn,Nn,Nn,Nn,Nn,Nn,Nn,Nn,Nn,Nn,Nn,Nn,Nn,Nn,Nn,Nn,Nn,Nn,Nn,Nn,Nn,Nn,Nn,Nn,Nn,Nn,Nn,Nn,Nn] rfl rfl (any_of HT_.out (by kernel_rfl)) (fun _ _ _ h => h) (Or.inl ⟨by rfl, ?_⟩) ?_ ?_
     rotate_left
     ·intro w'
      go_simp
      with_reducible rfl
     rotate_left
     ·simp only [Act.put, List.setIfInBounds_toArray, List.set_cons_zero, List.set_cons_succ, i64_w, i32_w]
      rfl
     refine pure_ (i := 30) (N := some 117) (v := ?_) (a' := ?_) #[Yy,Yy,Yy,Yy,Yy,Yy,Yy,Yy,Yy,Yy,Yy,Yy,Yy,Yy,Yy,Yy,Yy,Yy,Yy,Yy,Yy,Yy,Yy,Yy,Yy,Yy,Yy,Yy,Yy,Yy,Yy,Nn,Nn,Nn,Nn,Nn,Nn,Nn,Nn,Nn,Nn,Nn,Nn,Nn,Nn,Nn,Nn,Nn,Nn,Nn,Nn,Nn,Nn,Nn,Nn,Nn,Nn,Nn,Nn,Nn,Nn,Nn,Nn,Nn,Nn,Nn,Nn,Nn,Nn,Nn,Nn,Nn,Nn,Nn,Nn,Nn,Nn,Nn,Nn,Nn,Nn,Nn,Nn,Nn,Nn,Nn,Nn,Nn,Nn,Nn,Nn] rfl rfl (any_of HT_.out (by kernel_rfl)) (fun _ _ _ h => h) (Or.inl ⟨by rfl, ?_⟩) ?_ ?_
     rotate_left
     ·intro w'
      go_simp
      with_reducible rfl
     rotate_left
     ·simp only [Act.put, List.setIfInBounds_toArray, List.set_cons_zero, List.set_cons_succ, i64_w, i32_w]
      rfl
     refine pure_ (i := 31) (N := some 118) (v := ?_) (a' := ?_) #[Yy,Yy,Yy,Yy,Yy,Yy,Yy,Yy,Yy,Yy,Yy,Yy,Yy,Yy,Yy,Yy,Yy,Yy,Yy,Yy,Yy,Yy,Yy,Yy,Yy,Yy,Yy,Yy,Yy,Yy,Yy,Yy,Nn,Nn,Nn,Nn,Nn,Nn,Nn,Nn,Nn,Nn,Nn,Nn,Nn,Nn,Nn,Nn,Nn,Nn,Nn,Nn,Nn,Nn,Nn,Nn,Nn,Nn,Nn,Nn,Nn,Nn,Nn,Nn,Nn,Nn,Nn,Nn,Nn,Nn,Nn,Nn,Nn,Nn,Nn,Nn,Nn,Nn,Nn,Nn,Nn,Nn,Nn,Nn,Nn,Nn,Nn,Nn,Nn,Nn,Nn] rfl rfl (any_of HT_.out (by kernel_rfl)) (fun _ _ _ h => h) (Or.inl ⟨by rfl, ?_⟩) ?_ ?_
     rotate_left
     ·intro w'
      go_simp
      with_reducible rfl
     rotate_left
     ·simp only [Act.put, List.setIfInBounds_toArray, List.set_cons_zero, List.set_cons_succ, i64_w, i32_w]
      rfl
     refine take_ (i := 32) (N := some 119) (v := ?_) (a' := ?_) #[Yy,Yy,Yy,Yy,Yy,Yy,Yy,Yy,Yy,Yy,Yy,Yy,Yy,Yy,Yy,Yy,Yy,Yy,Yy,Yy,Yy,Yy,Yy,Yy,Yy,Yy,Yy,Yy,Yy,Yy,Yy,Yy,Yy,Nn,Nn,Nn,Nn,Nn,Nn,Nn,Nn,Nn,Nn,Nn,Nn,Nn,Nn,Nn,Nn,Nn,Nn,Nn,Nn,Nn,Nn,Nn,Nn,Nn,Nn,Nn,Nn,Nn,Nn,Nn,Nn,Nn,Nn,Nn,Nn,Nn,Nn,Nn,Nn,Nn,Nn,Nn,Nn,Nn,Nn,Nn,Nn,Nn,Nn,Nn,Nn,Nn,Nn,Nn,Nn,Nn,Nn] rfl rfl (take_ofW HT_.out HW_.out (by kernel_rfl)) (fun _ _ _ h => h) (Or.inl ⟨by rfl, ?_⟩) hHeld ?_ ?_
     rotate_left
     ·rintro w' ⟨s0, s1, s2, s3, s4, s5, s6, s7, s8, s9, s10, s11, s12, s13, s14, s15, s16, s17, s18, s19⟩
      go_simp
      with_reducible rfl
     rotate_left
     ·simp only [Act.put, List.setIfInBounds_toArray, List.set_cons_zero, List.set_cons_succ, i64_w, i32_w]
      rfl
     refine one_ (i := 33) (N := some 120) #[Yy,Yy,Yy,Yy,Yy,Yy,Yy,Yy,Yy,Yy,Yy,Yy,Yy,Yy,Yy,Yy,Yy,Yy,Yy,Yy,Yy,Yy,Yy,Yy,Yy,Yy,Yy,Yy,Yy,Yy,Yy,Yy,Yy,Yy,Nn,Nn,Nn,Nn,Nn,Nn,Nn,Nn,Nn,Nn,Nn,Nn,Nn,Nn,Nn,Nn,Nn,Nn,Nn,Nn,Nn,Nn,Nn,Nn,Nn,Nn,Nn,Nn,Nn,Nn,Nn,Nn,Nn,Nn,Nn,Nn,Nn,Nn,Nn,Nn,Nn,Nn,Nn,Nn,Nn,Nn,Nn,Nn,Nn,Nn,Nn,Nn,Nn,Nn,Nn,Nn,Nn] rfl rfl (one_of HT_.out (by kernel_rfl)) (by decide) (fun K hK => ?_)
     refine goes_ Tryz.func12 (by kernel_rfl) rfl #[.agg #[.bool t272, .int .u64 t273, .int .u64 t274, .int .i64 t275]] (by rfl) rfl rfl (by (try simp only [List.map_toArray, List.map_cons, List.map_nil]); first | done | rfl | (simp only [List.length_drop, List.length_take]; rfl)) ?_
     with_reducible refine (ranges_Size.calls t272 t273 t274 t275 t312 _ A27.out).mono ?_
     rintro e w136 ⟨rfl, hb⟩
     refine ⟨_, rfl, ?_⟩
     have n0_ := aM (blk_below (o := .cells #[.bool t240, .int .u64 t241, .int .u64 t242, .int .i64 t243] 26 (0, 0)) (by (with_reducible repeat (first | apply kN | apply kD | apply kA)); exact BK245.out) hb)
     have n1_ := aM (blk_below (o := .cells #[.bool t246, .int .u64 t247, .int .u64 t248, .int .i64 t249] 26 (0, 0)) (by (with_reducible repeat (first | apply kN | apply kD | apply kA)); exact BK251.out) hb)
     have n2_ := aM (blk_below (o := .cells #[.bool t252, .int .u64 t253, .int .u64 t254, .int .i64 t255] 26 (0, 0)) (by (with_reducible repeat (first | apply kN | apply kD | apply kA)); exact BK257.out) hb)
     have n3_ := aM (blk_below (o := .cells #[.bool t258, .int .u64 t259, .int .u64 t260, .int .i64 t261] 26 (0, 0)) (by (with_reducible repeat (first | apply kN | apply kD | apply kA)); exact BK263.out) hb)
     have n4_ := aM (blk_below (o := .cells #[.bool t264, .int .u64 t265, .int .u64 t266, .int .i64 t267] 26 (0, 0)) (by (with_reducible repeat (first | apply kN | apply kD | apply kA)); exact BK269.out) hb)
     have n5_ := aM (blk_below (o := .cells #[.bool t272, .int .u64 t273, .int .u64 t274, .int .i64 t275] 26 (0, 0)) (by (with_reducible repeat (first | apply kN | apply kD | apply kA)); exact BK277.out) hb)
     have n6_ := aM (blk_below (o := .cells #[.bool t278, .int .u64 t279, .int .u64 t280, .int .i64 t281] 26 (0, 0)) (by (with_reducible repeat (first | apply kN | apply kD | apply kA)); exact BK283.out) hb)
     have n7_ := aM (blk_below (o := .cells #[.bool t294, .int .u64 t295, .int .u64 t296] 24 (0, 0)) (by (with_reducible repeat (first | apply kN | apply kD | apply kA)); exact BK298.out) hb)
     have n8_ := aM (blk_below (o := .cells #[.bool t299, .int .u64 t300, .int .u64 t301, .int .i64 t302] 26 (0, 0)) (by (with_reducible repeat (first | apply kN | apply kD | apply kA)); exact BK304.out) hb)
     have n9_ := aM (blk_below (o := .cells #[.bool t305, .int .u64 t306, .int .u64 t307, .int .i64 t308] 26 (0, 0)) (by (with_reducible repeat (first | apply kN | apply kD | apply kA)); exact BK310.out) hb)
     have n10_ := aM (below_step (by repeat (first | (with_reducible first | exact HB.out | apply bA | apply bN | apply bD | refine below_set ?_ (by apply Aside0.out; assumption)) | exact HB.out)) hb)
     clear BK245 BK251 BK257 BK263
     clear BK269 BK277 BK283 BK298
     clear BK304 BK310 HB
     have BK245 := n0_
     have BK251 := n1_
     have BK257 := n2_
     have BK263 := n3_
     have BK269 := n4_
     have BK277 := n5_
     have BK283 := n6_
     have BK298 := n7_
     have BK304 := n8_
     have BK310 := n9_
     have HB := n10_
     clear n0_ n1_ n2_ n3_ n4_ n5_ n6_ n7_ n8_ n9_ n10_
     (try clear hb)
     (try clear hb2)
     (try clear hk)
     (try clear hi)
     refine hK.out _ _ ⟨(kC BK269.out 0).trans rfl, (kC BK269.out 1).trans rfl, (kC BK269.out 2).trans rfl, (kC BK269.out 3).trans rfl, (kC BK277.out 0).trans rfl, (kC BK277.out 1).trans rfl, (kC BK277.out 2).trans rfl, (kC BK277.out 3).trans rfl, (kC BK283.out 0).trans rfl, (kC BK283.out 1).trans rfl, (kC BK283.out 2).trans rfl, (kC BK283.out 3).trans rfl, (kC BK310.out 0).trans rfl, (kC BK310.out 1).trans rfl, (kC BK310.out 2).trans rfl, (kC BK310.out 3).trans rfl, (kC BK304.out 0).trans rfl, (kC BK304.out 1).trans rfl, (kC BK304.out 2).trans rfl, (kC BK304.out 3).trans rfl⟩ (fun hHeld => ?_)
     clear hK K
     refine norm_ (a' := ?_) ?_ ?_
     rotate_left
     ·show Act.put _ (some 120) _ = _
      simp only [Act.put, List.setIfInBounds_toArray, List.set_cons_zero, List.set_cons_succ, i64_w, i32_w]
      rfl
     refine pure_ (i := 34) (N := some 121) (v := ?_) (a' := ?_) #[Yy,Yy,Yy,Yy,Yy,Yy,Yy,Yy,Yy,Yy,Yy,Yy,Yy,Yy,Yy,Yy,Yy,Yy,Yy,Yy,Yy,Yy,Yy,Yy,Yy,Yy,Yy,Yy,Yy,Yy,Yy,Yy,Yy,Yy,Yy,Nn,Nn,Nn,Nn,Nn,Nn,Nn,Nn,Nn,Nn,Nn,Nn,Nn,Nn,Nn,Nn,Nn,Nn,Nn,Nn,Nn,Nn,Nn,Nn,Nn,Nn,Nn,Nn,Nn,Nn,Nn,Nn,Nn,Nn,Nn,Nn,Nn,Nn,Nn,Nn,Nn,Nn,Nn,Nn,Nn,Nn,Nn,Nn,Nn,Nn,Nn,Nn,Nn,Nn,Nn,Nn] rfl rfl (any_of HT_.out (by kernel_rfl)) (fun _ _ _ h => h) (Or.inl ⟨by rfl, ?_⟩) ?_ ?_
     rotate_left
     ·intro w'
      go_simp
      with_reducible rfl
     rotate_left
     ·simp only [Act.put, List.setIfInBounds_toArray, List.set_cons_zero, List.set_cons_succ, i64_w, i32_w]
      rfl
     refine pure_ (i := 35) (N := some 122) (v := ?_) (a' := ?_) #[Yy,Yy,Yy,Yy,Yy,Yy,Yy,Yy,Yy,Yy,Yy,Yy,Yy,Yy,Yy,Yy,Yy,Yy,Yy,Yy,Yy,Yy,Yy,Yy,Yy,Yy,Yy,Yy,Yy,Yy,Yy,Yy,Yy,Yy,Yy,Yy,Nn,Nn,Nn,Nn,Nn,Nn,Nn,Nn,Nn,Nn,Nn,Nn,Nn,Nn,Nn,Nn,Nn,Nn,Nn,Nn,Nn,Nn,Nn,Nn,Nn,Nn,Nn,Nn,Nn,Nn,Nn,Nn,Nn,Nn,Nn,Nn,Nn,Nn,Nn,Nn,Nn,Nn,Nn,Nn,Nn,Nn,Nn,Nn,Nn,Nn,Nn,Nn,Nn,Nn,Nn] rfl rfl (any_of HT_.out (by kernel_rfl)) (fun _ _ _ h => h) (Or.inl ⟨by rfl, ?_⟩) ?_ ?_
     rotate_left
     ·intro w'
      go_simp
      with_reducible rfl
     rotate_left
     ·simp only [Act.put, List.setIfInBounds_toArray, List.set_cons_zero, List.set_cons_succ, i64_w, i32_w]
      rfl
     refine pure_ (i := 36) (N := some 123) (v := ?_) (a' := ?_) #[Yy,Yy,Yy,Yy,Yy,Yy,Yy,Yy,Yy,Yy,Yy,Yy,Yy,Yy,Yy,Yy,Yy,Yy,Yy,Yy,Yy,Yy,Yy,Yy,Yy,Yy,Yy,Yy,Yy,Yy,Yy,Yy,Yy,Yy,Yy,Yy,Yy,Nn,Nn,Nn,Nn,Nn,Nn,Nn,Nn,Nn,Nn,Nn,Nn,Nn,Nn,Nn,Nn,Nn,Nn,Nn,Nn,Nn,Nn,Nn,Nn,Nn,Nn,Nn,Nn,Nn,Nn,Nn,Nn,Nn,Nn,Nn,Nn,Nn,Nn,Nn,Nn,Nn,Nn,Nn,Nn,Nn,Nn,Nn,Nn,Nn,Nn,Nn,Nn,Nn,Nn] rfl rfl (any_of HT_.out (by kernel_rfl)) (fun _ _ _ h => h) (Or.inl ⟨by rfl, ?_⟩) ?_ ?_
     rotate_left
     ·intro w'
      go_simp
      with_reducible rfl
     rotate_left
     ·simp only [Act.put, List.setIfInBounds_toArray, List.set_cons_zero, List.set_cons_succ, i64_w, i32_w]
      rfl
     refine take_ (i := 37) (N := some 124) (v := ?_) (a' := ?_) #[Yy,Yy,Yy,Yy,Yy,Yy,Yy,Yy,Yy,Yy,Yy,Yy,Yy,Yy,Yy,Yy,Yy,Yy,Yy,Yy,Yy,Yy,Yy,Yy,Yy,Yy,Yy,Yy,Yy,Yy,Yy,Yy,Yy,Yy,Yy,Yy,Yy,Yy,Nn,Nn,Nn,Nn,Nn,Nn,Nn,Nn,Nn,Nn,Nn,Nn,Nn,Nn,Nn,Nn,Nn,Nn,Nn,Nn,Nn,Nn,Nn,Nn,Nn,Nn,Nn,Nn,Nn,Nn,Nn,Nn,Nn,Nn,Nn,Nn,Nn,Nn,Nn,Nn,Nn,Nn,Nn,Nn,Nn,Nn,Nn,Nn,Nn,Nn,Nn,Nn,Nn] rfl rfl (take_ofW HT_.out HW_.out (by kernel_rfl)) (fun _ _ _ h => h) (Or.inl ⟨by rfl, ?_⟩) hHeld ?_ ?_
     rotate_left
     ·rintro w' ⟨s0, s1, s2, s3, s4, s5, s6, s7, s8, s9, s10, s11, s12, s13, s14, s15, s16, s17, s18, s19⟩
      go_simp
      with_reducible rfl
     rotate_left
     ·simp only [Act.put, List.setIfInBounds_toArray, List.set_cons_zero, List.set_cons_succ, i64_w, i32_w]
      rfl
     refine take_ (i := 38) (N := some 125) (v := ?_) (a' := ?_) #[Yy,Yy,Yy,Yy,Yy,Yy,Yy,Yy,Yy,Yy,Yy,Yy,Yy,Yy,Yy,Yy,Yy,Yy,Yy,Yy,Yy,Yy,Yy,Yy,Yy,Yy,Yy,Yy,Yy,Yy,Yy,Yy,Yy,Yy,Yy,Yy,Yy,Yy,Yy,Nn,Nn,Nn,Nn,Nn,Nn,Nn,Nn,Nn,Nn,Nn,Nn,Nn,Nn,Nn,Nn,Nn,Nn,Nn,Nn,Nn,Nn,Nn,Nn,Nn,Nn,Nn,Nn,Nn,Nn,Nn,Nn,Nn,Nn,Nn,Nn,Nn,Nn,Nn,Nn,Nn,Nn,Nn,Nn,Nn,Nn,Nn,Nn,Nn,Nn,Nn,Nn] rfl rfl (take_ofW HT_.out HW_.out (by kernel_rfl)) (fun _ _ _ h => h) (Or.inl ⟨by rfl, ?_⟩) hHeld ?_ ?_
     rotate_left
     ·rintro w' ⟨s0, s1, s2, s3, s4, s5, s6, s7, s8, s9, s10, s11, s12, s13, s14, s15, s16, s17, s18, s19⟩
      go_simp
      with_reducible rfl
     rotate_left
     ·simp only [Act.put, List.setIfInBounds_toArray, List.set_cons_zero, List.set_cons_succ, i64_w, i32_w]
      rfl
     refine one_ (i := 39) (N := some 126) #[Yy,Yy,Yy,Yy,Yy,Yy,Yy,Yy,Yy,Yy,Yy,Yy,Yy,Yy,Yy,Yy,Yy,Yy,Yy,Yy,Yy,Yy,Yy,Yy,Yy,Yy,Yy,Yy,Yy,Yy,Yy,Yy,Yy,Yy,Yy,Yy,Yy,Yy,Yy,Yy,Nn,Nn,Nn,Nn,Nn,Nn,Nn,Nn,Nn,Nn,Nn,Nn,Nn,Nn,Nn,Nn,Nn,Nn,Nn,Nn,Nn,Nn,Nn,Nn,Nn,Nn,Nn,Nn,Nn,Nn,Nn,Nn,Nn,Nn,Nn,Nn,Nn,Nn,Nn,Nn,Nn,Nn,Nn,Nn,Nn,Nn,Nn,Nn,Nn,Nn,Nn] rfl rfl (one_of HT_.out (by kernel_rfl)) (by decide) (fun K hK => ?_)
     refine goes_ Tryz.func17 (by kernel_rfl) rfl #[.agg #[.bool t264, .int .u64 t265, .int .u64 t266, .int .i64 t267], .agg #[.bool t278, .int .u64 t279, .int .u64 t280, .int .i64 t281]] (by rfl) rfl rfl (by (try simp only [List.map_toArray, List.map_cons, List.map_nil]); first | done | rfl | (simp only [List.length_drop, List.length_take]; rfl)) ?_
     with_reducible refine (ranges_Meet.calls t264 t265 t266 t267 t278 t279 t280 t281 true _ A29.out).mono ?_
     rintro e w137 ⟨rfl, hb⟩
     refine ⟨_, rfl, ?_⟩
     have n0_ := aM (blk_below (o := .cells #[.bool t240, .int .u64 t241, .int .u64 t242, .int .i64 t243] 26 (0, 0)) (by (with_reducible repeat (first | apply kN | apply kD | apply kA)); exact BK245.out) hb)
     have n1_ := aM (blk_below (o := .cells #[.bool t246, .int .u64 t247, .int .u64 t248, .int .i64 t249] 26 (0, 0)) (by (with_reducible repeat (first | apply kN | apply kD | apply kA)); exact BK251.out) hb)
     have n2_ := aM (blk_below (o := .cells #[.bool t252, .int .u64 t253, .int .u64 t254, .int .i64 t255] 26 (0, 0)) (by (with_reducible repeat (first | apply kN | apply kD | apply kA)); exact BK257.out) hb)
     have n3_ := aM (blk_below (o := .cells #[.bool t258, .int .u64 t259, .int .u64 t260, .int .i64 t261] 26 (0, 0)) (by (with_reducible repeat (first | apply kN | apply kD | apply kA)); exact BK263.out) hb)
     have n4_ := aM (blk_below (o := .cells #[.bool t264, .int .u64 t265, .int .u64 t266, .int .i64 t267] 26 (0, 0)) (by (with_reducible repeat (first | apply kN | apply kD | apply kA)); exact BK269.out) hb)
     have n5_ := aM (blk_below (o := .cells #[.bool t272, .int .u64 t273, .int .u64 t274, .int .i64 t275] 26 (0, 0)) (by (with_reducible repeat (first | apply kN | apply kD | apply kA)); exact BK277.out) hb)
     have n6_ := aM (blk_below (o := .cells #[.bool t278, .int .u64 t279, .int .u64 t280, .int .i64 t281] 26 (0, 0)) (by (with_reducible repeat (first | apply kN | apply kD | apply kA)); exact BK283.out) hb)
     have n7_ := aM (blk_below (o := .cells #[.bool t294, .int .u64 t295, .int .u64 t296] 24 (0, 0)) (by (with_reducible repeat (first | apply kN | apply kD | apply kA)); exact BK298.out) hb)
     have n8_ := aM (blk_below (o := .cells #[.bool t299, .int .u64 t300, .int .u64 t301, .int .i64 t302] 26 (0, 0)) (by (with_reducible repeat (first | apply kN | apply kD | apply kA)); exact BK304.out) hb)
     have n9_ := aM (blk_below (o := .cells #[.bool t305, .int .u64 t306, .int .u64 t307, .int .i64 t308] 26 (0, 0)) (by (with_reducible repeat (first | apply kN | apply kD | apply kA)); exact BK310.out) hb)
     have n10_ := aM (below_step (by repeat (first | (with_reducible first | exact HB.out | apply bA | apply bN | apply bD | refine below_set ?_ (by apply Aside0.out; assumption)) | exact HB.out)) hb)
     clear BK245 BK251 BK257 BK263
     clear BK269 BK277 BK283 BK298
     clear BK304 BK310 HB
     have BK245 := n0_
     have BK251 := n1_
     have BK257 := n2_
     have BK263 := n3_
     have BK269 := n4_
     have BK277 := n5_
     have BK283 := n6_
     have BK298 := n7_
     have BK304 := n8_
     have BK310 := n9_
     have HB := n10_
     clear n0_ n1_ n2_ n3_ n4_ n5_ n6_ n7_ n8_ n9_ n10_
     (try clear hb)
     (try clear hb2)
     (try clear hk)
     (try clear hi)
     refine hK.out _ _ ⟨(kC BK269.out 0).trans rfl, (kC BK269.out 1).trans rfl, (kC BK269.out 2).trans rfl, (kC BK269.out 3).trans rfl, (kC BK277.out 0).trans rfl, (kC BK277.out 1).trans rfl, (kC BK277.out 2).trans rfl, (kC BK277.out 3).trans rfl, (kC BK283.out 0).trans rfl, (kC BK283.out 1).trans rfl, (kC BK283.out 2).trans rfl, (kC BK283.out 3).trans rfl, (kC BK310.out 0).trans rfl, (kC BK310.out 1).trans rfl, (kC BK310.out 2).trans rfl, (kC BK310.out 3).trans rfl, (kC BK304.out 0).trans rfl, (kC BK304.out 1).trans rfl, (kC BK304.out 2).trans rfl, (kC BK304.out 3).trans rfl⟩ (fun hHeld => ?_)
     clear hK K
     refine norm_ (a' := ?_) ?_ ?_
     rotate_left
     ·show Act.put _ (some 126) _ = _
      simp only [Act.put, List.setIfInBounds_toArray, List.set_cons_zero, List.set_cons_succ, i64_w, i32_w]
      rfl
     refine pure_ (i := 40) (N := some 127) (v := ?_) (a' := ?_) #[Yy,Yy,Yy,Yy,Yy,Yy,Yy,Yy,Yy,Yy,Yy,Yy,Yy,Yy,Yy,Yy,Yy,Yy,Yy,Yy,Yy,Yy,Yy,Yy,Yy,Yy,Yy,Yy,Yy,Yy,Yy,Yy,Yy,Yy,Yy,Yy,Yy,Yy,Yy,Yy,Yy,Nn,Nn,Nn,Nn,Nn,Nn,Nn,Nn,Nn,Nn,Nn,Nn,Nn,Nn,Nn,Nn,Nn,Nn,Nn,Nn,Nn,Nn,Nn,Nn,Nn,Nn,Nn,Nn,Nn,Nn,Nn,Nn,Nn,Nn,Nn,Nn,Nn,Nn,Nn,Nn,Nn,Nn,Nn,Nn,Nn,Nn,Nn,Nn,Nn,Nn] rfl rfl (any_of HT_.out (by kernel_rfl)) (fun _ _ _ h => h) (Or.inl ⟨by rfl, ?_⟩) ?_ ?_
     rotate_left
     ·intro w'
      go_simp
      with_reducible rfl
     rotate_left
     ·simp only [Act.put, List.setIfInBounds_toArray, List.set_cons_zero, List.set_cons_succ, i64_w, i32_w]
      rfl
     refine pure_ (i := 41) (N := some 128) (v := ?_) (a' := ?_) #[Yy,Yy,Yy,Yy,Yy,Yy,Yy,Yy,Yy,Yy,Yy,Yy,Yy,Yy,Yy,Yy,Yy,Yy,Yy,Yy,Yy,Yy,Yy,Yy,Yy,Yy,Yy,Yy,Yy,Yy,Yy,Yy,Yy,Yy,Yy,Yy,Yy,Yy,Yy,Yy,Yy,Yy,Nn,Nn,Nn,Nn,Nn,Nn,Nn,Nn,Nn,Nn,Nn,Nn,Nn,Nn,Nn,Nn,Nn,Nn,Nn,Nn,Nn,Nn,Nn,Nn,Nn,Nn,Nn,Nn,Nn,Nn,Nn,Nn,Nn,Nn,Nn,Nn,Nn,Nn,Nn,Nn,Nn,Nn,Nn,Nn,Nn,Nn,Nn,Nn,Nn] rfl rfl (any_of HT_.out (by kernel_rfl)) (fun _ _ _ h => h) (Or.inl ⟨by rfl, ?_⟩) ?_ ?_
     rotate_left
     ·intro w'
      go_simp
      with_reducible rfl
     rotate_left
     ·simp only [Act.put, List.setIfInBounds_toArray, List.set_cons_zero, List.set_cons_succ, i64_w, i32_w]
      rfl
     refine take_ (i := 42) (N := some 129) (v := ?_) (a' := ?_) #[Yy,Yy,Yy,Yy,Yy,Yy,Yy,Yy,Yy,Yy,Yy,Yy,Yy,Yy,Yy,Yy,Yy,Yy,Yy,Yy,Yy,Yy,Yy,Yy,Yy,Yy,Yy,Yy,Yy,Yy,Yy,Yy,Yy,Yy,Yy,Yy,Yy,Yy,Yy,Yy,Yy,Yy,Yy,Nn,Nn,Nn,Nn,Nn,Nn,Nn,Nn,Nn,Nn,Nn,Nn,Nn,Nn,Nn,Nn,Nn,Nn,Nn,Nn,Nn,Nn,Nn,Nn,Nn,Nn,Nn,Nn,Nn,Nn,Nn,Nn,Nn,Nn,Nn,Nn,Nn,Nn,Nn,Nn,Nn,Nn,Nn,Nn,Nn,Nn,Nn,Nn] rfl rfl (take_ofW HT_.out HW_.out (by kernel_rfl)) (fun _ _ _ h => h) (Or.inl ⟨by rfl, ?_⟩) hHeld ?_ ?_
     rotate_left
     ·rintro w' ⟨s0, s1, s2, s3, s4, s5, s6, s7, s8, s9, s10, s11, s12, s13, s14, s15, s16, s17, s18, s19⟩
      go_simp
      with_reducible rfl
     rotate_left
     ·simp only [Act.put, List.setIfInBounds_toArray, List.set_cons_zero, List.set_cons_succ, i64_w, i32_w]
      rfl
     refine take_ (i := 43) (N := some 130) (v := ?_) (a' := ?_) #[Yy,Yy,Yy,Yy,Yy,Yy,Yy,Yy,Yy,Yy,Yy,Yy,Yy,Yy,Yy,Yy,Yy,Yy,Yy,Yy,Yy,Yy,Yy,Yy,Yy,Yy,Yy,Yy,Yy,Yy,Yy,Yy,Yy,Yy,Yy,Yy,Yy,Yy,Yy,Yy,Yy,Yy,Yy,Yy,Nn,Nn,Nn,Nn,Nn,Nn,Nn,Nn,Nn,Nn,Nn,Nn,Nn,Nn,Nn,Nn,Nn,Nn,Nn,Nn,Nn,Nn,Nn,Nn,Nn,Nn,Nn,Nn,Nn,Nn,Nn,Nn,Nn,Nn,Nn,Nn,Nn,Nn,Nn,Nn,Nn,Nn,Nn,Nn,Nn,Nn,Nn] rfl rfl (take_ofW HT_.out HW_.out (by kernel_rfl)) (fun _ _ _ h => h) (Or.inl ⟨by rfl, ?_⟩) hHeld ?_ ?_
     rotate_left
     ·rintro w' ⟨s0, s1, s2, s3, s4, s5, s6, s7, s8, s9, s10, s11, s12, s13, s14, s15, s16, s17, s18, s19⟩
      go_simp
      with_reducible rfl
     rotate_left
     ·simp only [Act.put, List.setIfInBounds_toArray, List.set_cons_zero, List.set_cons_succ, i64_w, i32_w]
      rfl
     refine one_ (i := 44) (N := some 131) #[Yy,Yy,Yy,Yy,Yy,Yy,Yy,Yy,Yy,Yy,Yy,Yy,Yy,Yy,Yy,Yy,Yy,Yy,Yy,Yy,Yy,Yy,Yy,Yy,Yy,Yy,Yy,Yy,Yy,Yy,Yy,Yy,Yy,Yy,Yy,Yy,Yy,Yy,Yy,Yy,Yy,Yy,Yy,Yy,Yy,Nn,Nn,Nn,Nn,Nn,Nn,Nn,Nn,Nn,Nn,Nn,Nn,Nn,Nn,Nn,Nn,Nn,Nn,Nn,Nn,Nn,Nn,Nn,Nn,Nn,Nn,Nn,Nn,Nn,Nn,Nn,Nn,Nn,Nn,Nn,Nn,Nn,Nn,Nn,Nn,Nn,Nn,Nn,Nn,Nn,Nn] rfl rfl (one_of HT_.out (by kernel_rfl)) (by decide) (fun K hK => ?_)
     refine goes_ Tryz.func17 (by kernel_rfl) rfl #[.agg #[.bool t278, .int .u64 t279, .int .u64 t280, .int .i64 t281], .agg #[.bool t264, .int .u64 t265, .int .u64 t266, .int .i64 t267]] (by rfl) rfl rfl (by (try simp only [List.map_toArray, List.map_cons, List.map_nil]); first | done | rfl | (simp only [List.length_drop, List.length_take]; rfl)) ?_
     with_reducible refine (ranges_Meet.calls t278 t279 t280 t281 t264 t265 t266 t267 true _ A31.out).mono ?_
     rintro e w138 ⟨rfl, hb⟩
     refine ⟨_, rfl, ?_⟩
     have n0_ := aM (blk_below (o := .cells #[.bool t240, .int .u64 t241, .int .u64 t242, .int .i64 t243] 26 (0, 0)) (by (with_reducible repeat (first | apply kN | apply kD | apply kA)); exact BK245.out) hb)
     have n1_ := aM (blk_below (o := .cells #[.bool t246, .int .u64 t247, .int .u64 t248, .int .i64 t249] 26 (0, 0)) (by (with_reducible repeat (first | apply kN | apply kD | apply kA)); exact BK251.out) hb)
     have n2_ := aM (blk_below (o := .cells #[.bool t252, .int .u64 t253, .int .u64 t254, .int .i64 t255] 26 (0, 0)) (by (with_reducible repeat (first | apply kN | apply kD | apply kA)); exact BK257.out) hb)
     have n3_ := aM (blk_below (o := .cells #[.bool t258, .int .u64 t259, .int .u64 t260, .int .i64 t261] 26 (0, 0)) (by (with_reducible repeat (first | apply kN | apply kD | apply kA)); exact BK263.out) hb)
     have n4_ := aM (blk_below (o := .cells #[.bool t264, .int .u64 t265, .int .u64 t266, .int .i64 t267] 26 (0, 0)) (by (with_reducible repeat (first | apply kN | apply kD | apply kA)); exact BK269.out) hb)
     have n5_ := aM (blk_below (o := .cells #[.bool t272, .int .u64 t273, .int .u64 t274, .int .i64 t275] 26 (0, 0)) (by (with_reducible repeat (first | apply kN | apply kD | apply kA)); exact BK277.out) hb)
     have n6_ := aM (blk_below (o := .cells #[.bool t278, .int .u64 t279, .int .u64 t280, .int .i64 t281] 26 (0, 0)) (by (with_reducible repeat (first | apply kN | apply kD | apply kA)); exact BK283.out) hb)
     have n7_ := aM (blk_below (o := .cells #[.bool t294, .int .u64 t295, .int .u64 t296] 24 (0, 0)) (by (with_reducible repeat (first | apply kN | apply kD | apply kA)); exact BK298.out) hb)
     have n8_ := aM (blk_below (o := .cells #[.bool t299, .int .u64 t300, .int .u64 t301, .int .i64 t302] 26 (0, 0)) (by (with_reducible repeat (first | apply kN | apply kD | apply kA)); exact BK304.out) hb)
     have n9_ := aM (blk_below (o := .cells #[.bool t305, .int .u64 t306, .int .u64 t307, .int .i64 t308] 26 (0, 0)) (by (with_reducible repeat (first | apply kN | apply kD | apply kA)); exact BK310.out) hb)
     have n10_ := aM (below_step (by repeat (first | (with_reducible first | exact HB.out | apply bA | apply bN | apply bD | refine below_set ?_ (by apply Aside0.out; assumption)) | exact HB.out)) hb)
     clear BK245 BK251 BK257 BK263
     clear BK269 BK277 BK283 BK298
     clear BK304 BK310 HB
     have BK245 := n0_
     have BK251 := n1_
     have BK257 := n2_
     have BK263 := n3_
     have BK269 := n4_
     have BK277 := n5_
     have BK283 := n6_
     have BK298 := n7_
     have BK304 := n8_
     have BK310 := n9_
     have HB := n10_
     clear n0_ n1_ n2_ n3_ n4_ n5_ n6_ n7_ n8_ n9_ n10_
     (try clear hb)
     (try clear hb2)
     (try clear hk)
     (try clear hi)
     refine hK.out _ _ ⟨(kC BK269.out 0).trans rfl, (kC BK269.out 1).trans rfl, (kC BK269.out 2).trans rfl, (kC BK269.out 3).trans rfl, (kC BK277.out 0).trans rfl, (kC BK277.out 1).trans rfl, (kC BK277.out 2).trans rfl, (kC BK277.out 3).trans rfl, (kC BK283.out 0).trans rfl, (kC BK283.out 1).trans rfl, (kC BK283.out 2).trans rfl, (kC BK283.out 3).trans rfl, (kC BK310.out 0).trans rfl, (kC BK310.out 1).trans rfl, (kC BK310.out 2).trans rfl, (kC BK310.out 3).trans rfl, (kC BK304.out 0).trans rfl, (kC BK304.out 1).trans rfl, (kC BK304.out 2).trans rfl, (kC BK304.out 3).trans rfl⟩ (fun hHeld => ?_)
     clear hK K
     refine norm_ (a' := ?_) ?_ ?_
     rotate_left
     ·show Act.put _ (some 131) _ = _
      simp only [Act.put, List.setIfInBounds_toArray, List.set_cons_zero, List.set_cons_succ, i64_w, i32_w]
      rfl
     refine pure_ (i := 45) (N := some 132) (v := ?_) (a' := ?_) #[Yy,Yy,Yy,Yy,Yy,Yy,Yy,Yy,Yy,Yy,Yy,Yy,Yy,Yy,Yy,Yy,Yy,Yy,Yy,Yy,Yy,Yy,Yy,Yy,Yy,Yy,Yy,Yy,Yy,Yy,Yy,Yy,Yy,Yy,Yy,Yy,Yy,Yy,Yy,Yy,Yy,Yy,Yy,Yy,Yy,Yy,Nn,Nn,Nn,Nn,Nn,Nn,Nn,Nn,Nn,Nn,Nn,Nn,Nn,Nn,Nn,Nn,Nn,Nn,Nn,Nn,Nn,Nn,Nn,Nn,Nn,Nn,Nn,Nn,Nn,Nn,Nn,Nn,Nn,Nn,Nn,Nn,Nn,Nn,Nn,Nn,Nn,Nn,Nn,Nn,Nn] rfl rfl (any_of HT_.out (by kernel_rfl)) (fun _ _ _ h => h) (Or.inl ⟨by rfl, ?_⟩) ?_ ?_
     rotate_left
     ·intro w'
      go_simp
      with_reducible rfl
     rotate_left
     ·simp only [Act.put, List.setIfInBounds_toArray, List.set_cons_zero, List.set_cons_succ, i64_w, i32_w]
      rfl
     refine pure_ (i := 46) (N := some 133) (v := ?_) (a' := ?_) #[Yy,Yy,Yy,Yy,Yy,Yy,Yy,Yy,Yy,Yy,Yy,Yy,Yy,Yy,Yy,Yy,Yy,Yy,Yy,Yy,Yy,Yy,Yy,Yy,Yy,Yy,Yy,Yy,Yy,Yy,Yy,Yy,Yy,Yy,Yy,Yy,Yy,Yy,Yy,Yy,Yy,Yy,Yy,Yy,Yy,Yy,Yy,Nn,Nn,Nn,Nn,Nn,Nn,Nn,Nn,Nn,Nn,Nn,Nn,Nn,Nn,Nn,Nn,Nn,Nn,Nn,Nn,Nn,Nn,Nn,Nn,Nn,Nn,Nn,Nn,Nn,Nn,Nn,Nn,Nn,Nn,Nn,Nn,Nn,Nn,Nn,Nn,Nn,Nn,Nn,Nn] rfl rfl (any_of HT_.out (by kernel_rfl)) (fun _ _ _ h => h) (Or.inl ⟨by rfl, ?_⟩) ?_ ?_
     rotate_left
     ·intro w'
      go_simp
      with_reducible rfl
     rotate_left
     ·simp only [Act.put, List.setIfInBounds_toArray, List.set_cons_zero, List.set_cons_succ, i64_w, i32_w]
      rfl
     refine take_ (i := 47) (N := some 134) (v := ?_) (a' := ?_) #[Yy,Yy,Yy,Yy,Yy,Yy,Yy,Yy,Yy,Yy,Yy,Yy,Yy,Yy,Yy,Yy,Yy,Yy,Yy,Yy,Yy,Yy,Yy,Yy,Yy,Yy,Yy,Yy,Yy,Yy,Yy,Yy,Yy,Yy,Yy,Yy,Yy,Yy,Yy,Yy,Yy,Yy,Yy,Yy,Yy,Yy,Yy,Yy,Nn,Nn,Nn,Nn,Nn,Nn,Nn,Nn,Nn,Nn,Nn,Nn,Nn,Nn,Nn,Nn,Nn,Nn,Nn,Nn,Nn,Nn,Nn,Nn,Nn,Nn,Nn,Nn,Nn,Nn,Nn,Nn,Nn,Nn,Nn,Nn,Nn,Nn,Nn,Nn,Nn,Nn,Nn] rfl rfl (take_ofW HT_.out HW_.out (by kernel_rfl)) (fun _ _ _ h => h) (Or.inl ⟨by rfl, ?_⟩) hHeld ?_ ?_
     rotate_left
     ·rintro w' ⟨s0, s1, s2, s3, s4, s5, s6, s7, s8, s9, s10, s11, s12, s13, s14, s15, s16, s17, s18, s19⟩
      go_simp
      with_reducible rfl
     rotate_left
     ·simp only [Act.put, List.setIfInBounds_toArray, List.set_cons_zero, List.set_cons_succ, i64_w, i32_w]
      rfl
     refine take_ (i := 48) (N := some 135) (v := ?_) (a' := ?_) #[Yy,Yy,Yy,Yy,Yy,Yy,Yy,Yy,Yy,Yy,Yy,Yy,Yy,Yy,Yy,Yy,Yy,Yy,Yy,Yy,Yy,Yy,Yy,Yy,Yy,Yy,Yy,Yy,Yy,Yy,Yy,Yy,Yy,Yy,Yy,Yy,Yy,Yy,Yy,Yy,Yy,Yy,Yy,Yy,Yy,Yy,Yy,Yy,Yy,Nn,Nn,Nn,Nn,Nn,Nn,Nn,Nn,Nn,Nn,Nn,Nn,Nn,Nn,Nn,Nn,Nn,Nn,Nn,Nn,Nn,Nn,Nn,Nn,Nn,Nn,Nn,Nn,Nn,Nn,Nn,Nn,Nn,Nn,Nn,Nn,Nn,Nn,Nn,Nn,Nn,Nn] rfl rfl (take_ofW HT_.out HW_.out (by kernel_rfl)) (fun _ _ _ h => h) (Or.inl ⟨by rfl, ?_⟩) hHeld ?_ ?_
     rotate_left
     ·rintro w' ⟨s0, s1, s2, s3, s4, s5, s6, s7, s8, s9, s10, s11, s12, s13, s14, s15, s16, s17, s18, s19⟩
      go_simp
      with_reducible rfl
     rotate_left
     ·simp only [Act.put, List.setIfInBounds_toArray, List.set_cons_zero, List.set_cons_succ, i64_w, i32_w]
      rfl
     refine one_ (i := 49) (N := some 136) #[Yy,Yy,Yy,Yy,Yy,Yy,Yy,Yy,Yy,Yy,Yy,Yy,Yy,Yy,Yy,Yy,Yy,Yy,Yy,Yy,Yy,Yy,Yy,Yy,Yy,Yy,Yy,Yy,Yy,Yy,Yy,Yy,Yy,Yy,Yy,Yy,Yy,Yy,Yy,Yy,Yy,Yy,Yy,Yy,Yy,Yy,Yy,Yy,Yy,Yy,Nn,Nn,Nn,Nn,Nn,Nn,Nn,Nn,Nn,Nn,Nn,Nn,Nn,Nn,Nn,Nn,Nn,Nn,Nn,Nn,Nn,Nn,Nn,Nn,Nn,Nn,Nn,Nn,Nn,Nn,Nn,Nn,Nn,Nn,Nn,Nn,Nn,Nn,Nn,Nn,Nn] rfl rfl (one_of HT_.out (by kernel_rfl)) (by decide) (fun K hK => ?_)
     refine goes_ Tryz.func17 (by kernel_rfl) rfl #[.agg #[.bool t264, .int .u64 t265, .int .u64 t266, .int .i64 t267], .agg #[.bool t272, .int .u64 t273, .int .u64 t274, .int .i64 t275]] (by rfl) rfl rfl (by (try simp only [List.map_toArray, List.map_cons, List.map_nil]); first | done | rfl | (simp only [List.length_drop, List.length_take]; rfl)) ?_
     with_reducible refine (ranges_Meet.calls t264 t265 t266 t267 t272 t273 t274 t275 false _ A33.out).mono ?_
     rintro e w139 ⟨rfl, hb⟩
     refine ⟨_, rfl, ?_⟩
     have n0_ := aM (blk_below (o := .cells #[.bool t240, .int .u64 t241, .int .u64 t242, .int .i64 t243] 26 (0, 0)) (by (with_reducible repeat (first | apply kN | apply kD | apply kA)); exact BK245.out) hb)
     have n1_ := aM (blk_below (o := .cells #[.bool t246, .int .u64 t247, .int .u64 t248, .int .i64 t249] 26 (0, 0)) (by (with_reducible repeat (first | apply kN | apply kD | apply kA)); exact BK251.out) hb)
     have n2_ := aM (blk_below (o := .cells #[.bool t252, .int .u64 t253, .int .u64 t254, .int .i64 t255] 26 (0, 0)) (by (with_reducible repeat (first | apply kN | apply kD | apply kA)); exact BK257.out) hb)
     have n3_ := aM (blk_below (o := .cells #[.bool t258, .int .u64 t259, .int .u64 t260, .int .i64 t261] 26 (0, 0)) (by (with_reducible repeat (first | apply kN | apply kD | apply kA)); exact BK263.out) hb)
     have n4_ := aM (blk_below (o := .cells #[.bool t264, .int .u64 t265, .int .u64 t266, .int .i64 t267] 26 (0, 0)) (by (with_reducible repeat (first | apply kN | apply kD | apply kA)); exact BK269.out) hb)
     have n5_ := aM (blk_below (o := .cells #[.bool t272, .int .u64 t273, .int .u64 t274, .int .i64 t275] 26 (0, 0)) (by (with_reducible repeat (first | apply kN | apply kD | apply kA)); exact BK277.out) hb)
     have n6_ := aM (blk_below (o := .cells #[.bool t278, .int .u64 t279, .int .u64 t280, .int .i64 t281] 26 (0, 0)) (by (with_reducible repeat (first | apply kN | apply kD | apply kA)); exact BK283.out) hb)
     have n7_ := aM (blk_below (o := .cells #[.bool t294, .int .u64 t295, .int .u64 t296] 24 (0, 0)) (by (with_reducible repeat (first | apply kN | apply kD | apply kA)); exact BK298.out) hb)
     have n8_ := aM (blk_below (o := .cells #[.bool t299, .int .u64 t300, .int .u64 t301, .int .i64 t302] 26 (0, 0)) (by (with_reducible repeat (first | apply kN | apply kD | apply kA)); exact BK304.out) hb)
     have n9_ := aM (blk_below (o := .cells #[.bool t305, .int .u64 t306, .int .u64 t307, .int .i64 t308] 26 (0, 0)) (by (with_reducible repeat (first | apply kN | apply kD | apply kA)); exact BK310.out) hb)
     have n10_ := aM (below_step (by repeat (first | (with_reducible first | exact HB.out | apply bA | apply bN | apply bD | refine below_set ?_ (by apply Aside0.out; assumption)) | exact HB.out)) hb)
     clear BK245 BK251 BK257 BK263
     clear BK269 BK277 BK283 BK298
     clear BK304 BK310 HB
     have BK245 := n0_
     have BK251 := n1_
     have BK257 := n2_
     have BK263 := n3_
     have BK269 := n4_
     have BK277 := n5_
     have BK283 := n6_
     have BK298 := n7_
     have BK304 := n8_
     have BK310 := n9_
     have HB := n10_
     clear n0_ n1_ n2_ n3_ n4_ n5_ n6_ n7_ n8_ n9_ n10_
     (try clear hb)
     (try clear hb2)
     (try clear hk)
     (try clear hi)
     refine hK.out _ _ ⟨(kC BK269.out 0).trans rfl, (kC BK269.out 1).trans rfl, (kC BK269.out 2).trans rfl, (kC BK269.out 3).trans rfl, (kC BK277.out 0).trans rfl, (kC BK277.out 1).trans rfl, (kC BK277.out 2).trans rfl, (kC BK277.out 3).trans rfl, (kC BK283.out 0).trans rfl, (kC BK283.out 1).trans rfl, (kC BK283.out 2).trans rfl, (kC BK283.out 3).trans rfl, (kC BK310.out 0).trans rfl, (kC BK310.out 1).trans rfl, (kC BK310.out 2).trans rfl, (kC BK310.out 3).trans rfl, (kC BK304.out 0).trans rfl, (kC BK304.out 1).trans rfl, (kC BK304.out 2).trans rfl, (kC BK304.out 3).trans rfl⟩ (fun hHeld => ?_)
     clear hK K
     refine norm_ (a' := ?_) ?_ ?_
     rotate_left
     ·show Act.put _ (some 136) _ = _
      simp only [Act.put, List.setIfInBounds_toArray, List.set_cons_zero, List.set_cons_succ, i64_w, i32_w]
      rfl
     refine pure_ (i := 50) (N := some 137) (v := ?_) (a' := ?_) #[Yy,Yy,Yy,Yy,Yy,Yy,Yy,Yy,Yy,Yy,Yy,Yy,Yy,Yy,Yy,Yy,Yy,Yy,Yy,Yy,Yy,Yy,Yy,Yy,Yy,Yy,Yy,Yy,Yy,Yy,Yy,Yy,Yy,Yy,Yy,Yy,Yy,Yy,Yy,Yy,Yy,Yy,Yy,Yy,Yy,Yy,Yy,Yy,Yy,Yy,Yy,Nn,Nn,Nn,Nn,Nn,Nn,Nn,Nn,Nn,Nn,Nn,Nn,Nn,Nn,Nn,Nn,Nn,Nn,Nn,Nn,Nn,Nn,Nn,Nn,Nn,Nn,Nn,Nn,Nn,Nn,Nn,Nn,Nn,Nn,Nn,Nn,Nn,Nn,Nn,Nn] rfl rfl (any_of HT_.out (by kernel_rfl)) (fun _ _ _ h => h) (Or.inl ⟨by rfl, ?_⟩) ?_ ?_
     rotate_left
     ·intro w'
      go_simp
      with_reducible rfl
     rotate_left
     ·simp only [Act.put, List.setIfInBounds_toArray, List.set_cons_zero, List.set_cons_succ, i64_w, i32_w]
      rfl
     refine pure_ (i := 51) (N := some 138) (v := ?_) (a' := ?_) #[Yy,Yy,Yy,Yy,Yy,Yy,Yy,Yy,Yy,Yy,Yy,Yy,Yy,Yy,Yy,Yy,Yy,Yy,Yy,Yy,Yy,Yy,Yy,Yy,Yy,Yy,Yy,Yy,Yy,Yy,Yy,Yy,Yy,Yy,Yy,Yy,Yy,Yy,Yy,Yy,Yy,Yy,Yy,Yy,Yy,Yy,Yy,Yy,Yy,Yy,Yy,Yy,Nn,Nn,Nn,Nn,Nn,Nn,Nn,Nn,Nn,Nn,Nn,Nn,Nn,Nn,Nn,Nn,Nn,Nn,Nn,Nn,Nn,Nn,Nn,Nn,Nn,Nn,Nn,Nn,Nn,Nn,Nn,Nn,Nn,Nn,Nn,Nn,Nn,Nn,Nn] rfl rfl (any_of HT_.out (by kernel_rfl)) (fun _ _ _ h => h) (Or.inl ⟨by rfl, ?_⟩) ?_ ?_
     rotate_left
     ·intro w'
      go_simp
      with_reducible rfl
     rotate_left
     ·simp only [Act.put, List.setIfInBounds_toArray, List.set_cons_zero, List.set_cons_succ, i64_w, i32_w]
      rfl
     refine pure_ (i := 52) (N := some 139) (v := ?_) (a' := ?_) #[Yy,Yy,Yy,Yy,Yy,Yy,Yy,Yy,Yy,Yy,Yy,Yy,Yy,Yy,Yy,Yy,Yy,Yy,Yy,Yy,Yy,Yy,Yy,Yy,Yy,Yy,Yy,Yy,Yy,Yy,Yy,Yy,Yy,Yy,Yy,Yy,Yy,Yy,Yy,Yy,Yy,Yy,Yy,Yy,Yy,Yy,Yy,Yy,Yy,Yy,Yy,Yy,Yy,Nn,Nn,Nn,Nn,Nn,Nn,Nn,Nn,Nn,Nn,Nn,Nn,Nn,Nn,Nn,Nn,Nn,Nn,Nn,Nn,Nn,Nn,Nn,Nn,Nn,Nn,Nn,Nn,Nn,Nn,Nn,Nn,Nn,Nn,Nn,Nn,Nn,Nn] rfl rfl (any_of HT_.out (by kernel_rfl)) (fun _ _ _ h => h) (Or.inl ⟨by rfl, ?_⟩) ?_ ?_
     rotate_left
     ·intro w'
      go_simp
      with_reducible rfl
     rotate_left
     ·simp only [Act.put, List.setIfInBounds_toArray, List.set_cons_zero, List.set_cons_succ, i64_w, i32_w]
      rfl
     refine pure_ (i := 53) (N := some 140) (v := ?_) (a' := ?_) #[Yy,Yy,Yy,Yy,Yy,Yy,Yy,Yy,Yy,Yy,Yy,Yy,Yy,Yy,Yy,Yy,Yy,Yy,Yy,Yy,Yy,Yy,Yy,Yy,Yy,Yy,Yy,Yy,Yy,Yy,Yy,Yy,Yy,Yy,Yy,Yy,Yy,Yy,Yy,Yy,Yy,Yy,Yy,Yy,Yy,Yy,Yy,Yy,Yy,Yy,Yy,Yy,Yy,Yy,Nn,Nn,Nn,Nn,Nn,Nn,Nn,Nn,Nn,Nn,Nn,Nn,Nn,Nn,Nn,Nn,Nn,Nn,Nn,Nn,Nn,Nn,Nn,Nn,Nn,Nn,Nn,Nn,Nn,Nn,Nn,Nn,Nn,Nn,Nn,Nn,Nn] rfl rfl (any_of HT_.out (by kernel_rfl)) (fun _ _ _ h => h) (Or.inl ⟨by rfl, ?_⟩) ?_ ?_
     rotate_left
     ·intro w'
      go_simp
      with_reducible rfl
     rotate_left
     ·simp only [Act.put, List.setIfInBounds_toArray, List.set_cons_zero, List.set_cons_succ, i64_w, i32_w]
      rfl
     refine pure_ (i := 54) (N := some 141) (v := ?_) (a' := ?_) #[Yy,Yy,Yy,Yy,Yy,Yy,Yy,Yy,Yy,Yy,Yy,Yy,Yy,Yy,Yy,Yy,Yy,Yy,Yy,Yy,Yy,Yy,Yy,Yy,Yy,Yy,Yy,Yy,Yy,Yy,Yy,Yy,Yy,Yy,Yy,Yy,Yy,Yy,Yy,Yy,Yy,Yy,Yy,Yy,Yy,Yy,Yy,Yy,Yy,Yy,Yy,Yy,Yy,Yy,Yy,Nn,Nn,Nn,Nn,Nn,Nn,Nn,Nn,Nn,Nn,Nn,Nn,Nn,Nn,Nn,Nn,Nn,Nn,Nn,Nn,Nn,Nn,Nn,Nn,Nn,Nn,Nn,Nn,Nn,Nn,Nn,Nn,Nn,Nn,Nn,Nn] rfl rfl (any_of HT_.out (by kernel_rfl)) (fun _ _ _ h => h) (Or.inl ⟨by rfl, ?_⟩) ?_ ?_
     rotate_left
     ·intro w'
      go_simp
      with_reducible rfl
     rotate_left
     ·simp only [Act.put, List.setIfInBounds_toArray, List.set_cons_zero, List.set_cons_succ, i64_w, i32_w]
      rfl
     refine pure_ (i := 55) (N := some 142) (v := ?_) (a' := ?_) #[Yy,Yy,Yy,Yy,Yy,Yy,Yy,Yy,Yy,Yy,Yy,Yy,Yy,Yy,Yy,Yy,Yy,Yy,Yy,Yy,Yy,Yy,Yy,Yy,Yy,Yy,Yy,Yy,Yy,Yy,Yy,Yy,Yy,Yy,Yy,Yy,Yy,Yy,Yy,Yy,Yy,Yy,Yy,Yy,Yy,Yy,Yy,Yy,Yy,Yy,Yy,Yy,Yy,Yy,Yy,Yy,Nn,Nn,Nn,Nn,Nn,Nn,Nn,Nn,Nn,Nn,Nn,Nn,Nn,Nn,Nn,Nn,Nn,Nn,Nn,Nn,Nn,Nn,Nn,Nn,Nn,Nn,Nn,Nn,Nn,Nn,Nn,Nn,Nn,Nn,Nn] rfl rfl (any_of HT_.out (by kernel_rfl)) (fun _ _ _ h => h) (Or.inl ⟨by rfl, ?_⟩) ?_ ?_
     rotate_left
     ·intro w'
      go_simp
      with_reducible rfl
     rotate_left
     ·simp only [Act.put, List.setIfInBounds_toArray, List.set_cons_zero, List.set_cons_succ, i64_w, i32_w]
      rfl
     refine pure_ (i := 56) (N := some 143) (v := ?_) (a' := ?_) #[Yy,Yy,Yy,Yy,Yy,Yy,Yy,Yy,Yy,Yy,Yy,Yy,Yy,Yy,Yy,Yy,Yy,Yy,Yy,Yy,Yy,Yy,Yy,Yy,Yy,Yy,Yy,Yy,Yy,Yy,Yy,Yy,Yy,Yy,Yy,Yy,Yy,Yy,Yy,Yy,Yy,Yy,Yy,Yy,Yy,Yy,Yy,Yy,Yy,Yy,Yy,Yy,Yy,Yy,Yy,Yy,Yy,Nn,Nn,Nn,Nn,Nn,Nn,Nn,Nn,Nn,Nn,Nn,Nn,Nn,Nn,Nn,Nn,Nn,Nn,Nn,Nn,Nn,Nn,Nn,Nn,Nn,Nn,Nn,Nn,Nn,Nn,Nn,Nn,Nn,Nn] rfl rfl (any_of HT_.out (by kernel_rfl)) (fun _ _ _ h => h) (Or.inl ⟨by rfl, ?_⟩) ?_ ?_
     rotate_left
     ·intro w'
      go_simp
      with_reducible rfl
     rotate_left
     ·simp only [Act.put, List.setIfInBounds_toArray, List.set_cons_zero, List.set_cons_succ, i64_w, i32_w]
      rfl
     refine pure_ (i := 57) (N := some 144) (v := ?_) (a' := ?_) #[Yy,Yy,Yy,Yy,Yy,Yy,Yy,Yy,Yy,Yy,Yy,Yy,Yy,Yy,Yy,Yy,Yy,Yy,Yy,Yy,Yy,Yy,Yy,Yy,Yy,Yy,Yy,Yy,Yy,Yy,Yy,Yy,Yy,Yy,Yy,Yy,Yy,Yy,Yy,Yy,Yy,Yy,Yy,Yy,Yy,Yy,Yy,Yy,Yy,Yy,Yy,Yy,Yy,Yy,Yy,Yy,Yy,Yy,Nn,Nn,Nn,Nn,Nn,Nn,Nn,Nn,Nn,Nn,Nn,Nn,Nn,Nn,Nn,Nn,Nn,Nn,Nn,Nn,Nn,Nn,Nn,Nn,Nn,Nn,Nn,Nn,Nn,Nn,Nn,Nn,Nn] rfl rfl (any_of HT_.out (by kernel_rfl)) (fun _ _ _ h => h) (Or.inl ⟨by rfl, ?_⟩) ?_ ?_
     rotate_left
     ·intro w'
      go_simp
      with_reducible rfl
     rotate_left
     ·simp only [Act.put, List.setIfInBounds_toArray, List.set_cons_zero, List.set_cons_succ, i64_w, i32_w]
      rfl
     refine pure_ (i := 58) (N := some 145) (v := ?_) (a' := ?_) #[Yy,Yy,Yy,Yy,Yy,Yy,Yy,Yy,Yy,Yy,Yy,Yy,Yy,Yy,Yy,Yy,Yy,Yy,Yy,Yy,Yy,Yy,Yy,Yy,Yy,Yy,Yy,Yy,Yy,Yy,Yy,Yy,Yy,Yy,Yy,Yy,Yy,Yy,Yy,Yy,Yy,Yy,Yy,Yy,Yy,Yy,Yy,Yy,Yy,Yy,Yy,Yy,Yy,Yy,Yy,Yy,Yy,Yy,Yy,Nn,Nn,Nn,Nn,Nn,Nn,Nn,Nn,Nn,Nn,Nn,Nn,Nn,Nn,Nn,Nn,Nn,Nn,Nn,Nn,Nn,Nn,Nn,Nn,Nn,Nn,Nn,Nn,Nn,Nn,Nn,Nn] rfl rfl (any_of HT_.out (by kernel_rfl)) (fun _ _ _ h => h) (Or.inl ⟨by rfl, ?_⟩) ?_ ?_
     rotate_left
     ·intro w'
      go_simp
      with_reducible rfl
     rotate_left
     ·simp only [Act.put, List.setIfInBounds_toArray, List.set_cons_zero, List.set_cons_succ, i64_w, i32_w]
      rfl
     refine pure_ (i := 59) (N := some 146) (v := ?_) (a' := ?_) #[Yy,Yy,Yy,Yy,Yy,Yy,Yy,Yy,Yy,Yy,Yy,Yy,Yy,Yy,Yy,Yy,Yy,Yy,Yy,Yy,Yy,Yy,Yy,Yy,Yy,Yy,Yy,Yy,Yy,Yy,Yy,Yy,Yy,Yy,Yy,Yy,Yy,Yy,Yy,Yy,Yy,Yy,Yy,Yy,Yy,Yy,Yy,Yy,Yy,Yy,Yy,Yy,Yy,Yy,Yy,Yy,Yy,Yy,Yy,Yy,Nn,Nn,Nn,Nn,Nn,Nn,Nn,Nn,Nn,Nn,Nn,Nn,Nn,Nn,Nn,Nn,Nn,Nn,Nn,Nn,Nn,Nn,Nn,Nn,Nn,Nn,Nn,Nn,Nn,Nn,Nn] rfl rfl (any_of HT_.out (by kernel_rfl)) (fun _ _ _ h => h) (Or.inl ⟨by rfl, ?_⟩) ?_ ?_
     rotate_left
     ·intro w'
      go_simp
      with_reducible rfl
     rotate_left
     ·simp only [Act.put, List.setIfInBounds_toArray, List.set_cons_zero, List.set_cons_succ, i64_w, i32_w]
      rfl
     refine pure_ (i := 60) (N := some 147) (v := ?_) (a' := ?_) #[Yy,Yy,Yy,Yy,Yy,Yy,Yy,Yy,Yy,Yy,Yy,Yy,Yy,Yy,Yy,Yy,Yy,Yy,Yy,Yy,Yy,Yy,Yy,Yy,Yy,Yy,Yy,Yy,Yy,Yy,Yy,Yy,Yy,Yy,Yy,Yy,Yy,Yy,Yy,Yy,Yy,Yy,Yy,Yy,Yy,Yy,Yy,Yy,Yy,Yy,Yy,Yy,Yy,Yy,Yy,Yy,Yy,Yy,Yy,Yy,Yy,Nn,Nn,Nn,Nn,Nn,Nn,Nn,Nn,Nn,Nn,Nn,Nn,Nn,Nn,Nn,Nn,Nn,Nn,Nn,Nn,Nn,Nn,Nn,Nn,Nn,Nn,Nn,Nn,Nn,Nn] rfl rfl (any_of HT_.out (by kernel_rfl)) (fun _ _ _ h => h) (Or.inl ⟨by rfl, ?_⟩) ?_ ?_
     rotate_left
     ·intro w'
      go_simp
      with_reducible rfl
     rotate_left
     ·simp only [Act.put, List.setIfInBounds_toArray, List.set_cons_zero, List.set_cons_succ, i64_w, i32_w]
      rfl
     refine pure_ (i := 61) (N := some 148) (v := ?_) (a' := ?_) #[Yy,Yy,Yy,Yy,Yy,Yy,Yy,Yy,Yy,Yy,Yy,Yy,Yy,Yy,Yy,Yy,Yy,Yy,Yy,Yy,Yy,Yy,Yy,Yy,Yy,Yy,Yy,Yy,Yy,Yy,Yy,Yy,Yy,Yy,Yy,Yy,Yy,Yy,Yy,Yy,Yy,Yy,Yy,Yy,Yy,Yy,Yy,Yy,Yy,Yy,Yy,Yy,Yy,Yy,Yy,Yy,Yy,Yy,Yy,Yy,Yy,Yy,Nn,Nn,Nn,Nn,Nn,Nn,Nn,Nn,Nn,Nn,Nn,Nn,Nn,Nn,Nn,Nn,Nn,Nn,Nn,Nn,Nn,Nn,Nn,Nn,Nn,Nn,Nn,Nn,Nn] rfl rfl (any_of HT_.out (by kernel_rfl)) (fun _ _ _ h => h) (Or.inl ⟨by rfl, ?_⟩) ?_ ?_
     rotate_left
     ·intro w'
      go_simp
      with_reducible rfl
     rotate_left
     ·simp only [Act.put, List.setIfInBounds_toArray, List.set_cons_zero, List.set_cons_succ, i64_w, i32_w]
      rfl
     refine pure_ (i := 62) (N := some 149) (v := ?_) (a' := ?_) #[Yy,Yy,Yy,Yy,Yy,Yy,Yy,Yy,Yy,Yy,Yy,Yy,Yy,Yy,Yy,Yy,Yy,Yy,Yy,Yy,Yy,Yy,Yy,Yy,Yy,Yy,Yy,Yy,Yy,Yy,Yy,Yy,Yy,Yy,Yy,Yy,Yy,Yy,Yy,Yy,Yy,Yy,Yy,Yy,Yy,Yy,Yy,Yy,Yy,Yy,Yy,Yy,Yy,Yy,Yy,Yy,Yy,Yy,Yy,Yy,Yy,Yy,Yy,Nn,Nn,Nn,Nn,Nn,Nn,Nn,Nn,Nn,Nn,Nn,Nn,Nn,Nn,Nn,Nn,Nn,Nn,Nn,Nn,Nn,Nn,Nn,Nn,Nn,Nn,Nn,Nn] rfl rfl (any_of HT_.out (by kernel_rfl)) (fun _ _ _ h => h) (Or.inl ⟨by rfl, ?_⟩) ?_ ?_
     rotate_left
     ·intro w'
      go_simp
      with_reducible rfl
     rotate_left
     ·simp only [Act.put, List.setIfInBounds_toArray, List.set_cons_zero, List.set_cons_succ, i64_w, i32_w]
      rfl
     refine pure_ (i := 63) (N := some 150) (v := ?_) (a' := ?_) #[Yy,Yy,Yy,Yy,Yy,Yy,Yy,Yy,Yy,Yy,Yy,Yy,Yy,Yy,Yy,Yy,Yy,Yy,Yy,Yy,Yy,Yy,Yy,Yy,Yy,Yy,Yy,Yy,Yy,Yy,Yy,Yy,Yy,Yy,Yy,Yy,Yy,Yy,Yy,Yy,Yy,Yy,Yy,Yy,Yy,Yy,Yy,Yy,Yy,Yy,Yy,Yy,Yy,Yy,Yy,Yy,Yy,Yy,Yy,Yy,Yy,Yy,Yy,Yy,Nn,Nn,Nn,Nn,Nn,Nn,Nn,Nn,Nn,Nn,Nn,Nn,Nn,Nn,Nn,Nn,Nn,Nn,Nn,Nn,Nn,Nn,Nn,Nn,Nn,Nn,Nn] rfl rfl (any_of HT_.out (by kernel_rfl)) (fun _ _ _ h => h) (Or.inl ⟨by rfl, ?_⟩) ?_ ?_
     rotate_left
     ·intro w'
      go_simp
      with_reducible rfl
     rotate_left
     ·simp only [Act.put, List.setIfInBounds_toArray, List.set_cons_zero, List.set_cons_succ, i64_w, i32_w]
      rfl
     refine pure_ (i := 64) (N := some 151) (v := ?_) (a' := ?_) #[Yy,Yy,Yy,Yy,Yy,Yy,Yy,Yy,Yy,Yy,Yy,Yy,Yy,Yy,Yy,Yy,Yy,Yy,Yy,Yy,Yy,Yy,Yy,Yy,Yy,Yy,Yy,Yy,Yy,Yy,Yy,Yy,Yy,Yy,Yy,Yy,Yy,Yy,Yy,Yy,Yy,Yy,Yy,Yy,Yy,Yy,Yy,Yy,Yy,Yy,Yy,Yy,Yy,Yy,Yy,Yy,Yy,Yy,Yy,Yy,Yy,Yy,Yy,Yy,Yy,Nn,Nn,Nn,Nn,Nn,Nn,Nn,Nn,Nn,Nn,Nn,Nn,Nn,Nn,Nn,Nn,Nn,Nn,Nn,Nn,Nn,Nn,Nn,Nn,Nn,Nn] rfl rfl (any_of HT_.out (by kernel_rfl)) (fun _ _ _ h => h) (Or.inl ⟨by rfl, ?_⟩) ?_ ?_
     rotate_left
     ·intro w'
      go_simp
      with_reducible rfl
     rotate_left
     ·simp only [Act.put, List.setIfInBounds_toArray, List.set_cons_zero, List.set_cons_succ, i64_w, i32_w]
      rfl
     refine pure_ (i := 65) (N := some 152) (v := ?_) (a' := ?_) #[Yy,Yy,Yy,Yy,Yy,Yy,Yy,Yy,Yy,Yy,Yy,Yy,Yy,Yy,Yy,Yy,Yy,Yy,Yy,Yy,Yy,Yy,Yy,Yy,Yy,Yy,Yy,Yy,Yy,Yy,Yy,Yy,Yy,Yy,Yy,Yy,Yy,Yy,Yy,Yy,Yy,Yy,Yy,Yy,Yy,Yy,Yy,Yy,Yy,Yy,Yy,Yy,Yy,Yy,Yy,Yy,Yy,Yy,Yy,Yy,Yy,Yy,Yy,Yy,Yy,Yy,Nn,Nn,Nn,Nn,Nn,Nn,Nn,Nn,Nn,Nn,Nn,Nn,Nn,Nn,Nn,Nn,Nn,Nn,Nn,Nn,Nn,Nn,Nn,Nn,Nn] rfl rfl (any_of HT_.out (by kernel_rfl)) (fun _ _ _ h => h) (Or.inl ⟨by rfl, ?_⟩) ?_ ?_
     rotate_left
     ·intro w'
      go_simp
      with_reducible rfl
     rotate_left
     ·simp only [Act.put, List.setIfInBounds_toArray, List.set_cons_zero, List.set_cons_succ, i64_w, i32_w]
      rfl
     refine pure_ (i := 66) (N := some 153) (v := ?_) (a' := ?_) #[Yy,Yy,Yy,Yy,Yy,Yy,Yy,Yy,Yy,Yy,Yy,Yy,Yy,Yy,Yy,Yy,Yy,Yy,Yy,Yy,Yy,Yy,Yy,Yy,Yy,Yy,Yy,Yy,Yy,Yy,Yy,Yy,Yy,Yy,Yy,Yy,Yy,Yy,Yy,Yy,Yy,Yy,Yy,Yy,Yy,Yy,Yy,Yy,Yy,Yy,Yy,Yy,Yy,Yy,Yy,Yy,Yy,Yy,Yy,Yy,Yy,Yy,Yy,Yy,Yy,Yy,Yy,Nn,Nn,Nn,Nn,Nn,Nn,Nn,Nn,Nn,Nn,Nn,Nn,Nn,Nn,Nn,Nn,Nn,Nn,Nn,Nn,Nn,Nn,Nn,Nn] rfl rfl (any_of HT_.out (by kernel_rfl)) (fun _ _ _ h => h) (Or.inl ⟨by rfl, ?_⟩) ?_ ?_
     rotate_left
     ·intro w'
      go_simp
      with_reducible rfl
     rotate_left
     ·simp only [Act.put, List.setIfInBounds_toArray, List.set_cons_zero, List.set_cons_succ, i64_w, i32_w]
      rfl
     refine pure_ (i := 67) (N := some 154) (v := ?_) (a' := ?_) #[Yy,Yy,Yy,Yy,Yy,Yy,Yy,Yy,Yy,Yy,Yy,Yy,Yy,Yy,Yy,Yy,Yy,Yy,Yy,Yy,Yy,Yy,Yy,Yy,Yy,Yy,Yy,Yy,Yy,Yy,Yy,Yy,Yy,Yy,Yy,Yy,Yy,Yy,Yy,Yy,Yy,Yy,Yy,Yy,Yy,Yy,Yy,Yy,Yy,Yy,Yy,Yy,Yy,Yy,Yy,Yy,Yy,Yy,Yy,Yy,Yy,Yy,Yy,Yy,Yy,Yy,Yy,Yy,Nn,Nn,Nn,Nn,Nn,Nn,Nn,Nn,Nn,Nn,Nn,Nn,Nn,Nn,Nn,Nn,Nn,Nn,Nn,Nn,Nn,Nn,Nn] rfl rfl (any_of HT_.out (by kernel_rfl)) (fun _ _ _ h => h) (Or.inl ⟨by rfl, ?_⟩) ?_ ?_
     rotate_left
     ·intro w'
      go_simp
      with_reducible rfl
     rotate_left
     ·simp only [Act.put, List.setIfInBounds_toArray, List.set_cons_zero, List.set_cons_succ, i64_w, i32_w]
      rfl
     refine take_ (i := 68) (N := some 155) (v := ?_) (a' := ?_) #[Yy,Yy,Yy,Yy,Yy,Yy,Yy,Yy,Yy,Yy,Yy,Yy,Yy,Yy,Yy,Yy,Yy,Yy,Yy,Yy,Yy,Yy,Yy,Yy,Yy,Yy,Yy,Yy,Yy,Yy,Yy,Yy,Yy,Yy,Yy,Yy,Yy,Yy,Yy,Yy,Yy,Yy,Yy,Yy,Yy,Yy,Yy,Yy,Yy,Yy,Yy,Yy,Yy,Yy,Yy,Yy,Yy,Yy,Yy,Yy,Yy,Yy,Yy,Yy,Yy,Yy,Yy,Yy,Yy,Nn,Nn,Nn,Nn,Nn,Nn,Nn,Nn,Nn,Nn,Nn,Nn,Nn,Nn,Nn,Nn,Nn,Nn,Nn,Nn,Nn,Nn] rfl rfl (take_ofW HT_.out HW_.out (by kernel_rfl)) (fun _ _ _ h => h) (Or.inl ⟨by rfl, ?_⟩) hHeld ?_ ?_
     rotate_left
     ·rintro w' ⟨s0, s1, s2, s3, s4, s5, s6, s7, s8, s9, s10, s11, s12, s13, s14, s15, s16, s17, s18, s19⟩
      go_simp
      with_reducible rfl
     rotate_left
     ·simp only [Act.put, List.setIfInBounds_toArray, List.set_cons_zero, List.set_cons_succ, i64_w, i32_w]
      rfl
     refine one_ (i := 69) (N := some 156) #[Yy,Yy,Yy,Yy,Yy,Yy,Yy,Yy,Yy,Yy,Yy,Yy,Yy,Yy,Yy,Yy,Yy,Yy,Yy,Yy,Yy,Yy,Yy,Yy,Yy,Yy,Yy,Yy,Yy,Yy,Yy,Yy,Yy,Yy,Yy,Yy,Yy,Yy,Yy,Yy,Yy,Yy,Yy,Yy,Yy,Yy,Yy,Yy,Yy,Yy,Yy,Yy,Yy,Yy,Yy,Yy,Yy,Yy,Yy,Yy,Yy,Yy,Yy,Yy,Yy,Yy,Yy,Yy,Yy,Yy,Nn,Nn,Nn,Nn,Nn,Nn,Nn,Nn,Nn,Nn,Nn,Nn,Nn,Nn,Nn,Nn,Nn,Nn,Nn,Nn,Nn] rfl rfl (one_of HT_.out (by kernel_rfl)) (by decide) (fun K hK => ?_)
     refine goes_ Tryz.func25 (by kernel_rfl) rfl #[.int .u8 10, .int .u8 9, .int .u8 9, .int .u8 9] (by rfl) rfl rfl (by (try simp only [List.map_toArray, List.map_cons, List.map_nil]); first | done | rfl | (simp only [List.length_drop, List.length_take]; rfl)) ?_
     with_reducible refine (addr_Four.calls k 10 9 9 9 t316 t317 t318 _ A39.out).mono ?_
     rintro e w140 ⟨rfl, hb⟩
     refine ⟨_, rfl, ?_⟩
     have n0_ := aM (blk_below (o := .cells #[.bool t240, .int .u64 t241, .int .u64 t242, .int .i64 t243] 26 (0, 0)) (by (with_reducible repeat (first | apply kN | apply kD | apply kA)); exact BK245.out) hb)
     have n1_ := aM (blk_below (o := .cells #[.bool t246, .int .u64 t247, .int .u64 t248, .int .i64 t249] 26 (0, 0)) (by (with_reducible repeat (first | apply kN | apply kD | apply kA)); exact BK251.out) hb)
     have n2_ := aM (blk_below (o := .cells #[.bool t252, .int .u64 t253, .int .u64 t254, .int .i64 t255] 26 (0, 0)) (by (with_reducible repeat (first | apply kN | apply kD | apply kA)); exact BK257.out) hb)
     have n3_ := aM (blk_below (o := .cells #[.bool t258, .int .u64 t259, .int .u64 t260, .int .i64 t261] 26 (0, 0)) (by (with_reducible repeat (first | apply kN | apply kD | apply kA)); exact BK263.out) hb)
     have n4_ := aM (blk_below (o := .cells #[.bool t264, .int .u64 t265, .int .u64 t266, .int .i64 t267] 26 (0, 0)) (by (with_reducible repeat (first | apply kN | apply kD | apply kA)); exact BK269.out) hb)
     have n5_ := aM (blk_below (o := .cells #[.bool t272, .int .u64 t273, .int .u64 t274, .int .i64 t275] 26 (0, 0)) (by (with_reducible repeat (first | apply kN | apply kD | apply kA)); exact BK277.out) hb)
     have n6_ := aM (blk_below (o := .cells #[.bool t278, .int .u64 t279, .int .u64 t280, .int .i64 t281] 26 (0, 0)) (by (with_reducible repeat (first | apply kN | apply kD | apply kA)); exact BK283.out) hb)
     have n7_ := aM (blk_below (o := .cells #[.bool t294, .int .u64 t295, .int .u64 t296] 24 (0, 0)) (by (with_reducible repeat (first | apply kN | apply kD | apply kA)); exact BK298.out) hb)
     have n8_ := aM (blk_below (o := .cells #[.bool t299, .int .u64 t300, .int .u64 t301, .int .i64 t302] 26 (0, 0)) (by (with_reducible repeat (first | apply kN | apply kD | apply kA)); exact BK304.out) hb)
     have n9_ := aM (blk_below (o := .cells #[.bool t305, .int .u64 t306, .int .u64 t307, .int .i64 t308] 26 (0, 0)) (by (with_reducible repeat (first | apply kN | apply kD | apply kA)); exact BK310.out) hb)
     have n10_ := aM (below_step (by repeat (first | (with_reducible first | exact HB.out | apply bA | apply bN | apply bD | refine below_set ?_ (by apply Aside0.out; assumption)) | exact HB.out)) hb)
     clear BK245 BK251 BK257 BK263
     clear BK269 BK277 BK283 BK298
     clear BK304 BK310 HB
     have BK245 := n0_
     have BK251 := n1_
     have BK257 := n2_
     have BK263 := n3_
     have BK269 := n4_
     have BK277 := n5_
     have BK283 := n6_
     have BK298 := n7_
     have BK304 := n8_
     have BK310 := n9_
     have HB := n10_
     clear n0_ n1_ n2_ n3_ n4_ n5_ n6_ n7_ n8_ n9_ n10_
     (try clear hb)
     (try clear hb2)
     (try clear hk)
     (try clear hi)
     refine hK.out _ _ ⟨(kC BK269.out 0).trans rfl, (kC BK269.out 1).trans rfl, (kC BK269.out 2).trans rfl, (kC BK269.out 3).trans rfl, (kC BK277.out 0).trans rfl, (kC BK277.out 1).trans rfl, (kC BK277.out 2).trans rfl, (kC BK277.out 3).trans rfl, (kC BK283.out 0).trans rfl, (kC BK283.out 1).trans rfl, (kC BK283.out 2).trans rfl, (kC BK283.out 3).trans rfl, (kC BK310.out 0).trans rfl, (kC BK310.out 1).trans rfl, (kC BK310.out 2).trans rfl, (kC BK310.out 3).trans rfl, (kC BK304.out 0).trans rfl, (kC BK304.out 1).trans rfl, (kC BK304.out 2).trans rfl, (kC BK304.out 3).trans rfl⟩ (fun hHeld => ?_)
     clear hK K
     refine norm_ (a' := ?_) ?_ ?_
     rotate_left
     ·show Act.put _ (some 156) _ = _
      simp only [Act.put, List.setIfInBounds_toArray, List.set_cons_zero, List.set_cons_succ, i64_w, i32_w]
      rfl
     refine one_ (i := 70) (N := some 157) #[Yy,Yy,Yy,Yy,Yy,Yy,Yy,Yy,Yy,Yy,Yy,Yy,Yy,Yy,Yy,Yy,Yy,Yy,Yy,Yy,Yy,Yy,Yy,Yy,Yy,Yy,Yy,Yy,Yy,Yy,Yy,Yy,Yy,Yy,Yy,Yy,Yy,Yy,Yy,Yy,Yy,Yy,Yy,Yy,Yy,Yy,Yy,Yy,Yy,Yy,Yy,Yy,Yy,Yy,Yy,Yy,Yy,Yy,Yy,Yy,Yy,Yy,Yy,Yy,Yy,Yy,Yy,Yy,Yy,Yy,Yy,Nn,Nn,Nn,Nn,Nn,Nn,Nn,Nn,Nn,Nn,Nn,Nn,Nn,Nn,Nn,Nn,Nn,Nn,Nn,Nn] rfl rfl (one_of HT_.out (by kernel_rfl)) (by decide) (fun K hK => ?_)
     refine goes_ Tryz.func14 (by kernel_rfl) rfl #[.agg #[.bool t264, .int .u64 t265, .int .u64 t266, .int .i64 t267], .agg #[.bool t316, .int .u64 t317, .int .u64 t318]] (by rfl) rfl rfl (by (try simp only [List.map_toArray, List.map_cons, List.map_nil]); first | done | rfl | (simp only [List.length_drop, List.length_take]; rfl)) ?_
     with_reducible refine (ranges_Has.calls t264 t265 t266 t267 t316 t317 t318 true _ A40.out).mono ?_
     rintro e w141 ⟨rfl, hb⟩
     refine ⟨_, rfl, ?_⟩
     have n0_ := aM (blk_below (o := .cells #[.bool t240, .int .u64 t241, .int .u64 t242, .int .i64 t243] 26 (0, 0)) (by (with_reducible repeat (first | apply kN | apply kD | apply kA)); exact BK245.out) hb)
     have n1_ := aM (blk_below (o := .cells #[.bool t246, .int .u64 t247, .int .u64 t248, .int .i64 t249] 26 (0, 0)) (by (with_reducible repeat (first | apply kN | apply kD | apply kA)); exact BK251.out) hb)
     have n2_ := aM (blk_below (o := .cells #[.bool t252, .int .u64 t253, .int .u64 t254, .int .i64 t255] 26 (0, 0)) (by (with_reducible repeat (first | apply kN | apply kD | apply kA)); exact BK257.out) hb)
     have n3_ := aM (blk_below (o := .cells #[.bool t258, .int .u64 t259, .int .u64 t260, .int .i64 t261] 26 (0, 0)) (by (with_reducible repeat (first | apply kN | apply kD | apply kA)); exact BK263.out) hb)
     have n4_ := aM (blk_below (o := .cells #[.bool t264, .int .u64 t265, .int .u64 t266, .int .i64 t267] 26 (0, 0)) (by (with_reducible repeat (first | apply kN | apply kD | apply kA)); exact BK269.out) hb)
     have n5_ := aM (blk_below (o := .cells #[.bool t272, .int .u64 t273, .int .u64 t274, .int .i64 t275] 26 (0, 0)) (by (with_reducible repeat (first | apply kN | apply kD | apply kA)); exact BK277.out) hb)
     have n6_ := aM (blk_below (o := .cells #[.bool t278, .int .u64 t279, .int .u64 t280, .int .i64 t281] 26 (0, 0)) (by (with_reducible repeat (first | apply kN | apply kD | apply kA)); exact BK283.out) hb)
     have n7_ := aM (blk_below (o := .cells #[.bool t294, .int .u64 t295, .int .u64 t296] 24 (0, 0)) (by (with_reducible repeat (first | apply kN | apply kD | apply kA)); exact BK298.out) hb)
     have n8_ := aM (blk_below (o := .cells #[.bool t299, .int .u64 t300, .int .u64 t301, .int .i64 t302] 26 (0, 0)) (by (with_reducible repeat (first | apply kN | apply kD | apply kA)); exact BK304.out) hb)
     have n9_ := aM (blk_below (o := .cells #[.bool t305, .int .u64 t306, .int .u64 t307, .int .i64 t308] 26 (0, 0)) (by (with_reducible repeat (first | apply kN | apply kD | apply kA)); exact BK310.out) hb)
     have n10_ := aM (below_step (by repeat (first | (with_reducible first | exact HB.out | apply bA | apply bN | apply bD | refine below_set ?_ (by apply Aside0.out; assumption)) | exact HB.out)) hb)
     clear BK245 BK251 BK257 BK263
     clear BK269 BK277 BK283 BK298
     clear BK304 BK310 HB
     have BK245 := n0_
     have BK251 := n1_
     have BK257 := n2_
     have BK263 := n3_
     have BK269 := n4_
     have BK277 := n5_
     have BK283 := n6_
     have BK298 := n7_
     have BK304 := n8_
     have BK310 := n9_
     have HB := n10_
     clear n0_ n1_ n2_ n3_ n4_ n5_ n6_ n7_ n8_ n9_ n10_
     (try clear hb)
     (try clear hb2)
     (try clear hk)
     (try clear hi)
     refine hK.out _ _ ⟨(kC BK269.out 0).trans rfl, (kC BK269.out 1).trans rfl, (kC BK269.out 2).trans rfl, (kC BK269.out 3).trans rfl, (kC BK277.out 0).trans rfl, (kC BK277.out 1).trans rfl, (kC BK277.out 2).trans rfl, (kC BK277.out 3).trans rfl, (kC BK283.out 0).trans rfl, (kC BK283.out 1).trans rfl, (kC BK283.out 2).trans rfl, (kC BK283.out 3).trans rfl, (kC BK310.out 0).trans rfl, (kC BK310.out 1).trans rfl, (kC BK310.out 2).trans rfl, (kC BK310.out 3).trans rfl, (kC BK304.out 0).trans rfl, (kC BK304.out 1).trans rfl, (kC BK304.out 2).trans rfl, (kC BK304.out 3).trans rfl⟩ (fun hHeld => ?_)
     clear hK K
     refine norm_ (a' := ?_) ?_ ?_
     rotate_left
     ·show Act.put _ (some 157) _ = _
      simp only [Act.put, List.setIfInBounds_toArray, List.set_cons_zero, List.set_cons_succ, i64_w, i32_w]
      rfl
     refine pure_ (i := 71) (N := some 158) (v := ?_) (a' := ?_) #[Yy,Yy,Yy,Yy,Yy,Yy,Yy,Yy,Yy,Yy,Yy,Yy,Yy,Yy,Yy,Yy,Yy,Yy,Yy,Yy,Yy,Yy,Yy,Yy,Yy,Yy,Yy,Yy,Yy,Yy,Yy,Yy,Yy,Yy,Yy,Yy,Yy,Yy,Yy,Yy,Yy,Yy,Yy,Yy,Yy,Yy,Yy,Yy,Yy,Yy,Yy,Yy,Yy,Yy,Yy,Yy,Yy,Yy,Yy,Yy,Yy,Yy,Yy,Yy,Yy,Yy,Yy,Yy,Yy,Yy,Yy,Yy,Nn,Nn,Nn,Nn,Nn,Nn,Nn,Nn,Nn,Nn,Nn,Nn,Nn,Nn,Nn,Nn,Nn,Nn,Nn] rfl rfl (any_of HT_.out (by kernel_rfl)) (fun _ _ _ h => h) (Or.inl ⟨by rfl, ?_⟩) ?_ ?_
     rotate_left
     ·intro w'
      go_simp
      with_reducible rfl
     rotate_left
     ·simp only [Act.put, List.setIfInBounds_toArray, List.set_cons_zero, List.set_cons_succ, i64_w, i32_w]
      rfl
     refine pure_ (i := 72) (N := some 159) (v := ?_) (a' := ?_) #[Yy,Yy,Yy,Yy,Yy,Yy,Yy,Yy,Yy,Yy,Yy,Yy,Yy,Yy,Yy,Yy,Yy,Yy,Yy,Yy,Yy,Yy,Yy,Yy,Yy,Yy,Yy,Yy,Yy,Yy,Yy,Yy,Yy,Yy,Yy,Yy,Yy,Yy,Yy,Yy,Yy,Yy,Yy,Yy,Yy,Yy,Yy,Yy,Yy,Yy,Yy,Yy,Yy,Yy,Yy,Yy,Yy,Yy,Yy,Yy,Yy,Yy,Yy,Yy,Yy,Yy,Yy,Yy,Yy,Yy,Yy,Yy,Yy,Nn,Nn,Nn,Nn,Nn,Nn,Nn,Nn,Nn,Nn,Nn,Nn,Nn,Nn,Nn,Nn,Nn,Nn] rfl rfl (any_of HT_.out (by kernel_rfl)) (fun _ _ _ h => h) (Or.inl ⟨by rfl, ?_⟩) ?_ ?_
     rotate_left
     ·intro w'
      go_simp
      with_reducible rfl
     rotate_left
     ·simp only [Act.put, List.setIfInBounds_toArray, List.set_cons_zero, List.set_cons_succ, i64_w, i32_w]
      rfl
     refine take_ (i := 73) (N := some 160) (v := ?_) (a' := ?_) #[Yy,Yy,Yy,Yy,Yy,Yy,Yy,Yy,Yy,Yy,Yy,Yy,Yy,Yy,Yy,Yy,Yy,Yy,Yy,Yy,Yy,Yy,Yy,Yy,Yy,Yy,Yy,Yy,Yy,Yy,Yy,Yy,Yy,Yy,Yy,Yy,Yy,Yy,Yy,Yy,Yy,Yy,Yy,Yy,Yy,Yy,Yy,Yy,Yy,Yy,Yy,Yy,Yy,Yy,Yy,Yy,Yy,Yy,Yy,Yy,Yy,Yy,Yy,Yy,Yy,Yy,Yy,Yy,Yy,Yy,Yy,Yy,Yy,Yy,Nn,Nn,Nn,Nn,Nn,Nn,Nn,Nn,Nn,Nn,Nn,Nn,Nn,Nn,Nn,Nn,Nn] rfl rfl (take_ofW HT_.out HW_.out (by kernel_rfl)) (fun _ _ _ h => h) (Or.inl ⟨by rfl, ?_⟩) hHeld ?_ ?_
     rotate_left
     ·rintro w' ⟨s0, s1, s2, s3, s4, s5, s6, s7, s8, s9, s10, s11, s12, s13, s14, s15, s16, s17, s18, s19⟩
      go_simp
      with_reducible rfl
     rotate_left
     ·simp only [Act.put, List.setIfInBounds_toArray, List.set_cons_zero, List.set_cons_succ, i64_w, i32_w]
      rfl
     refine one_ (i := 74) (N := some 161) #[Yy,Yy,Yy,Yy,Yy,Yy,Yy,Yy,Yy,Yy,Yy,Yy,Yy,Yy,Yy,Yy,Yy,Yy,Yy,Yy,Yy,Yy,Yy,Yy,Yy,Yy,Yy,Yy,Yy,Yy,Yy,Yy,Yy,Yy,Yy,Yy,Yy,Yy,Yy,Yy,Yy,Yy,Yy,Yy,Yy,Yy,Yy,Yy,Yy,Yy,Yy,Yy,Yy,Yy,Yy,Yy,Yy,Yy,Yy,Yy,Yy,Yy,Yy,Yy,Yy,Yy,Yy,Yy,Yy,Yy,Yy,Yy,Yy,Yy,Yy,Nn,Nn,Nn,Nn,Nn,Nn,Nn,Nn,Nn,Nn,Nn,Nn,Nn,Nn,Nn,Nn] rfl rfl (one_of HT_.out (by kernel_rfl)) (by decide) (fun K hK => ?_)
     refine goes_ Tryz.func25 (by kernel_rfl) rfl #[.int .u8 11, .int .u8 0, .int .u8 0, .int .u8 0] (by rfl) rfl rfl (by (try simp only [List.map_toArray, List.map_cons, List.map_nil]); first | done | rfl | (simp only [List.length_drop, List.length_take]; rfl)) ?_
     with_reducible refine (addr_Four.calls k 11 0 0 0 t320 t321 t322 _ A42.out).mono ?_
     rintro e w142 ⟨rfl, hb⟩
     refine ⟨_, rfl, ?_⟩
     have n0_ := aM (blk_below (o := .cells #[.bool t240, .int .u64 t241, .int .u64 t242, .int .i64 t243] 26 (0, 0)) (by (with_reducible repeat (first | apply kN | apply kD | apply kA)); exact BK245.out) hb)
     have n1_ := aM (blk_below (o := .cells #[.bool t246, .int .u64 t247, .int .u64 t248, .int .i64 t249] 26 (0, 0)) (by (with_reducible repeat (first | apply kN | apply kD | apply kA)); exact BK251.out) hb)
     have n2_ := aM (blk_below (o := .cells #[.bool t252, .int .u64 t253, .int .u64 t254, .int .i64 t255] 26 (0, 0)) (by (with_reducible repeat (first | apply kN | apply kD | apply kA)); exact BK257.out) hb)
     have n3_ := aM (blk_below (o := .cells #[.bool t258, .int .u64 t259, .int .u64 t260, .int .i64 t261] 26 (0, 0)) (by (with_reducible repeat (first | apply kN | apply kD | apply kA)); exact BK263.out) hb)
     have n4_ := aM (blk_below (o := .cells #[.bool t264, .int .u64 t265, .int .u64 t266, .int .i64 t267] 26 (0, 0)) (by (with_reducible repeat (first | apply kN | apply kD | apply kA)); exact BK269.out) hb)
     have n5_ := aM (blk_below (o := .cells #[.bool t272, .int .u64 t273, .int .u64 t274, .int .i64 t275] 26 (0, 0)) (by (with_reducible repeat (first | apply kN | apply kD | apply kA)); exact BK277.out) hb)
     have n6_ := aM (blk_below (o := .cells #[.bool t278, .int .u64 t279, .int .u64 t280, .int .i64 t281] 26 (0, 0)) (by (with_reducible repeat (first | apply kN | apply kD | apply kA)); exact BK283.out) hb)
     have n7_ := aM (blk_below (o := .cells #[.bool t294, .int .u64 t295, .int .u64 t296] 24 (0, 0)) (by (with_reducible repeat (first | apply kN | apply kD | apply kA)); exact BK298.out) hb)
     have n8_ := aM (blk_below (o := .cells #[.bool t299, .int .u64 t300, .int .u64 t301, .int .i64 t302] 26 (0, 0)) (by (with_reducible repeat (first | apply kN | apply kD | apply kA)); exact BK304.out) hb)
     have n9_ := aM (blk_below (o := .cells #[.bool t305, .int .u64 t306, .int .u64 t307, .int .i64 t308] 26 (0, 0)) (by (with_reducible repeat (first | apply kN | apply kD | apply kA)); exact BK310.out) hb)
     have n10_ := aM (below_step (by repeat (first | (with_reducible first | exact HB.out | apply bA | apply bN | apply bD | refine below_set ?_ (by apply Aside0.out; assumption)) | exact HB.out)) hb)
     clear BK245 BK251 BK257 BK263
     clear BK269 BK277 BK283 BK298
     clear BK304 BK310 HB
     have BK245 := n0_
     have BK251 := n1_
     have BK257 := n2_
     have BK263 := n3_
     have BK269 := n4_
     have BK277 := n5_
     have BK283 := n6_
     have BK298 := n7_
     have BK304 := n8_
     have BK310 := n9_
     have HB := n10_
     clear n0_ n1_ n2_ n3_ n4_ n5_ n6_ n7_ n8_ n9_ n10_
     (try clear hb)
     (try clear hb2)
     (try clear hk)
     (try clear hi)
     refine hK.out _ _ ⟨(kC BK269.out 0).trans rfl, (kC BK269.out 1).trans rfl, (kC BK269.out 2).trans rfl, (kC BK269.out 3).trans rfl, (kC BK277.out 0).trans rfl, (kC BK277.out 1).trans rfl, (kC BK277.out 2).trans rfl, (kC BK277.out 3).trans rfl, (kC BK283.out 0).trans rfl, (kC BK283.out 1).trans rfl, (kC BK283.out 2).trans rfl, (kC BK283.out 3).trans rfl, (kC BK310.out 0).trans rfl, (kC BK310.out 1).trans rfl, (kC BK310.out 2).trans rfl, (kC BK310.out 3).trans rfl, (kC BK304.out 0).trans rfl, (kC BK304.out 1).trans rfl, (kC BK304.out 2).trans rfl, (kC BK304.out 3).trans rfl⟩ (fun hHeld => ?_)
     clear hK K
     refine norm_ (a' := ?_) ?_ ?_
     rotate_left
     ·show Act.put _ (some 161) _ = _
      simp only [Act.put, List.setIfInBounds_toArray, List.set_cons_zero, List.set_cons_succ, i64_w, i32_w]
      rfl
     refine one_ (i := 75) (N := some 162) #[Yy,Yy,Yy,Yy,Yy,Yy,Yy,Yy,Yy,Yy,Yy,Yy,Yy,Yy,Yy,Yy,Yy,Yy,Yy,Yy,Yy,Yy,Yy,Yy,Yy,Yy,Yy,Yy,Yy,Yy,Yy,Yy,Yy,Yy,Yy,Yy,Yy,Yy,Yy,Yy,Yy,Yy,Yy,Yy,Yy,Yy,Yy,Yy,Yy,Yy,Yy,Yy,Yy,Yy,Yy,Yy,Yy,Yy,Yy,Yy,Yy,Yy,Yy,Yy,Yy,Yy,Yy,Yy,Yy,Yy,Yy,Yy,Yy,Yy,Yy,Yy,Nn,Nn,Nn,Nn,Nn,Nn,Nn,Nn,Nn,Nn,Nn,Nn,Nn,Nn,Nn] rfl rfl (one_of HT_.out (by kernel_rfl)) (by decide) (fun K hK => ?_)
     refine goes_ Tryz.func14 (by kernel_rfl) rfl #[.agg #[.bool t264, .int .u64 t265, .int .u64 t266, .int .i64 t267], .agg #[.bool t320, .int .u64 t321, .int .u64 t322]] (by rfl) rfl rfl (by (try simp only [List.map_toArray, List.map_cons, List.map_nil]); first | done | rfl | (simp only [List.length_drop, List.length_take]; rfl)) ?_
     with_reducible refine (ranges_Has.calls t264 t265 t266 t267 t320 t321 t322 false _ A43.out).mono ?_
     rintro e w143 ⟨rfl, hb⟩
     refine ⟨_, rfl, ?_⟩
     have n0_ := aM (blk_below (o := .cells #[.bool t240, .int .u64 t241, .int .u64 t242, .int .i64 t243] 26 (0, 0)) (by (with_reducible repeat (first | apply kN | apply kD | apply kA)); exact BK245.out) hb)
     have n1_ := aM (blk_below (o := .cells #[.bool t246, .int .u64 t247, .int .u64 t248, .int .i64 t249] 26 (0, 0)) (by (with_reducible repeat (first | apply kN | apply kD | apply kA)); exact BK251.out) hb)
     have n2_ := aM (blk_below (o := .cells #[.bool t252, .int .u64 t253, .int .u64 t254, .int .i64 t255] 26 (0, 0)) (by (with_reducible repeat (first | apply kN | apply kD | apply kA)); exact BK257.out) hb)
     have n3_ := aM (blk_below (o := .cells #[.bool t258, .int .u64 t259, .int .u64 t260, .int .i64 t261] 26 (0, 0)) (by (with_reducible repeat (first | apply kN | apply kD | apply kA)); exact BK263.out) hb)
     have n4_ := aM (blk_below (o := .cells #[.bool t264, .int .u64 t265, .int .u64 t266, .int .i64 t267] 26 (0, 0)) (by (with_reducible repeat (first | apply kN | apply kD | apply kA)); exact BK269.out) hb)
     have n5_ := aM (blk_below (o := .cells #[.bool t272, .int .u64 t273, .int .u64 t274, .int .i64 t275] 26 (0, 0)) (by (with_reducible repeat (first | apply kN | apply kD | apply kA)); exact BK277.out) hb)
     have n6_ := aM (blk_below (o := .cells #[.bool t278, .int .u64 t279, .int .u64 t280, .int .i64 t281] 26 (0, 0)) (by (with_reducible repeat (first | apply kN | apply kD | apply kA)); exact BK283.out) hb)
     have n7_ := aM (blk_below (o := .cells #[.bool t294, .int .u64 t295, .int .u64 t296] 24 (0, 0)) (by (with_reducible repeat (first | apply kN | apply kD | apply kA)); exact BK298.out) hb)
     have n8_ := aM (blk_below (o := .cells #[.bool t299, .int .u64 t300, .int .u64 t301, .int .i64 t302] 26 (0, 0)) (by (with_reducible repeat (first | apply kN | apply kD | apply kA)); exact BK304.out) hb)
     have n9_ := aM (blk_below (o := .cells #[.bool t305, .int .u64 t306, .int .u64 t307, .int .i64 t308] 26 (0, 0)) (by (with_reducible repeat (first | apply kN | apply kD | apply kA)); exact BK310.out) hb)
     have n10_ := aM (below_step (by repeat (first | (with_reducible first | exact HB.out | apply bA | apply bN | apply bD | refine below_set ?_ (by apply Aside0.out; assumption)) | exact HB.out)) hb)
     clear BK245 BK251 BK257 BK263
     clear BK269 BK277 BK283 BK298
     clear BK304 BK310 HB
     have BK245 := n0_
     have BK251 := n1_
     have BK257 := n2_
     have BK263 := n3_
     have BK269 := n4_
     have BK277 := n5_
     have BK283 := n6_
     have BK298 := n7_
     have BK304 := n8_
     have BK310 := n9_
     have HB := n10_
     clear n0_ n1_ n2_ n3_ n4_ n5_ n6_ n7_ n8_ n9_ n10_
     (try clear hb)
     (try clear hb2)
     (try clear hk)
     (try clear hi)
     refine hK.out _ _ ⟨(kC BK269.out 0).trans rfl, (kC BK269.out 1).trans rfl, (kC BK269.out 2).trans rfl, (kC BK269.out 3).trans rfl, (kC BK277.out 0).trans rfl, (kC BK277.out 1).trans rfl, (kC BK277.out 2).trans rfl, (kC BK277.out 3).trans rfl, (kC BK283.out 0).trans rfl, (kC BK283.out 1).trans rfl, (kC BK283.out 2).trans rfl, (kC BK283.out 3).trans rfl, (kC BK310.out 0).trans rfl, (kC BK310.out 1).trans rfl, (kC BK310.out 2).trans rfl, (kC BK310.out 3).trans rfl, (kC BK304.out 0).trans rfl, (kC BK304.out 1).trans rfl, (kC BK304.out 2).trans rfl, (kC BK304.out 3).trans rfl⟩ (fun hHeld => ?_)
     clear hK K
     refine norm_ (a' := ?_) ?_ ?_
     rotate_left
     ·show Act.put _ (some 162) _ = _
      simp only [Act.put, List.setIfInBounds_toArray, List.set_cons_zero, List.set_cons_succ, i64_w, i32_w]
      rfl
     refine pure_ (i := 76) (N := some 163) (v := ?_) (a' := ?_) #[Yy,Yy,Yy,Yy,Yy,Yy,Yy,Yy,Yy,Yy,Yy,Yy,Yy,Yy,Yy,Yy,Yy,Yy,Yy,Yy,Yy,Yy,Yy,Yy,Yy,Yy,Yy,Yy,Yy,Yy,Yy,Yy,Yy,Yy,Yy,Yy,Yy,Yy,Yy,Yy,Yy,Yy,Yy,Yy,Yy,Yy,Yy,Yy,Yy,Yy,Yy,Yy,Yy,Yy,Yy,Yy,Yy,Yy,Yy,Yy,Yy,Yy,Yy,Yy,Yy,Yy,Yy,Yy,Yy,Yy,Yy,Yy,Yy,Yy,Yy,Yy,Yy,Nn,Nn,Nn,Nn,Nn,Nn,Nn,Nn,Nn,Nn,Nn,Nn,Nn,Nn] rfl rfl (any_of HT_.out (by kernel_rfl)) (fun _ _ _ h => h) (Or.inl ⟨by rfl, ?_⟩) ?_ ?_
     rotate_left
     ·intro w'
      go_simp
      with_reducible rfl
     rotate_left
     ·simp only [Act.put, List.setIfInBounds_toArray, List.set_cons_zero, List.set_cons_succ, i64_w, i32_w]
      rfl
     refine pure_ (i := 77) (N := some 164) (v := ?_) (a' := ?_) #[Yy,Yy,Yy,Yy,Yy,Yy,Yy,Yy,Yy,Yy,Yy,Yy,Yy,Yy,Yy,Yy,Yy,Yy,Yy,Yy,Yy,Yy,Yy,Yy,Yy,Yy,Yy,Yy,Yy,Yy,Yy,Yy,Yy,Yy,Yy,Yy,Yy,Yy,Yy,Yy,Yy,Yy,Yy,Yy,Yy,Yy,Yy,Yy,Yy,Yy,Yy,Yy,Yy,Yy,Yy,Yy,Yy,Yy,Yy,Yy,Yy,Yy,Yy,Yy,Yy,Yy,Yy,Yy,Yy,Yy,Yy,Yy,Yy,Yy,Yy,Yy,Yy,Yy,Nn,Nn,Nn,Nn,Nn,Nn,Nn,Nn,Nn,Nn,Nn,Nn,Nn] rfl rfl (any_of HT_.out (by kernel_rfl)) (fun _ _ _ h => h) (Or.inl ⟨by rfl, ?_⟩) ?_ ?_
     rotate_left
     ·intro w'
      go_simp
      with_reducible rfl
     rotate_left
     ·simp only [Act.put, List.setIfInBounds_toArray, List.set_cons_zero, List.set_cons_succ, i64_w, i32_w]
      rfl
     refine pure_ (i := 78) (N := some 165) (v := ?_) (a' := ?_) #[Yy,Yy,Yy,Yy,Yy,Yy,Yy,Yy,Yy,Yy,Yy,Yy,Yy,Yy,Yy,Yy,Yy,Yy,Yy,Yy,Yy,Yy,Yy,Yy,Yy,Yy,Yy,Yy,Yy,Yy,Yy,Yy,Yy,Yy,Yy,Yy,Yy,Yy,Yy,Yy,Yy,Yy,Yy,Yy,Yy,Yy,Yy,Yy,Yy,Yy,Yy,Yy,Yy,Yy,Yy,Yy,Yy,Yy,Yy,Yy,Yy,Yy,Yy,Yy,Yy,Yy,Yy,Yy,Yy,Yy,Yy,Yy,Yy,Yy,Yy,Yy,Yy,Yy,Yy,Nn,Nn,Nn,Nn,Nn,Nn,Nn,Nn,Nn,Nn,Nn,Nn] rfl rfl (any_of HT_.out (by kernel_rfl)) (fun _ _ _ h => h) (Or.inl ⟨by rfl, ?_⟩) ?_ ?_
     rotate_left
     ·intro w'
      go_simp
      with_reducible rfl
     rotate_left
     ·simp only [Act.put, List.setIfInBounds_toArray, List.set_cons_zero, List.set_cons_succ, i64_w, i32_w]
      rfl
     refine take_ (i := 79) (N := some 166) (v := ?_) (a' := ?_) #[Yy,Yy,Yy,Yy,Yy,Yy,Yy,Yy,Yy,Yy,Yy,Yy,Yy,Yy,Yy,Yy,Yy,Yy,Yy,Yy,Yy,Yy,Yy,Yy,Yy,Yy,Yy,Yy,Yy,Yy,Yy,Yy,Yy,Yy,Yy,Yy,Yy,Yy,Yy,Yy,Yy,Yy,Yy,Yy,Yy,Yy,Yy,Yy,Yy,Yy,Yy,Yy,Yy,Yy,Yy,Yy,Yy,Yy,Yy,Yy,Yy,Yy,Yy,Yy,Yy,Yy,Yy,Yy,Yy,Yy,Yy,Yy,Yy,Yy,Yy,Yy,Yy,Yy,Yy,Yy,Nn,Nn,Nn,Nn,Nn,Nn,Nn,Nn,Nn,Nn,Nn] rfl rfl (take_ofW HT_.out HW_.out (by kernel_rfl)) (fun _ _ _ h => h) (Or.inl ⟨by rfl, ?_⟩) hHeld ?_ ?_
     rotate_left
     ·rintro w' ⟨s0, s1, s2, s3, s4, s5, s6, s7, s8, s9, s10, s11, s12, s13, s14, s15, s16, s17, s18, s19⟩
      go_simp
      with_reducible rfl
     rotate_left
     ·simp only [Act.put, List.setIfInBounds_toArray, List.set_cons_zero, List.set_cons_succ, i64_w, i32_w]
      rfl
     refine take_ (i := 80) (N := some 167) (v := ?_) (a' := ?_) #[Yy,Yy,Yy,Yy,Yy,Yy,Yy,Yy,Yy,Yy,Yy,Yy,Yy,Yy,Yy,Yy,Yy,Yy,Yy,Yy,Yy,Yy,Yy,Yy,Yy,Yy,Yy,Yy,Yy,Yy,Yy,Yy,Yy,Yy,Yy,Yy,Yy,Yy,Yy,Yy,Yy,Yy,Yy,Yy,Yy,Yy,Yy,Yy,Yy,Yy,Yy,Yy,Yy,Yy,Yy,Yy,Yy,Yy,Yy,Yy,Yy,Yy,Yy,Yy,Yy,Yy,Yy,Yy,Yy,Yy,Yy,Yy,Yy,Yy,Yy,Yy,Yy,Yy,Yy,Yy,Yy,Nn,Nn,Nn,Nn,Nn,Nn,Nn,Nn,Nn,Nn] rfl rfl (take_ofW HT_.out HW_.out (by kernel_rfl)) (fun _ _ _ h => h) (Or.inl ⟨by rfl, ?_⟩) hHeld ?_ ?_
     rotate_left
     ·rintro w' ⟨s0, s1, s2, s3, s4, s5, s6, s7, s8, s9, s10, s11, s12, s13, s14, s15, s16, s17, s18, s19⟩
      go_simp
      with_reducible rfl
     rotate_left
     ·simp only [Act.put, List.setIfInBounds_toArray, List.set_cons_zero, List.set_cons_succ, i64_w, i32_w]
      rfl
     refine one_ (i := 81) (N := some 168) #[Yy,Yy,Yy,Yy,Yy,Yy,Yy,Yy,Yy,Yy,Yy,Yy,Yy,Yy,Yy,Yy,Yy,Yy,Yy,Yy,Yy,Yy,Yy,Yy,Yy,Yy,Yy,Yy,Yy,Yy,Yy,Yy,Yy,Yy,Yy,Yy,Yy,Yy,Yy,Yy,Yy,Yy,Yy,Yy,Yy,Yy,Yy,Yy,Yy,Yy,Yy,Yy,Yy,Yy,Yy,Yy,Yy,Yy,Yy,Yy,Yy,Yy,Yy,Yy,Yy,Yy,Yy,Yy,Yy,Yy,Yy,Yy,Yy,Yy,Yy,Yy,Yy,Yy,Yy,Yy,Yy,Yy,Nn,Nn,Nn,Nn,Nn,Nn,Nn,Nn,Nn] rfl rfl (one_of HT_.out (by kernel_rfl)) (by decide) (fun K hK => ?_)
     refine Kd.R_lit_step k26 _ 26 ?hg (N := 168) ?hd (xs := ([(⟨(⟨t299, t300, t301⟩ : S24), t302⟩ : S26)] : List (S26))) (inner := [.bool t299, .int .u64 t300, .int .u64 t301, .int .i64 t302]) (ok := fun _ => True) (okp := fun _ => True) ?hr ?hp (fun _ hk => hk) trivial (Below.refl _ _) (Nat.le_refl _) (by simp) ?_; (case hd => rfl); (case hg => rfl); (case hr => first | (go_simp; done) | (go_simp; rfl)); (case hp => exact (Reps.c4 (show Kd.M k26 _ _ _ (⟨(⟨t299, t300, t301⟩ : S24), t302⟩ : S26) [.bool t299, .int .u64 t300, .int .u64 t301, .int .i64 t302] from (k26_mkM _ _ _ (⟨(⟨t299, t300, t301⟩ : S24), t302⟩ : S26) )) (Reps.none _ _)))
     intro v325 w144 ho145 hb hg_ hnew_
     clear hg_ hnew_
     (first | rw [← Ny324.out] at ho145 | (simp only [Int.reduceToNat] at ho145; rw [← Ny324.out] at ho145))
     have n0_ := aM (Kd.R_lower (Kd.R_newB (Kd.R_newB (Kd.R_newB (Kd.R_newB (Kd.R_newB (Kd.R_newB (Kd.R_newB (Kd.R_newB (Kd.R_newB ho145 (g := gb245) (o := .cells #[.bool t240, .int .u64 t241, .int .u64 t242, .int .i64 t243] 26 (0, 0)) (by (with_reducible repeat (first | apply kN | apply kD | apply kA)); exact BK245.out)) (g := gb251) (o := .cells #[.bool t246, .int .u64 t247, .int .u64 t248, .int .i64 t249] 26 (0, 0)) (by (with_reducible repeat (first | apply kN | apply kD | apply kA)); exact BK251.out)) (g := gb257) (o := .cells #[.bool t252, .int .u64 t253, .int .u64 t254, .int .i64 t255] 26 (0, 0)) (by (with_reducible repeat (first | apply kN | apply kD | apply kA)); exact BK257.out)) (g := gb263) (o := .cells #[.bool t258, .int .u64 t259, .int .u64 t260, .int .i64 t261] 26 (0, 0)) (by (with_reducible repeat (first | apply kN | apply kD | apply kA)); exact BK263.out)) (g := gb269) (o := .cells #[.bool t264, .int .u64 t265, .int .u64 t266, .int .i64 t267] 26 (0, 0)) (by (with_reducible repeat (first | apply kN | apply kD | apply kA)); exact BK269.out)) (g := gb277) (o := .cells #[.bool t272, .int .u64 t273, .int .u64 t274, .int .i64 t275] 26 (0, 0)) (by (with_reducible repeat (first | apply kN | apply kD | apply kA)); exact BK277.out)) (g := gb283) (o := .cells #[.bool t278, .int .u64 t279, .int .u64 t280, .int .i64 t281] 26 (0, 0)) (by (with_reducible repeat (first | apply kN | apply kD | apply kA)); exact BK283.out)) (g := gb304) (o := .cells #[.bool t299, .int .u64 t300, .int .u64 t301, .int .i64 t302] 26 (0, 0)) (by (with_reducible repeat (first | apply kN | apply kD | apply kA)); exact BK304.out)) (g := gb310) (o := .cells #[.bool t305, .int .u64 t306, .int .u64 t307, .int .i64 t308] 26 (0, 0)) (by (with_reducible repeat (first | apply kN | apply kD | apply kA)); exact BK310.out)) (below_size (by repeat (first | (with_reducible first | exact HB.out | apply bA | apply bN | apply bD | refine below_set ?_ (by apply Aside0.out; assumption)) | exact HB.out))))
     have n1_ := aM (blk_below (o := .cells #[.bool t240, .int .u64 t241, .int .u64 t242, .int .i64 t243] 26 (0, 0)) (by (with_reducible repeat (first | apply kN | apply kD | apply kA)); exact BK245.out) hb)
     have n2_ := aM (blk_below (o := .cells #[.bool t246, .int .u64 t247, .int .u64 t248, .int .i64 t249] 26 (0, 0)) (by (with_reducible repeat (first | apply kN | apply kD | apply kA)); exact BK251.out) hb)
     have n3_ := aM (blk_below (o := .cells #[.bool t252, .int .u64 t253, .int .u64 t254, .int .i64 t255] 26 (0, 0)) (by (with_reducible repeat (first | apply kN | apply kD | apply kA)); exact BK257.out) hb)
     have n4_ := aM (blk_below (o := .cells #[.bool t258, .int .u64 t259, .int .u64 t260, .int .i64 t261] 26 (0, 0)) (by (with_reducible repeat (first | apply kN | apply kD | apply kA)); exact BK263.out) hb)
     have n5_ := aM (blk_below (o := .cells #[.bool t264, .int .u64 t265, .int .u64 t266, .int .i64 t267] 26 (0, 0)) (by (with_reducible repeat (first | apply kN | apply kD | apply kA)); exact BK269.out) hb)
     have n6_ := aM (blk_below (o := .cells #[.bool t272, .int .u64 t273, .int .u64 t274, .int .i64 t275] 26 (0, 0)) (by (with_reducible repeat (first | apply kN | apply kD | apply kA)); exact BK277.out) hb)
     have n7_ := aM (blk_below (o := .cells #[.bool t278, .int .u64 t279, .int .u64 t280, .int .i64 t281] 26 (0, 0)) (by (with_reducible repeat (first | apply kN | apply kD | apply kA)); exact BK283.out) hb)
     have n8_ := aM (blk_below (o := .cells #[.bool t294, .int .u64 t295, .int .u64 t296] 24 (0, 0)) (by (with_reducible repeat (first | apply kN | apply kD | apply kA)); exact BK298.out) hb)
     have n9_ := aM (blk_below (o := .cells #[.bool t299, .int .u64 t300, .int .u64 t301, .int .i64 t302] 26 (0, 0)) (by (with_reducible repeat (first | apply kN | apply kD | apply kA)); exact BK304.out) hb)
     have n10_ := aM (blk_below (o := .cells #[.bool t305, .int .u64 t306, .int .u64 t307, .int .i64 t308] 26 (0, 0)) (by (with_reducible repeat (first | apply kN | apply kD | apply kA)); exact BK310.out) hb)
     have n11_ := aM (below_step (by repeat (first | (with_reducible first | exact HB.out | apply bA | apply bN | apply bD | refine below_set ?_ (by apply Aside0.out; assumption)) | exact HB.out)) hb)
     clear BK245 BK251 BK257 BK263
     clear BK269 BK277 BK283 BK298
     clear BK304 BK310 HB
     have HO326 := n0_
     have BK245 := n1_
     have BK251 := n2_
     have BK257 := n3_
     have BK263 := n4_
     have BK269 := n5_
     have BK277 := n6_
     have BK283 := n7_
     have BK298 := n8_
     have BK304 := n9_
     have BK310 := n10_
     have HB := n11_
     clear n0_ n1_ n2_ n3_ n4_ n5_ n6_ n7_ n8_ n9_ n10_ n11_ hb ho145
     obtain ⟨Ao146, co146, eo146⟩ := Kd.R_slice HO326.out
     (first | subst eo146 | (injection eo146 with f1_ f2_ f3_; have f4_ := f1_.symm; have f5_ := f3_.symm; clear f1_ f2_ f3_; subst f4_; subst f5_))
     refine hK.out _ _ ⟨(kC BK269.out 0).trans rfl, (kC BK269.out 1).trans rfl, (kC BK269.out 2).trans rfl, (kC BK269.out 3).trans rfl, (kC BK277.out 0).trans rfl, (kC BK277.out 1).trans rfl, (kC BK277.out 2).trans rfl, (kC BK277.out 3).trans rfl, (kC BK283.out 0).trans rfl, (kC BK283.out 1).trans rfl, (kC BK283.out 2).trans rfl, (kC BK283.out 3).trans rfl, (kC BK310.out 0).trans rfl, (kC BK310.out 1).trans rfl, (kC BK310.out 2).trans rfl, (kC BK310.out 3).trans rfl, (kC BK304.out 0).trans rfl, (kC BK304.out 1).trans rfl, (kC BK304.out 2).trans rfl, (kC BK304.out 3).trans rfl⟩ (fun hHeld => ?_)
     clear hK K
     refine norm_ (a' := ?_) ?_ ?_
     rotate_left
     ·show Act.put _ (some 168) _ = _
      simp only [Act.put, List.setIfInBounds_toArray, List.set_cons_zero, List.set_cons_succ, i64_w, i32_w]
      rfl
     refine one_ (i := 82) (N := some 169) #[Yy,Yy,Yy,Yy,Yy,Yy,Yy,Yy,Yy,Yy,Yy,Yy,Yy,Yy,Yy,Yy,Yy,Yy,Yy,Yy,Yy,Yy,Yy,Yy,Yy,Yy,Yy,Yy,Yy,Yy,Yy,Yy,Yy,Yy,Yy,Yy,Yy,Yy,Yy,Yy,Yy,Yy,Yy,Yy,Yy,Yy,Yy,Yy,Yy,Yy,Yy,Yy,Yy,Yy,Yy,Yy,Yy,Yy,Yy,Yy,Yy,Yy,Yy,Yy,Yy,Yy,Yy,Yy,Yy,Yy,Yy,Yy,Yy,Yy,Yy,Yy,Yy,Yy,Yy,Yy,Yy,Yy,Yy,Nn,Nn,Nn,Nn,Nn,Nn,Nn,Nn] rfl rfl (one_of HT_.out (by kernel_rfl)) (by decide) (fun K hK => ?_)
     refine goes_ Tryz.func15 (by kernel_rfl) rfl #[.agg #[.bool t305, .int .u64 t306, .int .u64 t307, .int .i64 t308], .slice Ao146 y324.length co146] (by rfl) rfl rfl (by (try simp only [List.map_toArray, List.map_cons, List.map_nil]); first | done | rfl | (simp only [List.length_drop, List.length_take]; rfl)) ?_
     with_reducible refine (ranges_Free.calls t305 t306 t307 t308 _ _ y324 t327 _ ?side1 ?side2 A45.out).mono ?_
     (case side1 => repeat (first | exact (Kd.R_reads' HO326.out).2.2 | (with_reducible refine Kd.C_alloc ?_ _) | (with_reducible refine Kd.C_drewN ?_ _) | (with_reducible refine Kd.C_drew ?_)))
     (case side2 => exact (Kd.R_reads' HO326.out).2.1)
     rintro e w147 ⟨rfl, hb⟩
     refine ⟨_, rfl, ?_⟩
     have n0_ := aM (Kd.R_below (by (with_reducible repeat (first | apply Kd.R_alloc | apply Kd.R_drewN | apply Kd.R_drew)); exact HO326.out) hb)
     have n1_ := aM (blk_below (o := .cells #[.bool t240, .int .u64 t241, .int .u64 t242, .int .i64 t243] 26 (0, 0)) (by (with_reducible repeat (first | apply kN | apply kD | apply kA)); exact BK245.out) hb)
     have n2_ := aM (blk_below (o := .cells #[.bool t246, .int .u64 t247, .int .u64 t248, .int .i64 t249] 26 (0, 0)) (by (with_reducible repeat (first | apply kN | apply kD | apply kA)); exact BK251.out) hb)
     have n3_ := aM (blk_below (o := .cells #[.bool t252, .int .u64 t253, .int .u64 t254, .int .i64 t255] 26 (0, 0)) (by (with_reducible repeat (first | apply kN | apply kD | apply kA)); exact BK257.out) hb)
     have n4_ := aM (blk_below (o := .cells #[.bool t258, .int .u64 t259, .int .u64 t260, .int .i64 t261] 26 (0, 0)) (by (with_reducible repeat (first | apply kN | apply kD | apply kA)); exact BK263.out) hb)
     have n5_ := aM (blk_below (o := .cells #[.bool t264, .int .u64 t265, .int .u64 t266, .int .i64 t267] 26 (0, 0)) (by (with_reducible repeat (first | apply kN | apply kD | apply kA)); exact BK269.out) hb)
     have n6_ := aM (blk_below (o := .cells #[.bool t272, .int .u64 t273, .int .u64 t274, .int .i64 t275] 26 (0, 0)) (by (with_reducible repeat (first | apply kN | apply kD | apply kA)); exact BK277.out) hb)
     have n7_ := aM (blk_below (o := .cells #[.bool t278, .int .u64 t279, .int .u64 t280, .int .i64 t281] 26 (0, 0)) (by (with_reducible repeat (first | apply kN | apply kD | apply kA)); exact BK283.out) hb)
     have n8_ := aM (blk_below (o := .cells #[.bool t294, .int .u64 t295, .int .u64 t296] 24 (0, 0)) (by (with_reducible repeat (first | apply kN | apply kD | apply kA)); exact BK298.out) hb)
     have n9_ := aM (blk_below (o := .cells #[.bool t299, .int .u64 t300, .int .u64 t301, .int .i64 t302] 26 (0, 0)) (by (with_reducible repeat (first | apply kN | apply kD | apply kA)); exact BK304.out) hb)
     have n10_ := aM (blk_below (o := .cells #[.bool t305, .int .u64 t306, .int .u64 t307, .int .i64 t308] 26 (0, 0)) (by (with_reducible repeat (first | apply kN | apply kD | apply kA)); exact BK310.out) hb)
     have n11_ := aM (below_step (by repeat (first | (with_reducible first | exact HB.out | apply bA | apply bN | apply bD | refine below_set ?_ (by apply Aside0.out; assumption)) | exact HB.out)) hb)
     clear HO326 BK245 BK251 BK257
     clear BK263 BK269 BK277 BK283
     clear BK298 BK304 BK310 HB
     have HO326 := n0_
     have BK245 := n1_
     have BK251 := n2_
     have BK257 := n3_
     have BK263 := n4_
     have BK269 := n5_
     have BK277 := n6_
     have BK283 := n7_
     have BK298 := n8_
     have BK304 := n9_
     have BK310 := n10_
     have HB := n11_
     clear n0_ n1_ n2_ n3_ n4_ n5_ n6_ n7_ n8_ n9_ n10_ n11_
     (try clear hb)
     (try clear hb2)
     (try clear hk)
     (try clear hi)
     refine hK.out _ _ ⟨(kC BK269.out 0).trans rfl, (kC BK269.out 1).trans rfl, (kC BK269.out 2).trans rfl, (kC BK269.out 3).trans rfl, (kC BK277.out 0).trans rfl, (kC BK277.out 1).trans rfl, (kC BK277.out 2).trans rfl, (kC BK277.out 3).trans rfl, (kC BK283.out 0).trans rfl, (kC BK283.out 1).trans rfl, (kC BK283.out 2).trans rfl, (kC BK283.out 3).trans rfl, (kC BK310.out 0).trans rfl, (kC BK310.out 1).trans rfl, (kC BK310.out 2).trans rfl, (kC BK310.out 3).trans rfl, (kC BK304.out 0).trans rfl, (kC BK304.out 1).trans rfl, (kC BK304.out 2).trans rfl, (kC BK304.out 3).trans rfl⟩ (fun hHeld => ?_)
     clear hK K
     refine norm_ (a' := ?_) ?_ ?_
     rotate_left
     ·show Act.put _ (some 169) _ = _
      simp only [Act.put, List.setIfInBounds_toArray, List.set_cons_zero, List.set_cons_succ, i64_w, i32_w]
      rfl
     refine pure_ (i := 83) (N := some 170) (v := ?_) (a' := ?_) #[Yy,Yy,Yy,Yy,Yy,Yy,Yy,Yy,Yy,Yy,Yy,Yy,Yy,Yy,Yy,Yy,Yy,Yy,Yy,Yy,Yy,Yy,Yy,Yy,Yy,Yy,Yy,Yy,Yy,Yy,Yy,Yy,Yy,Yy,Yy,Yy,Yy,Yy,Yy,Yy,Yy,Yy,Yy,Yy,Yy,Yy,Yy,Yy,Yy,Yy,Yy,Yy,Yy,Yy,Yy,Yy,Yy,Yy,Yy,Yy,Yy,Yy,Yy,Yy,Yy,Yy,Yy,Yy,Yy,Yy,Yy,Yy,Yy,Yy,Yy,Yy,Yy,Yy,Yy,Yy,Yy,Yy,Yy,Yy,Nn,Nn,Nn,Nn,Nn,Nn,Nn] rfl rfl (any_of HT_.out (by kernel_rfl)) (fun _ _ _ h => h) (Or.inl ⟨by rfl, ?_⟩) ?_ ?_
     rotate_left
     ·intro w'
      go_simp
      with_reducible rfl
     rotate_left
     ·simp only [Act.put, List.setIfInBounds_toArray, List.set_cons_zero, List.set_cons_succ, i64_w, i32_w]
      rfl
     refine pure_ (i := 84) (N := some 171) (v := ?_) (a' := ?_) #[Yy,Yy,Yy,Yy,Yy,Yy,Yy,Yy,Yy,Yy,Yy,Yy,Yy,Yy,Yy,Yy,Yy,Yy,Yy,Yy,Yy,Yy,Yy,Yy,Yy,Yy,Yy,Yy,Yy,Yy,Yy,Yy,Yy,Yy,Yy,Yy,Yy,Yy,Yy,Yy,Yy,Yy,Yy,Yy,Yy,Yy,Yy,Yy,Yy,Yy,Yy,Yy,Yy,Yy,Yy,Yy,Yy,Yy,Yy,Yy,Yy,Yy,Yy,Yy,Yy,Yy,Yy,Yy,Yy,Yy,Yy,Yy,Yy,Yy,Yy,Yy,Yy,Yy,Yy,Yy,Yy,Yy,Yy,Yy,Yy,Nn,Nn,Nn,Nn,Nn,Nn] rfl rfl (any_of HT_.out (by kernel_rfl)) (fun _ _ _ h => h) (Or.inl ⟨by rfl, ?_⟩) ?_ ?_
     rotate_left
     ·intro w'
      go_simp
      with_reducible rfl
     rotate_left
     ·simp only [Act.put, List.setIfInBounds_toArray, List.set_cons_zero, List.set_cons_succ, i64_w, i32_w]
      rfl
     refine pure_ (i := 85) (N := some 172) (v := ?_) (a' := ?_) #[Yy,Yy,Yy,Yy,Yy,Yy,Yy,Yy,Yy,Yy,Yy,Yy,Yy,Yy,Yy,Yy,Yy,Yy,Yy,Yy,Yy,Yy,Yy,Yy,Yy,Yy,Yy,Yy,Yy,Yy,Yy,Yy,Yy,Yy,Yy,Yy,Yy,Yy,Yy,Yy,Yy,Yy,Yy,Yy,Yy,Yy,Yy,Yy,Yy,Yy,Yy,Yy,Yy,Yy,Yy,Yy,Yy,Yy,Yy,Yy,Yy,Yy,Yy,Yy,Yy,Yy,Yy,Yy,Yy,Yy,Yy,Yy,Yy,Yy,Yy,Yy,Yy,Yy,Yy,Yy,Yy,Yy,Yy,Yy,Yy,Yy,Nn,Nn,Nn,Nn,Nn] rfl rfl (any_of HT_.out (by kernel_rfl)) (fun _ _ _ h => h) (Or.inl ⟨by rfl, ?_⟩) ?_ ?_
     rotate_left
     ·intro w'
      go_simp
      with_reducible rfl
     rotate_left
     ·simp only [Act.put, List.setIfInBounds_toArray, List.set_cons_zero, List.set_cons_succ, i64_w, i32_w]
      rfl
     refine pure_ (i := 86) (N := some 173) (v := ?_) (a' := ?_) #[Yy,Yy,Yy,Yy,Yy,Yy,Yy,Yy,Yy,Yy,Yy,Yy,Yy,Yy,Yy,Yy,Yy,Yy,Yy,Yy,Yy,Yy,Yy,Yy,Yy,Yy,Yy,Yy,Yy,Yy,Yy,Yy,Yy,Yy,Yy,Yy,Yy,Yy,Yy,Yy,Yy,Yy,Yy,Yy,Yy,Yy,Yy,Yy,Yy,Yy,Yy,Yy,Yy,Yy,Yy,Yy,Yy,Yy,Yy,Yy,Yy,Yy,Yy,Yy,Yy,Yy,Yy,Yy,Yy,Yy,Yy,Yy,Yy,Yy,Yy,Yy,Yy,Yy,Yy,Yy,Yy,Yy,Yy,Yy,Yy,Yy,Yy,Nn,Nn,Nn,Nn] rfl rfl (any_of HT_.out (by kernel_rfl)) (fun _ _ _ h => h) (Or.inl ⟨by rfl, ?_⟩) ?_ ?_
     rotate_left
     ·intro w'
      go_simp
      with_reducible rfl
     rotate_left
     ·simp only [Act.put, List.setIfInBounds_toArray, List.set_cons_zero, List.set_cons_succ, i64_w, i32_w]
      rfl
     refine one_ (i := 87) (N := some 174) #[Yy,Yy,Yy,Yy,Yy,Yy,Yy,Yy,Yy,Yy,Yy,Yy,Yy,Yy,Yy,Yy,Yy,Yy,Yy,Yy,Yy,Yy,Yy,Yy,Yy,Yy,Yy,Yy,Yy,Yy,Yy,Yy,Yy,Yy,Yy,Yy,Yy,Yy,Yy,Yy,Yy,Yy,Yy,Yy,Yy,Yy,Yy,Yy,Yy,Yy,Yy,Yy,Yy,Yy,Yy,Yy,Yy,Yy,Yy,Yy,Yy,Yy,Yy,Yy,Yy,Yy,Yy,Yy,Yy,Yy,Yy,Yy,Yy,Yy,Yy,Yy,Yy,Yy,Yy,Yy,Yy,Yy,Yy,Yy,Yy,Yy,Yy,Yy,Nn,Nn,Nn] rfl rfl (one_of HT_.out (by kernel_rfl)) (by decide) (fun K hK => ?_)
     refine goes_ Tryz.func12 (by kernel_rfl) rfl #[.agg #[.bool false, .int .u64 0, .int .u64 0, .int .i64 40]] (by rfl) rfl rfl (by (try simp only [List.map_toArray, List.map_cons, List.map_nil]); first | done | rfl | (simp only [List.length_drop, List.length_take]; rfl)) ?_
     with_reducible refine (ranges_Size.calls false 0 0 40 t328 _ A47.out).mono ?_
     rintro e w148 ⟨rfl, hb⟩
     refine ⟨_, rfl, ?_⟩
     have n0_ := aM (Kd.R_below (by (with_reducible repeat (first | apply Kd.R_alloc | apply Kd.R_drewN | apply Kd.R_drew)); exact HO326.out) hb)
     have n1_ := aM (blk_below (o := .cells #[.bool t240, .int .u64 t241, .int .u64 t242, .int .i64 t243] 26 (0, 0)) (by (with_reducible repeat (first | apply kN | apply kD | apply kA)); exact BK245.out) hb)
     have n2_ := aM (blk_below (o := .cells #[.bool t246, .int .u64 t247, .int .u64 t248, .int .i64 t249] 26 (0, 0)) (by (with_reducible repeat (first | apply kN | apply kD | apply kA)); exact BK251.out) hb)
     have n3_ := aM (blk_below (o := .cells #[.bool t252, .int .u64 t253, .int .u64 t254, .int .i64 t255] 26 (0, 0)) (by (with_reducible repeat (first | apply kN | apply kD | apply kA)); exact BK257.out) hb)
     have n4_ := aM (blk_below (o := .cells #[.bool t258, .int .u64 t259, .int .u64 t260, .int .i64 t261] 26 (0, 0)) (by (with_reducible repeat (first | apply kN | apply kD | apply kA)); exact BK263.out) hb)
     have n5_ := aM (blk_below (o := .cells #[.bool t264, .int .u64 t265, .int .u64 t266, .int .i64 t267] 26 (0, 0)) (by (with_reducible repeat (first | apply kN | apply kD | apply kA)); exact BK269.out) hb)
     have n6_ := aM (blk_below (o := .cells #[.bool t272, .int .u64 t273, .int .u64 t274, .int .i64 t275] 26 (0, 0)) (by (with_reducible repeat (first | apply kN | apply kD | apply kA)); exact BK277.out) hb)
     have n7_ := aM (blk_below (o := .cells #[.bool t278, .int .u64 t279, .int .u64 t280, .int .i64 t281] 26 (0, 0)) (by (with_reducible repeat (first | apply kN | apply kD | apply kA)); exact BK283.out) hb)
     have n8_ := aM (blk_below (o := .cells #[.bool t294, .int .u64 t295, .int .u64 t296] 24 (0, 0)) (by (with_reducible repeat (first | apply kN | apply kD | apply kA)); exact BK298.out) hb)
     have n9_ := aM (blk_below (o := .cells #[.bool t299, .int .u64 t300, .int .u64 t301, .int .i64 t302] 26 (0, 0)) (by (with_reducible repeat (first | apply kN | apply kD | apply kA)); exact BK304.out) hb)
     have n10_ := aM (blk_below (o := .cells #[.bool t305, .int .u64 t306, .int .u64 t307, .int .i64 t308] 26 (0, 0)) (by (with_reducible repeat (first | apply kN | apply kD | apply kA)); exact BK310.out) hb)
     have n11_ := aM (below_step (by repeat (first | (with_reducible first | exact HB.out | apply bA | apply bN | apply bD | refine below_set ?_ (by apply Aside0.out; assumption)) | exact HB.out)) hb)
     clear HO326 BK245 BK251 BK257
     clear BK263 BK269 BK277 BK283
     clear BK298 BK304 BK310 HB
     have HO326 := n0_
     have BK245 := n1_
     have BK251 := n2_
     have BK257 := n3_
     have BK263 := n4_
     have BK269 := n5_
     have BK277 := n6_
     have BK283 := n7_
     have BK298 := n8_
     have BK304 := n9_
     have BK310 := n10_
     have HB := n11_
     clear n0_ n1_ n2_ n3_ n4_ n5_ n6_ n7_ n8_ n9_ n10_ n11_
     (try clear hb)
     (try clear hb2)
     (try clear hk)
     (try clear hi)
     refine hK.out _ _ ⟨(kC BK269.out 0).trans rfl, (kC BK269.out 1).trans rfl, (kC BK269.out 2).trans rfl, (kC BK269.out 3).trans rfl, (kC BK277.out 0).trans rfl, (kC BK277.out 1).trans rfl, (kC BK277.out 2).trans rfl, (kC BK277.out 3).trans rfl, (kC BK283.out 0).trans rfl, (kC BK283.out 1).trans rfl, (kC BK283.out 2).trans rfl, (kC BK283.out 3).trans rfl, (kC BK310.out 0).trans rfl, (kC BK310.out 1).trans rfl, (kC BK310.out 2).trans rfl, (kC BK310.out 3).trans rfl, (kC BK304.out 0).trans rfl, (kC BK304.out 1).trans rfl, (kC BK304.out 2).trans rfl, (kC BK304.out 3).trans rfl⟩ (fun hHeld => ?_)
     clear hK K
     refine norm_ (a' := ?_) ?_ ?_
     rotate_left
     ·show Act.put _ (some 174) _ = _
      simp only [Act.put, List.setIfInBounds_toArray, List.set_cons_zero, List.set_cons_succ, i64_w, i32_w]
      rfl
     refine pure_ (i := 88) (N := some 175) (v := ?_) (a' := ?_) #[Yy,Yy,Yy,Yy,Yy,Yy,Yy,Yy,Yy,Yy,Yy,Yy,Yy,Yy,Yy,Yy,Yy,Yy,Yy,Yy,Yy,Yy,Yy,Yy,Yy,Yy,Yy,Yy,Yy,Yy,Yy,Yy,Yy,Yy,Yy,Yy,Yy,Yy,Yy,Yy,Yy,Yy,Yy,Yy,Yy,Yy,Yy,Yy,Yy,Yy,Yy,Yy,Yy,Yy,Yy,Yy,Yy,Yy,Yy,Yy,Yy,Yy,Yy,Yy,Yy,Yy,Yy,Yy,Yy,Yy,Yy,Yy,Yy,Yy,Yy,Yy,Yy,Yy,Yy,Yy,Yy,Yy,Yy,Yy,Yy,Yy,Yy,Yy,Yy,Nn,Nn] rfl rfl (any_of HT_.out (by kernel_rfl)) (fun _ _ _ h => h) (Or.inl ⟨by rfl, ?_⟩) ?_ ?_
     rotate_left
     ·intro w'
      go_simp
      with_reducible rfl
     rotate_left
     ·simp only [Act.put, List.setIfInBounds_toArray, List.set_cons_zero, List.set_cons_succ, i64_w, i32_w]
      rfl
     refine pure_ (i := 89) (N := some 176) (v := ?_) (a' := ?_) #[Yy,Yy,Yy,Yy,Yy,Yy,Yy,Yy,Yy,Yy,Yy,Yy,Yy,Yy,Yy,Yy,Yy,Yy,Yy,Yy,Yy,Yy,Yy,Yy,Yy,Yy,Yy,Yy,Yy,Yy,Yy,Yy,Yy,Yy,Yy,Yy,Yy,Yy,Yy,Yy,Yy,Yy,Yy,Yy,Yy,Yy,Yy,Yy,Yy,Yy,Yy,Yy,Yy,Yy,Yy,Yy,Yy,Yy,Yy,Yy,Yy,Yy,Yy,Yy,Yy,Yy,Yy,Yy,Yy,Yy,Yy,Yy,Yy,Yy,Yy,Yy,Yy,Yy,Yy,Yy,Yy,Yy,Yy,Yy,Yy,Yy,Yy,Yy,Yy,Yy,Nn] rfl rfl (any_of HT_.out (by kernel_rfl)) (fun _ _ _ h => h) (Or.inl ⟨by rfl, ?_⟩) ?_ ?_
     rotate_left
     ·intro w'
      go_simp
      with_reducible rfl
     rotate_left
     ·simp only [Act.put, List.setIfInBounds_toArray, List.set_cons_zero, List.set_cons_succ, i64_w, i32_w]
      rfl
     refine pure_ (i := 90) (N := some 0) (v := ?_) (a' := ?_) #[Yy,Yy,Yy,Yy,Yy,Yy,Yy,Yy,Yy,Yy,Yy,Yy,Yy,Yy,Yy,Yy,Yy,Yy,Yy,Yy,Yy,Yy,Yy,Yy,Yy,Yy,Yy,Yy,Yy,Yy,Yy,Yy,Yy,Yy,Yy,Yy,Yy,Yy,Yy,Yy,Yy,Yy,Yy,Yy,Yy,Yy,Yy,Yy,Yy,Yy,Yy,Yy,Yy,Yy,Yy,Yy,Yy,Yy,Yy,Yy,Yy,Yy,Yy,Yy,Yy,Yy,Yy,Yy,Yy,Yy,Yy,Yy,Yy,Yy,Yy,Yy,Yy,Yy,Yy,Yy,Yy,Yy,Yy,Yy,Yy,Yy,Yy,Yy,Yy,Yy,Yy] rfl rfl (any_of HT_.out (by kernel_rfl)) (fun _ _ _ h => h) (Or.inl ⟨by rfl, ?_⟩) ?_ ?_
     rotate_left
     ·intro w'
      go_simp
      with_reducible rfl
     rotate_left
     ·simp only [Act.put, List.setIfInBounds_toArray, List.set_cons_zero, List.set_cons_succ, i64_w, i32_w]
      rfl
     refine done_ (done_of HT_.out (by kernel_rfl)) ?_
     try go_wp2
     go_ret
     exact ⟨by first | rfl | (simp [errW_none, errW_some] <;> rfl) | (simp [*, errW_none, errW_some] <;> rfl), by repeat (first | (with_reducible first | exact HB.out | apply bA | apply bN | apply bD | refine below_set ?_ (by apply Aside0.out; assumption)) | exact HB.out)⟩
    subst c44
    rw [if_pos rfl] at H
    exact absurd ((Option.some.inj H).trans hr_.out) (by decide)
   subst c38
   rw [if_pos rfl] at H
   exact absurd ((Option.some.inj H).trans hr_.out) (by decide)
  subst c37
  rw [if_pos rfl] at H
  exact absurd ((Option.some.inj H).trans hr_.out) (by decide)
 subst c34
 rw [if_pos rfl] at H
 exact absurd ((Option.some.inj H).trans hr_.out) (by decide)

end Go.Proofs.YtilobbjnmnnmnaaGreatDoor.ONames
