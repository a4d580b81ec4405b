/- This text proves, for each Go function named below, which plain Lean function its call computes, in whatever memory; a program of this session has written it. -/
import Derived.Test.YtfpdmmpjoejmiaaOCallsx0
import Derived.Test.YtfpdmmpjoejmiaaOCallsx3
import Derived.Test.YtfpdmmpjoejmiaaOCallsx9
namespace Go.Proofs.Ytfpdmmpjoejmiaa.OCalls
open Go.RowKit Go.Proofs.YtfpdmmpjoejmiaaW.PrintWords Go.Proofs.YtfpdmmpjoejmiaaW.PrintLast Go.Proofs.YtfpdmmpjoejmiaaW.PrintMore
attribute [local go_sem] max2_int min2_int max_two min_two max_three min_three max_four min_four   -- for this text's walks alone
set_option linter.unusedVariables false
set_option linter.unusedSimpArgs false

/-! ### cmp_Compare_int: function 52 -/
def cmp_Compare_int.f (a0 : Int) (a1 : Int) : Option (Int) := (cmp_isNaN_int.f a0).bind fun t261 => ((cmp_isNaN_int.f a1).bind fun t262 => (if t261 = true then (if t262 = true then (some 0) else (some (-1))) else (if t262 = true then (some 1) else (if a0 < a1 then (some (-1)) else (if a0 > a1 then (some 1) else (some 0))))))
set_option maxHeartbeats 8000000 in
set_option maxRecDepth 100000 in
theorem cmp_Compare_int.calls (a0 : Int) (a1 : Int) (r : Int) (w : World) (h : cmp_Compare_int.f a0 a1 = some r) :
    Calls Try.prog 52 #[.int .i64 a0, .int .i64 a1] w fun e w' => e = .returned (.int .i64 r) ∧ Drawn0 w w' := by
  have H : ((cmp_isNaN_int.f a0).bind fun t261 => ((cmp_isNaN_int.f a1).bind fun t262 => (if t261 = true then (if t262 = true then (some 0) else (some (-1))) else (if t262 = true then (some 1) else (if a0 < a1 then (some (-1)) else (if a0 > a1 then (some 1) else (some 0))))))) = some r := h
  clear h
  replace H := Option.bind_eq_some_iff.mp H
  obtain ⟨t261, A30, H⟩ := H
  replace H : ((cmp_isNaN_int.f a1).bind fun t262 => (if t261 = true then (if t262 = true then (some 0) else (some (-1))) else (if t262 = true then (some 1) else (if a0 < a1 then (some (-1)) else (if a0 > a1 then (some 1) else (some 0)))))) = some r := H
  have A3 := Aside0.mk A30
  clear A30
  replace H := Option.bind_eq_some_iff.mp H
  obtain ⟨t262, A40, H⟩ := H
  replace H : (if t261 = true then (if t262 = true then (some 0) else (some (-1))) else (if t262 = true then (some 1) else (if a0 < a1 then (some (-1)) else (if a0 > a1 then (some 1) else (some 0))))) = some r := H
  have A4 := Aside0.mk A40
  clear A40
  by_cases c5 : t261 = true
  · subst c5
    have H1 : (if t262 = true then (some 0) else (some (-1))) = some r := by rw [if_pos rfl] at H; exact H
    clear H
    have H := H1
    clear H1
    by_cases c6 : t262 = true
    · subst c6
      have H1 : (some 0) = some r := by rw [if_pos rfl] at H; exact H
      clear H
      have H := H1
      clear H1
      obtain rfl := Option.some.inj H
      go_enter Try.func52, Try.ntmps52
      go_wp2_with (first | ((with_reducible refine gate_callee (f := 68) rfl ?_); refine goesL_ (some 8) rfl rfl Try.func68 (by kernel_rfl) rfl #[.int .i64 a0] rfl (by (try simp only [List.map_toArray, List.map_cons, List.map_nil]); first | done | rfl | (simp only [List.length_drop, List.length_take]; rfl)) ?_; (with_reducible refine (cmp_isNaN_int.calls a0 true _ A3.out).mono ?_); rintro e w' ⟨rfl, ⟨nd, rfl⟩⟩; refine ⟨_, rfl, ?_⟩) | ((with_reducible refine gate_callee (f := 68) rfl ?_); refine goesL_ (some 10) rfl rfl Try.func68 (by kernel_rfl) rfl #[.int .i64 a1] rfl (by (try simp only [List.map_toArray, List.map_cons, List.map_nil]); first | done | rfl | (simp only [List.length_drop, List.length_take]; rfl)) ?_; (with_reducible refine (cmp_isNaN_int.calls a1 true _ A4.out).mono ?_); rintro e w' ⟨rfl, ⟨nd, rfl⟩⟩; refine ⟨_, rfl, ?_⟩))
      go_ret
      exact ⟨by first | rfl | (simp; done) | (simp [*]; done), by repeat (first | exact Drawn0.refl _ | apply Drawn0.step)⟩
    · replace c6 := Bool.eq_false_iff.mpr c6
      subst c6
      have H1 : (some (-1)) = some r := by rw [if_neg (show ¬ (false = true) by decide)] at H; exact H
      clear H
      have H := H1
      clear H1
      obtain rfl := Option.some.inj H
      go_enter Try.func52, Try.ntmps52
      go_wp2_with (first | ((with_reducible refine gate_callee (f := 68) rfl ?_); refine goesL_ (some 8) rfl rfl Try.func68 (by kernel_rfl) rfl #[.int .i64 a0] rfl (by (try simp only [List.map_toArray, List.map_cons, List.map_nil]); first | done | rfl | (simp only [List.length_drop, List.length_take]; rfl)) ?_; (with_reducible refine (cmp_isNaN_int.calls a0 true _ A3.out).mono ?_); rintro e w' ⟨rfl, ⟨nd, rfl⟩⟩; refine ⟨_, rfl, ?_⟩) | ((with_reducible refine gate_callee (f := 68) rfl ?_); refine goesL_ (some 10) rfl rfl Try.func68 (by kernel_rfl) rfl #[.int .i64 a1] rfl (by (try simp only [List.map_toArray, List.map_cons, List.map_nil]); first | done | rfl | (simp only [List.length_drop, List.length_take]; rfl)) ?_; (with_reducible refine (cmp_isNaN_int.calls a1 false _ A4.out).mono ?_); rintro e w' ⟨rfl, ⟨nd, rfl⟩⟩; refine ⟨_, rfl, ?_⟩))
      go_ret
      exact ⟨by first | rfl | (simp; done) | (simp [*]; done), by repeat (first | exact Drawn0.refl _ | apply Drawn0.step)⟩
  · replace c5 := Bool.eq_false_iff.mpr c5
    subst c5
    have H1 : (if t262 = true then (some 1) else (if a0 < a1 then (some (-1)) else (if a0 > a1 then (some 1) else (some 0)))) = some r := by rw [if_neg (show ¬ (false = true) by decide)] at H; exact H
    clear H
    have H := H1
    clear H1
    by_cases c7 : t262 = true
    · subst c7
      have H1 : (some 1) = some r := by rw [if_pos rfl] at H; exact H
      clear H
      have H := H1
      clear H1
      obtain rfl := Option.some.inj H
      go_enter Try.func52, Try.ntmps52
      go_wp2_with (first | ((with_reducible refine gate_callee (f := 68) rfl ?_); refine goesL_ (some 8) rfl rfl Try.func68 (by kernel_rfl) rfl #[.int .i64 a0] rfl (by (try simp only [List.map_toArray, List.map_cons, List.map_nil]); first | done | rfl | (simp only [List.length_drop, List.length_take]; rfl)) ?_; (with_reducible refine (cmp_isNaN_int.calls a0 false _ A3.out).mono ?_); rintro e w' ⟨rfl, ⟨nd, rfl⟩⟩; refine ⟨_, rfl, ?_⟩) | ((with_reducible refine gate_callee (f := 68) rfl ?_); refine goesL_ (some 10) rfl rfl Try.func68 (by kernel_rfl) rfl #[.int .i64 a1] rfl (by (try simp only [List.map_toArray, List.map_cons, List.map_nil]); first | done | rfl | (simp only [List.length_drop, List.length_take]; rfl)) ?_; (with_reducible refine (cmp_isNaN_int.calls a1 true _ A4.out).mono ?_); rintro e w' ⟨rfl, ⟨nd, rfl⟩⟩; refine ⟨_, rfl, ?_⟩))
      go_ret
      exact ⟨by first | rfl | (simp; done) | (simp [*]; done), by repeat (first | exact Drawn0.refl _ | apply Drawn0.step)⟩
    · replace c7 := Bool.eq_false_iff.mpr c7
      subst c7
      have H1 : (if a0 < a1 then (some (-1)) else (if a0 > a1 then (some 1) else (some 0))) = some r := by rw [if_neg (show ¬ (false = true) by decide)] at H; exact H
      clear H
      have H := H1
      clear H1
      by_cases c8 : a0 < a1
      · rw [if_pos c8] at H
        have c8b0 : decide (a0 < a1) = true := decide_eq_true c8
        clear c8
        obtain rfl := Option.some.inj H
        go_enter Try.func52, Try.ntmps52
        go_wp2_with (first | ((with_reducible refine gate_callee (f := 68) rfl ?_); refine goesL_ (some 8) rfl rfl Try.func68 (by kernel_rfl) rfl #[.int .i64 a0] rfl (by (try simp only [List.map_toArray, List.map_cons, List.map_nil]); first | done | rfl | (simp only [List.length_drop, List.length_take]; rfl)) ?_; (with_reducible refine (cmp_isNaN_int.calls a0 false _ A3.out).mono ?_); rintro e w' ⟨rfl, ⟨nd, rfl⟩⟩; refine ⟨_, rfl, ?_⟩) | ((with_reducible refine gate_callee (f := 68) rfl ?_); refine goesL_ (some 10) rfl rfl Try.func68 (by kernel_rfl) rfl #[.int .i64 a1] rfl (by (try simp only [List.map_toArray, List.map_cons, List.map_nil]); first | done | rfl | (simp only [List.length_drop, List.length_take]; rfl)) ?_; (with_reducible refine (cmp_isNaN_int.calls a1 false _ A4.out).mono ?_); rintro e w' ⟨rfl, ⟨nd, rfl⟩⟩; refine ⟨_, rfl, ?_⟩))
        go_ret
        exact ⟨by first | rfl | (simp; done) | (simp [*]; done), by repeat (first | exact Drawn0.refl _ | apply Drawn0.step)⟩
      · rw [if_neg c8] at H
        have c8b0 : decide (a0 < a1) = false := decide_eq_false c8
        clear c8
        by_cases c9 : a0 > a1
        · rw [if_pos c9] at H
          have c9b0 : decide (a1 < a0) = true := decide_eq_true c9
          clear c9
          obtain rfl := Option.some.inj H
          go_enter Try.func52, Try.ntmps52
          go_wp2_with (first | ((with_reducible refine gate_callee (f := 68) rfl ?_); refine goesL_ (some 8) rfl rfl Try.func68 (by kernel_rfl) rfl #[.int .i64 a0] rfl (by (try simp only [List.map_toArray, List.map_cons, List.map_nil]); first | done | rfl | (simp only [List.length_drop, List.length_take]; rfl)) ?_; (with_reducible refine (cmp_isNaN_int.calls a0 false _ A3.out).mono ?_); rintro e w' ⟨rfl, ⟨nd, rfl⟩⟩; refine ⟨_, rfl, ?_⟩) | ((with_reducible refine gate_callee (f := 68) rfl ?_); refine goesL_ (some 10) rfl rfl Try.func68 (by kernel_rfl) rfl #[.int .i64 a1] rfl (by (try simp only [List.map_toArray, List.map_cons, List.map_nil]); first | done | rfl | (simp only [List.length_drop, List.length_take]; rfl)) ?_; (with_reducible refine (cmp_isNaN_int.calls a1 false _ A4.out).mono ?_); rintro e w' ⟨rfl, ⟨nd, rfl⟩⟩; refine ⟨_, rfl, ?_⟩))
          go_ret
          exact ⟨by first | rfl | (simp; done) | (simp [*]; done), by repeat (first | exact Drawn0.refl _ | apply Drawn0.step)⟩
        · rw [if_neg c9] at H
          have c9b0 : decide (a1 < a0) = false := decide_eq_false c9
          clear c9
          obtain rfl := Option.some.inj H
          go_enter Try.func52, Try.ntmps52
          go_wp2_with (first | ((with_reducible refine gate_callee (f := 68) rfl ?_); refine goesL_ (some 8) rfl rfl Try.func68 (by kernel_rfl) rfl #[.int .i64 a0] rfl (by (try simp only [List.map_toArray, List.map_cons, List.map_nil]); first | done | rfl | (simp only [List.length_drop, List.length_take]; rfl)) ?_; (with_reducible refine (cmp_isNaN_int.calls a0 false _ A3.out).mono ?_); rintro e w' ⟨rfl, ⟨nd, rfl⟩⟩; refine ⟨_, rfl, ?_⟩) | ((with_reducible refine gate_callee (f := 68) rfl ?_); refine goesL_ (some 10) rfl rfl Try.func68 (by kernel_rfl) rfl #[.int .i64 a1] rfl (by (try simp only [List.map_toArray, List.map_cons, List.map_nil]); first | done | rfl | (simp only [List.length_drop, List.length_take]; rfl)) ?_; (with_reducible refine (cmp_isNaN_int.calls a1 false _ A4.out).mono ?_); rintro e w' ⟨rfl, ⟨nd, rfl⟩⟩; refine ⟨_, rfl, ?_⟩))
          go_ret
          exact ⟨by first | rfl | (simp; done) | (simp [*]; done), by repeat (first | exact Drawn0.refl _ | apply Drawn0.step)⟩

section
open Go.Shelf
attribute [local go_sem] Oper.semAt_some
def cmpN : List ByteArray → List ByteArray → Option Int
  | [], [] => some 0
  | [], _ :: _ => some (-1)
  | _ :: _, [] => some 1
  | x :: xs, y :: ys => (label_Compare.f x y).bind fun c => if c = 0 then cmpN xs ys else some c
def name_Compare.f (k : Nat) (a0 a1 : ByteArray) : Option Int := (name_Labels.f k a0).bind fun x => (name_Labels.f k a1).bind fun y => (slices_Reverse_string_string.f k x).bind fun x2 => (slices_Reverse_string_string.f k y).bind fun y2 => cmpN x2 y2
theorem name_Compare.mono : ∀ a0 a1 k, LeO (name_Compare.f k a0 a1) (name_Compare.f (k + 1) a0 a1) := by
  intro a0 a1 k
  unfold name_Compare.f
  exact LeO.bind (name_Labels.mono a0 k) (fun _ => LeO.bind (name_Labels.mono a1 k) (fun _ => LeO.bind (slices_Reverse_string_string.mono _ k) (fun _ => LeO.bind (slices_Reverse_string_string.mono _ k) (fun _ => LeO.refl _))))
theorem cmp_int (a b : Int) : cmp_Compare_int.f a b = some (if a < b then -1 else if a > b then 1 else 0) := by
  unfold cmp_Compare_int.f cmp_isNaN_int.f
  rw [Option.bind_some, Option.bind_some]
  have h : ∀ x : Int, (x != x) = false := fun x => bne_self_eq_false x
  rw [h, h, if_neg (by decide), if_neg (by decide)]
  by_cases c : a < b
  · rw [if_pos c, if_pos c]
  · rw [if_neg c, if_neg c]
    by_cases d : a > b
    · rw [if_pos d, if_pos d]
    · rw [if_neg d, if_neg d]
theorem cmpN_len {x y : List ByteArray} {n : Nat} {r : Int} (h : cmpN (x.drop n) (y.drop n) = some r) (hn : n ≤ x.length) (hm : n ≤ y.length) (he : n = x.length ∨ n = y.length) : cmp_Compare_int.f x.length y.length = some r := by
  rw [cmp_int]
  rcases he with rfl | rfl
  · rw [List.drop_length] at h
    cases hy : y.drop x.length with
    | nil =>
      rw [hy] at h
      have : y.length ≤ x.length := List.drop_eq_nil_iff.1 hy
      rw [if_neg (by omega), if_neg (by omega)]
      exact h
    | cons b t =>
      rw [hy] at h
      have : x.length < y.length := by
        have := congrArg List.length hy
        simp at this
        omega
      rw [if_pos (by omega)]
      exact h
  · rw [List.drop_length] at h
    cases hx : x.drop y.length with
    | nil =>
      rw [hx] at h
      have : x.length ≤ y.length := List.drop_eq_nil_iff.1 hx
      rw [if_neg (by omega), if_neg (by omega)]
      exact h
    | cons b t =>
      rw [hx] at h
      have : y.length < x.length := by
        have := congrArg List.length hx
        simp at this
        omega
      rw [if_neg (by omega), if_pos (by omega)]
      exact h
theorem cmpN_step {x y : List ByteArray} {n : Nat} {r : Int} (h : cmpN (x.drop n) (y.drop n) = some r) (hn : n < x.length) (hm : n < y.length) : ∃ c, label_Compare.f (rdOf ByteArray.empty x (n : Int)) (rdOf ByteArray.empty y (n : Int)) = some c ∧ (if c = 0 then cmpN (x.drop (n + 1)) (y.drop (n + 1)) else some c) = some r := by
  rw [List.drop_eq_getElem_cons hn, List.drop_eq_getElem_cons hm] at h
  rw [rdOf_at hn, rdOf_at hm]
  have h' : ((label_Compare.f x[n] y[n]).bind fun c => if c = 0 then cmpN (x.drop (n + 1)) (y.drop (n + 1)) else some c) = some r := h
  cases hc : label_Compare.f x[n] y[n] with
  | none => rw [hc] at h'; cases h'
  | some c =>
    rw [hc, Option.bind_some] at h'
    exact ⟨c, rfl, h'⟩
theorem cp_rev1 (k : Nat) (x y x2 : List ByteArray) (A3 A4 : Option Addr) (c3 c4 : Nat) (w w3 w4 : World) (hr3 : Kd.R Kd.string 9 w3 w.heap.size (fun _ => True) (.slice A3 x.length c3) x) (hb3 : Below w.heap.size w w3) (hb4 : Below w3.heap.size w3 w4) (hr4 : Kd.R Kd.string 9 w4 w3.heap.size (fun _ => True) (.slice A4 y.length c4) y) (hx2 : slices_Reverse_string_string.f k x = some x2) :
    Calls Try.prog 50 #[.slice A3 x.length c3] w4 fun e w5 => e = .returned (.tuple #[]) ∧ (Kd.R Kd.string 9 w5 w.heap.size (fun j => j < w3.heap.size ∨ w4.heap.size ≤ j) (.slice A3 x.length c3) x2 ∧ Kd.R Kd.string 9 w5 w.heap.size (fun j => w3.heap.size ≤ j ∧ j < w4.heap.size) (.slice A4 y.length c4) y ∧ Below w.heap.size w w5 ∧ w4.heap.size ≤ w5.heap.size) := by
  have h1 : Kd.R Kd.string 9 w4 w.heap.size (fun j => j < w3.heap.size) (.slice A3 x.length c3) x := Kd.R_below (Kd.R_mono (Kd.R_bound hr3) (fun j hj => hj.2.2.1)) hb4
  have hB4 : Below w.heap.size w w4 := hb3.trans (hb4.mono hb3.size)
  refine (slices_Reverse_string_string.calls k (fun j => j < w3.heap.size) _ x x2 w w4 hB4 h1 hx2).mono ?_
  rintro e w5 ⟨rfl, hr, hb, hk⟩
  refine ⟨rfl, hr, ?_, hb, hk.1⟩
  have h2 : Kd.R Kd.string 9 w4 w3.heap.size (fun j => w3.heap.size ≤ j ∧ j < w4.heap.size) (.slice A4 y.length c4) y := Kd.R_mono (Kd.R_bound hr4) (fun j hj => ⟨hj.2.1, hj.2.2.1⟩)
  exact Kd.R_lower (Kd.R_step h2 (fun j hj hl => hk.2 j hl (Nat.not_lt.2 hj.1))) hb3.size
theorem cp_rev2 (k : Nat) (x2 y y2 : List ByteArray) (A3 A4 : Option Addr) (n3 c3 c4 a b : Nat) (w w5 : World) (hr3 : Kd.R Kd.string 9 w5 w.heap.size (fun j => j < a ∨ b ≤ j) (.slice A3 n3 c3) x2) (hr4 : Kd.R Kd.string 9 w5 w.heap.size (fun j => a ≤ j ∧ j < b) (.slice A4 y.length c4) y) (hb : Below w.heap.size w w5) (hy2 : slices_Reverse_string_string.f k y = some y2) :
    Calls Try.prog 50 #[.slice A4 y.length c4] w5 fun e w6 => e = .returned (.tuple #[]) ∧ (Kd.C Kd.string w6 A3 x2.length x2 ∧ n3 = x2.length ∧ Kd.C Kd.string w6 A4 y2.length y2 ∧ y.length = y2.length ∧ Below w.heap.size w w6) := by
  refine (slices_Reverse_string_string.calls k (fun j => a ≤ j ∧ j < b) _ y y2 w w5 hb hr4 hy2).mono ?_
  rintro e w6 ⟨rfl, hr, hb6, hk⟩
  have h3 : Kd.R Kd.string 9 w6 w.heap.size (fun j => j < a ∨ b ≤ j) (.slice A3 n3 c3) x2 := Kd.R_step hr3 (fun j hj hl => hk.2 j hl (by omega))
  exact ⟨rfl, (Kd.R_reads' h3).2.2, (Kd.R_reads' h3).1, (Kd.R_reads' hr).2.2, (Kd.R_reads' hr).1, hb6⟩
set_option maxRecDepth 100000 in
set_option maxHeartbeats 4000000 in
theorem name_Compare.calls (k : Nat) (a0 : ByteArray) (a1 : ByteArray) (r : Int) (w : World) (h : name_Compare.f k a0 a1 = some r) :
    Calls Try.prog 24 #[.string a0, .string a1] w fun e w' => e = .returned (.int .i64 r) ∧ Below w.heap.size w w' := by
  unfold name_Compare.f at h
  obtain ⟨x, hx, h⟩ := Option.bind_eq_some_iff.mp h
  obtain ⟨y, hy, h⟩ := Option.bind_eq_some_iff.mp h
  obtain ⟨x2, hx2, h⟩ := Option.bind_eq_some_iff.mp h
  obtain ⟨y2, hy2, h⟩ := Option.bind_eq_some_iff.mp h
  have hxl := name_Labels_le hx
  have hyl := name_Labels_le hy
  have HX := Aside0.mk hx
  have HY := Aside0.mk hy
  have HX2 := Aside0.mk hx2
  have HY2 := Aside0.mk hy2
  have HR := Aside0.mk h
  clear hx hy hx2 hy2 h
  go_enter Try.func24, Try.ntmps24
  go_wp2_with (first
    | (go_at_call 18; (with_reducible refine (name_Labels.calls k a0 x _ HX.out).mono ?_); rintro e w3 ⟨v3, rfl, hr3, hb3⟩; have HR3 := Aside0.mk hr3; have HB3 := Aside0.mk hb3; clear hr3 hb3; obtain ⟨A3, c3, e3⟩ := Kd.R_slice HR3.out; subst e3)
    | (go_at_call 18; (with_reducible refine (name_Labels.calls k a1 y _ HY.out).mono ?_); rintro e w4 ⟨v4, rfl, hr4, hb4⟩; have HR4 := Aside0.mk hr4; have HB4 := Aside0.mk hb4; clear hr4 hb4; obtain ⟨A4, c4, e4⟩ := Kd.R_slice HR4.out; subst e4)
    | (go_at_call 50; (with_reducible refine (cp_rev1 k x y x2 A3 A4 c3 c4 w w3 w4 HR3.out HB3.out HB4.out HR4.out HX2.out).mono ?_); rintro e w5 ⟨rfl, h5⟩; have H5 := Aside0.mk h5; clear h5)
    | (go_at_call 50; (with_reducible refine (cp_rev2 k x2 y y2 A3 A4 _ c3 c4 w3.heap.size w4.heap.size w w5 H5.out.1 H5.out.2.1 H5.out.2.2.1 HY2.out).mono ?_); rintro e w6 ⟨rfl, h6⟩; have H6 := Aside0.mk h6; clear h6))
  go_loopg [20] x.length (fun kq v20 w' => ∃ n : Nat, v20 = .int .i64 (n : Int) ∧ Aside0 (n + kq = x.length) ∧ Aside0 (n ≤ y.length) ∧ Aside0 (cmpN (x2.drop n) (y2.drop n) = some r) ∧ Aside0 (Below w6.heap.size w6 w'))
  case atStart => exact ⟨0, rfl, ⟨by omega⟩, ⟨Nat.zero_le _⟩, ⟨HR.out⟩, ⟨by first | exact Below.refl _ _ | exact pw_below_drewN (Below.refl _ _) _⟩⟩
  case round =>
    obtain ⟨n, rfl, HN, HNY, HCM, HB⟩ := hrel
    have hN := HN.out
    have hNY := HNY.out
    have e1 := H6.out.2.1
    have e2 := H6.out.2.2.2.1
    have hC1 := Kd.C_below H6.out.1 HB.out
    have hC2 := Kd.C_below H6.out.2.2.1 HB.out
    have hbW : Below w.heap.size w wr := H6.out.2.2.2.2.trans (HB.out.mono H6.out.2.2.2.2.size)
    have hbs : wr.heap.size ≤ wr.heap.size := Nat.le_refl _
    by_cases hn : n < x.length
    · obtain ⟨ad, ea, hx⟩ := Kd.at_string hC1 (n : Int) (by omega) (by omega)
      subst ea
      rw [Int.toNat_natCast] at hx
      have b1 : decide ((n : Int) < (x.length : Int)) = true := decide_eq_true (by omega)
      have p1 : (0 ≤ (n : Int)) = True := eq_true (by omega)
      have q1 : ((n : Int) < (x.length : Int)) = True := eq_true (by omega)
      by_cases hm : n < y.length
      · obtain ⟨ad2, eb, hy⟩ := Kd.at_string hC2 (n : Int) (by omega) (by omega)
        subst eb
        rw [Int.toNat_natCast] at hy
        obtain ⟨c, hc, hrest⟩ := cmpN_step HCM.out (by omega) (by omega)
        obtain ⟨p, hp⟩ : ∃ p, rdOf ByteArray.empty x2 (n : Int) = p := ⟨_, rfl⟩
        obtain ⟨q, hq⟩ : ∃ q, rdOf ByteArray.empty y2 (n : Int) = q := ⟨_, rfl⟩
        rw [hp, hq] at hc
        rw [hp] at hx
        rw [hq] at hy
        have HT := Aside0.mk (fun (W : World) => label_Compare.calls p q c W hc)
        have HBW := Aside0.mk hbW
        have b2 : ((n : Int) == (y.length : Int)) = false := beq_eq_false_iff_ne.2 (by omega)
        have q2 : ((n : Int) < (y.length : Int)) = True := eq_true (by omega)
        have hw : wrap64 ((n : Int) + 1) = ((n + 1 : Nat) : Int) := by
          rw [wrap_id (by omega) (by omega)]
          rfl
        clear e1 e2 hC1 hC2 hbW hc hp hq
        by_cases c0 : c = 0
        · subst c0
          rw [if_pos rfl] at hrest
          have HRE := Aside0.mk hrest
          clear hrest
          go_wp2_with (go_at_call 51; (with_reducible refine (HT.out _).mono ?_); rintro e w7 ⟨rfl, hb7⟩; have HB7 := Aside0.mk hb7; clear hb7)
          go_roundg (gk - 1)
          case measure => omega
          case rel => exact ⟨n + 1, rfl, ⟨by omega⟩, ⟨by omega⟩, HRE, ⟨HB.out.trans (HB7.out.mono HB.out.size)⟩⟩
        · rw [if_neg c0] at hrest
          obtain rfl := Option.some.inj hrest
          have c1 : (c == 0) = false := beq_eq_false_iff_ne.2 c0
          have c2 : (c != 0) = true := bne_iff_ne.2 c0
          clear hrest
          go_wp2_with (go_at_call 51; (with_reducible refine (HT.out _).mono ?_); rintro e w7 ⟨rfl, hb7⟩; have HB7 := Aside0.mk hb7; clear hb7)
          go_ret
          exact ⟨rfl, HBW.out.trans (HB7.out.mono HBW.out.size)⟩
      · have en : n = y.length := by omega
        have hcm := cmpN_len HCM.out (by omega) (by omega) (Or.inr (by omega))
        rw [← e1, ← e2] at hcm
        have HT := Aside0.mk (fun (W : World) => cmp_Compare_int.calls _ _ _ W hcm)
        have HBW := Aside0.mk hbW
        clear e1 e2 hC1 hC2 hbW hcm
        subst en
        have b2 : ((y.length : Int) == (y.length : Int)) = true := beq_iff_eq.2 rfl
        go_wp2_with (go_at_call 52; (with_reducible refine (HT.out _).mono ?_); rintro e w7 ⟨rfl, ⟨nd, rfl⟩⟩)
        go_ret
        exact ⟨rfl, pw_below_drewN HBW.out _⟩
    · have en : n = x.length := by omega
      have hcm := cmpN_len HCM.out (by omega) (by omega) (Or.inl (by omega))
      rw [← e1, ← e2] at hcm
      have HT := Aside0.mk (fun (W : World) => cmp_Compare_int.calls _ _ _ W hcm)
      have HBW := Aside0.mk hbW
      clear e1 e2 hC1 hC2 hbW hcm
      subst en
      have b1 : decide ((x.length : Int) < (x.length : Int)) = false := decide_eq_false (by omega)
      go_wp2_with (go_at_call 52; (with_reducible refine (HT.out _).mono ?_); rintro e w7 ⟨rfl, ⟨nd, rfl⟩⟩)
      go_ret
      exact ⟨rfl, pw_below_drewN HBW.out _⟩
end

/-! ### nameplateref01_Compare: function 53 -/
mutual
def nameplateref01_Compare.l0 : Nat → ByteArray → ByteArray → Int → Option (Int)
  | 0, _, _, _ => none
  | k + 1, x0, x1, x5 => if x5 < (x0.size : Int) then (nameplateref01_Compare.j1 k x0 x1 x5 (decide (x5 < (x1.size : Int)))) else (nameplateref01_Compare.j1 k x0 x1 x5 false)
def nameplateref01_Compare.j1 : Nat → ByteArray → ByteArray → Int → Bool → Option (Int)
  | 0, _, _, _, _ => none
  | k + 1, x0, x1, x5, x19 => if x19 = true then (if 0 ≤ x5 then (if x5 < (x0.size : Int) then (if x5 < (x1.size : Int) then (if (bt x0 x5) < (bt x1 x5) then (some (-1)) else (if (bt x0 x5) > (bt x1 x5) then (some 1) else (nameplateref01_Compare.l0 k x0 x1 (wrap64 (x5 + 1))))) else (none)) else (none)) else (none)) else (if (x0.size : Int) < (x1.size : Int) then (some (-1)) else (if (x0.size : Int) > (x1.size : Int) then (some 1) else (some 0)))
end
def nameplateref01_Compare.f (k : Nat) (a0 : ByteArray) (a1 : ByteArray) : Option (Int) := (nameplateref01_Fold.f a0).bind fun t263 => ((nameplateref01_Fold.f a1).bind fun t264 => (nameplateref01_Compare.l0 k t263 t264 0))
theorem nameplateref01_Compare.mono_l : ∀ k, (∀ y0 y1 y2, LeO (nameplateref01_Compare.l0 k y0 y1 y2) (nameplateref01_Compare.l0 (k + 1) y0 y1 y2)) ∧ (∀ y0 y1 y2 y3, LeO (nameplateref01_Compare.j1 k y0 y1 y2 y3) (nameplateref01_Compare.j1 (k + 1) y0 y1 y2 y3))
  | 0 => ⟨fun _ _ _ r h => by simp [nameplateref01_Compare.l0] at h, fun _ _ _ _ r h => by simp [nameplateref01_Compare.j1] at h⟩
  | k + 1 => by
    obtain ⟨ih0, ih1⟩ := nameplateref01_Compare.mono_l k
    refine ⟨?_, ?_⟩
    · intro y0 y1 y2
      unfold nameplateref01_Compare.l0
      repeat' first
      | (with_reducible exact ih0 _ _ _)
      | (with_reducible exact ih1 _ _ _ _)
      | (with_reducible exact LeO.refl _)
      | (with_reducible exact LeO.none _)
      | (with_reducible refine LeO.ite ?_ ?_)
      | (with_reducible refine LeO.bind ?_ (fun _ => ?_))
      | exact ih0 _ _ _
      | exact ih1 _ _ _ _
      | exact LeO.none _
      | refine LeO.ite ?_ ?_
      | refine LeO.bind ?_ (fun _ => ?_)
    · intro y0 y1 y2 y3
      unfold nameplateref01_Compare.j1
      repeat' first
      | (with_reducible exact ih0 _ _ _)
      | (with_reducible exact ih1 _ _ _ _)
      | (with_reducible exact LeO.refl _)
      | (with_reducible exact LeO.none _)
      | (with_reducible refine LeO.ite ?_ ?_)
      | (with_reducible refine LeO.bind ?_ (fun _ => ?_))
      | exact ih0 _ _ _
      | exact ih1 _ _ _ _
      | exact LeO.none _
      | refine LeO.ite ?_ ?_
      | refine LeO.bind ?_ (fun _ => ?_)
theorem nameplateref01_Compare.mono : ∀ a0 a1 k, LeO (nameplateref01_Compare.f k a0 a1) (nameplateref01_Compare.f (k + 1) a0 a1) := by
  intro a0 a1 k
  obtain ⟨ih0, ih1⟩ := nameplateref01_Compare.mono_l k
  unfold nameplateref01_Compare.f
  repeat' first
      | (with_reducible exact ih0 _ _ _)
      | (with_reducible exact ih1 _ _ _ _)
      | (with_reducible exact LeO.refl _)
      | (with_reducible exact LeO.none _)
      | (with_reducible refine LeO.ite ?_ ?_)
      | (with_reducible refine LeO.bind ?_ (fun _ => ?_))
      | exact ih0 _ _ _
      | exact ih1 _ _ _ _
      | exact LeO.none _
      | refine LeO.ite ?_ ?_
      | refine LeO.bind ?_ (fun _ => ?_)
set_option maxHeartbeats 8000000 in
set_option maxRecDepth 100000 in
theorem nameplateref01_Compare.calls (k : Nat) (a0 : ByteArray) (a1 : ByteArray) (r : Int) (w : World) (h : nameplateref01_Compare.f k a0 a1 = some r) :
    Calls Try.prog 53 #[.string a0, .string a1] w fun e w' => e = .returned (.int .i64 r) ∧ Below w.heap.size w w' := by
  have HB := Aside0.mk (Below.refl w.heap.size w)
  have H : ((nameplateref01_Fold.f a0).bind fun t263 => ((nameplateref01_Fold.f a1).bind fun t264 => (nameplateref01_Compare.l0 k t263 t264 0))) = some r := h
  clear h
  replace H := Option.bind_eq_some_iff.mp H
  obtain ⟨t263, A30, H⟩ := H
  replace H : ((nameplateref01_Fold.f a1).bind fun t264 => (nameplateref01_Compare.l0 k t263 t264 0)) = some r := H
  have A3 := Aside0.mk A30
  clear A30
  replace H := Option.bind_eq_some_iff.mp H
  obtain ⟨t264, A40, H⟩ := H
  replace H : (nameplateref01_Compare.l0 k t263 t264 0) = some r := H
  have A4 := Aside0.mk A40
  clear A40
  have H' := Aside0.mk H
  clear H
  go_enter Try.func53, Try.ntmps53
  go_wp2_with (first | (go_at_call 47; (with_reducible refine (nameplateref01_Fold.calls a0 t263 _ A3.out).mono ?_); rintro e w5 ⟨rfl, hb⟩; have n0_ := Aside0.mk (below_step (by repeat (first | (with_reducible first | exact HB.out | apply below_alloc | apply pw_below_drewN | apply below_drew1) | exact HB.out)) hb); clear HB; have HB := n0_; clear n0_; (try clear hb); (try clear hb2); (try clear hk); (try clear hi)) | (go_at_call 47; (with_reducible refine (nameplateref01_Fold.calls a1 t264 _ A4.out).mono ?_); rintro e w6 ⟨rfl, hb⟩; have n0_ := Aside0.mk (below_step (by repeat (first | (with_reducible first | exact HB.out | apply below_alloc | apply pw_below_drewN | apply below_drew1) | exact HB.out)) hb); clear HB; have HB := n0_; clear n0_; (try clear hb); (try clear hb2); (try clear hk); (try clear hi)))
  repeat (go_quiet (first | (go_at_call 47; (with_reducible refine (nameplateref01_Fold.calls a0 t263 _ A3.out).mono ?_); rintro e w5 ⟨rfl, hb⟩; have n0_ := Aside0.mk (below_step (by repeat (first | (with_reducible first | exact HB.out | apply below_alloc | apply pw_below_drewN | apply below_drew1) | exact HB.out)) hb); clear HB; have HB := n0_; clear n0_; (try clear hb); (try clear hb2); (try clear hk); (try clear hi)) | (go_at_call 47; (with_reducible refine (nameplateref01_Fold.calls a1 t264 _ A4.out).mono ?_); rintro e w6 ⟨rfl, hb⟩; have n0_ := Aside0.mk (below_step (by repeat (first | (with_reducible first | exact HB.out | apply below_alloc | apply pw_below_drewN | apply below_drew1) | exact HB.out)) hb); clear HB; have HB := n0_; clear n0_; (try clear hb); (try clear hb2); (try clear hk); (try clear hi))); try go_wp2_with (first | (go_at_call 47; (with_reducible refine (nameplateref01_Fold.calls a0 t263 _ A3.out).mono ?_); rintro e w5 ⟨rfl, hb⟩; have n0_ := Aside0.mk (below_step (by repeat (first | (with_reducible first | exact HB.out | apply below_alloc | apply pw_below_drewN | apply below_drew1) | exact HB.out)) hb); clear HB; have HB := n0_; clear n0_; (try clear hb); (try clear hb2); (try clear hk); (try clear hi)) | (go_at_call 47; (with_reducible refine (nameplateref01_Fold.calls a1 t264 _ A4.out).mono ?_); rintro e w6 ⟨rfl, hb⟩; have n0_ := Aside0.mk (below_step (by repeat (first | (with_reducible first | exact HB.out | apply below_alloc | apply pw_below_drewN | apply below_drew1) | exact HB.out)) hb); clear HB; have HB := n0_; clear n0_; (try clear hb); (try clear hb2); (try clear hk); (try clear hi))))
  go_loopg [5] k (fun kq v5 w' => ∃ (x5_1 : Int), v5 = .int .i64 x5_1 ∧ Aside0 (nameplateref01_Compare.l0 kq t263 t264 x5_1 = some r) ∧ Aside0 (kq ≤ k) ∧ Aside0 (Below w.heap.size w w'))
  case atStart => exact ⟨(0), (by first | rfl | (simp; done) | (simp [*]; done)), H', ⟨Nat.le_refl _⟩, ⟨by repeat (first | (with_reducible first | exact HB.out | apply below_alloc | apply pw_below_drewN | apply below_drew1) | exact HB.out)⟩⟩
  case round =>
    clear H'
    try clear p2
    try clear c5
    obtain ⟨x5_1, rfl, HA, HK1, HB⟩ := hrel
    cases gk with
    | zero => exact absurd HA.out (by simp [nameplateref01_Compare.l0])
    | succ k1 =>
      have H := HA.out
      clear HA
      simp only [nameplateref01_Compare.l0] at H
      have HC7 := Aside0.mk H
      clear H
      go_upto_region 3 with (fail)
      repeat (go_quiet (fail); go_upto_region 3 with (fail))
      go_cut [19] (fun v19 wc => ∃ (kq : Nat) (x19_6 : Bool), v19 = .bool x19_6 ∧ Aside0 (nameplateref01_Compare.j1 kq t263 t264 x5_1 x19_6 = some r) ∧ Aside0 (kq ≤ k1) ∧ Aside0 (Below w.heap.size w wc))
      case first =>
        have H := HC7.out
        clear HC7
        by_cases c8 : x5_1 < (t263.size : Int)
        · rw [if_pos c8] at H
          have c8b0 : decide (x5_1 < (t263.size : Int)) = true := decide_eq_true c8
          clear c8
          (first | rw [c8b0] | (simp only [i64_w, i32_w]; rw [c8b0]) | skip)
          have H' := Aside0.mk H
          clear H
          go_wp2
          repeat (go_quiet (fail); try go_wp2)
          go_meet
          case rel => exact ⟨_, (decide (x5_1 < (t264.size : Int))), (by first | rfl | (simp; done) | (simp [*]; done)), H', ⟨by have := HK1.out; first | omega | exact Nat.le_refl _⟩, ⟨by repeat (first | (with_reducible first | exact HB.out | apply below_alloc | apply pw_below_drewN | apply below_drew1) | exact HB.out)⟩⟩
        · rw [if_neg c8] at H
          have c8b0 : decide (x5_1 < (t263.size : Int)) = false := decide_eq_false c8
          clear c8
          (first | rw [c8b0] | (simp only [i64_w, i32_w]; rw [c8b0]) | skip)
          have H' := Aside0.mk H
          clear H
          go_wp2
          repeat (go_quiet (fail); try go_wp2)
          go_meet
          case rel => exact ⟨_, (false), (by first | rfl | (simp; done) | (simp [*]; done)), H', ⟨by have := HK1.out; first | omega | exact Nat.le_refl _⟩, ⟨by repeat (first | (with_reducible first | exact HB.out | apply below_alloc | apply pw_below_drewN | apply below_drew1) | exact HB.out)⟩⟩
      case rest =>
        clear HC7
        try clear p2
        try clear c5
        try clear c8
        try clear c8b0
        try clear p2
        obtain ⟨kq, x19_6, rfl, HA, HJ6, HB⟩ := hcut
        cases kq with
        | zero => exact absurd HA.out (by simp [nameplateref01_Compare.j1])
        | succ kj6 =>
          have H := HA.out
          clear HA
          simp only [nameplateref01_Compare.j1] at H
          by_cases c9 : x19_6 = true
          · subst c9
            have H1 : (if 0 ≤ x5_1 then (if x5_1 < (t263.size : Int) then (if x5_1 < (t264.size : Int) then (if (bt t263 x5_1) < (bt t264 x5_1) then (some (-1)) else (if (bt t263 x5_1) > (bt t264 x5_1) then (some 1) else (nameplateref01_Compare.l0 kj6 t263 t264 (wrap64 (x5_1 + 1))))) else (none)) else (none)) else (none)) = some r := by rw [if_pos rfl] at H; exact H
            clear H
            have H := H1
            clear H1
            by_cases c10 : 0 ≤ x5_1
            · rw [if_pos c10] at H
              have c10b0 : decide (0 ≤ x5_1) = true := decide_eq_true c10
              clear c10
              by_cases c11 : x5_1 < (t263.size : Int)
              · rw [if_pos c11] at H
                have c11b0 : decide (x5_1 < (t263.size : Int)) = true := decide_eq_true c11
                clear c11
                by_cases c13 : x5_1 < (t264.size : Int)
                · rw [if_pos c13] at H
                  have c13b0 : decide (x5_1 < (t264.size : Int)) = true := decide_eq_true c13
                  clear c13
                  by_cases c15 : (bt t263 x5_1) < (bt t264 x5_1)
                  · rw [if_pos c15] at H
                    have c15b0 : decide ((bt t263 x5_1) < (bt t264 x5_1)) = true := decide_eq_true c15
                    clear c15
                    obtain rfl := Option.some.inj H
                    have p12 : 0 ≤ (x5_1 : Int) := of_decide_eq_true (by first | (with_reducible assumption) | assumption)
                    have q12 : x5_1 < (t263.size : Int) := of_decide_eq_true (by first | (with_reducible assumption) | assumption)
                    have hx12 := bt_at t263 x5_1
                    replace p12 := eq_true p12
                    replace q12 := eq_true q12
                    have p14 : 0 ≤ (x5_1 : Int) := of_decide_eq_true (by first | (with_reducible assumption) | assumption)
                    have q14 : x5_1 < (t264.size : Int) := of_decide_eq_true (by first | (with_reducible assumption) | assumption)
                    have hx14 := bt_at t264 x5_1
                    replace p14 := eq_true p14
                    replace q14 := eq_true q14
                    go_wp2
                    repeat (go_quiet (fail); try go_wp2)
                    go_ret
                    exact ⟨by first | rfl | (simp [errW_none, errW_some] <;> rfl) | (simp [*, errW_none, errW_some] <;> rfl), by repeat (first | (with_reducible first | exact HB.out | apply below_alloc | apply pw_below_drewN | apply below_drew1) | exact HB.out)⟩
                  · rw [if_neg c15] at H
                    have c15b0 : decide ((bt t263 x5_1) < (bt t264 x5_1)) = false := decide_eq_false c15
                    clear c15
                    by_cases c18 : (bt t263 x5_1) > (bt t264 x5_1)
                    · rw [if_pos c18] at H
                      have c18b0 : decide ((bt t264 x5_1) < (bt t263 x5_1)) = true := decide_eq_true c18
                      clear c18
                      obtain rfl := Option.some.inj H
                      have p12 : 0 ≤ (x5_1 : Int) := of_decide_eq_true (by first | (with_reducible assumption) | assumption)
                      have q12 : x5_1 < (t263.size : Int) := of_decide_eq_true (by first | (with_reducible assumption) | assumption)
                      have hx12 := bt_at t263 x5_1
                      replace p12 := eq_true p12
                      replace q12 := eq_true q12
                      have p14 : 0 ≤ (x5_1 : Int) := of_decide_eq_true (by first | (with_reducible assumption) | assumption)
                      have q14 : x5_1 < (t264.size : Int) := of_decide_eq_true (by first | (with_reducible assumption) | assumption)
                      have hx14 := bt_at t264 x5_1
                      replace p14 := eq_true p14
                      replace q14 := eq_true q14
                      have p16 : 0 ≤ (x5_1 : Int) := of_decide_eq_true (by first | (with_reducible assumption) | assumption)
                      have q16 : x5_1 < (t263.size : Int) := of_decide_eq_true (by first | (with_reducible assumption) | assumption)
                      have hx16 := bt_at t263 x5_1
                      replace p16 := eq_true p16
                      replace q16 := eq_true q16
                      have p17 : 0 ≤ (x5_1 : Int) := of_decide_eq_true (by first | (with_reducible assumption) | assumption)
                      have q17 : x5_1 < (t264.size : Int) := of_decide_eq_true (by first | (with_reducible assumption) | assumption)
                      have hx17 := bt_at t264 x5_1
                      replace p17 := eq_true p17
                      replace q17 := eq_true q17
                      go_wp2
                      repeat (go_quiet (fail); try go_wp2)
                      go_ret
                      exact ⟨by first | rfl | (simp [errW_none, errW_some] <;> rfl) | (simp [*, errW_none, errW_some] <;> rfl), by repeat (first | (with_reducible first | exact HB.out | apply below_alloc | apply pw_below_drewN | apply below_drew1) | exact HB.out)⟩
                    · rw [if_neg c18] at H
                      have c18b0 : decide ((bt t264 x5_1) < (bt t263 x5_1)) = false := decide_eq_false c18
                      clear c18
                      have H' := Aside0.mk H
                      clear H
                      have p12 : 0 ≤ (x5_1 : Int) := of_decide_eq_true (by first | (with_reducible assumption) | assumption)
                      have q12 : x5_1 < (t263.size : Int) := of_decide_eq_true (by first | (with_reducible assumption) | assumption)
                      have hx12 := bt_at t263 x5_1
                      replace p12 := eq_true p12
                      replace q12 := eq_true q12
                      have p14 : 0 ≤ (x5_1 : Int) := of_decide_eq_true (by first | (with_reducible assumption) | assumption)
                      have q14 : x5_1 < (t264.size : Int) := of_decide_eq_true (by first | (with_reducible assumption) | assumption)
                      have hx14 := bt_at t264 x5_1
                      replace p14 := eq_true p14
                      replace q14 := eq_true q14
                      have p16 : 0 ≤ (x5_1 : Int) := of_decide_eq_true (by first | (with_reducible assumption) | assumption)
                      have q16 : x5_1 < (t263.size : Int) := of_decide_eq_true (by first | (with_reducible assumption) | assumption)
                      have hx16 := bt_at t263 x5_1
                      replace p16 := eq_true p16
                      replace q16 := eq_true q16
                      have p17 : 0 ≤ (x5_1 : Int) := of_decide_eq_true (by first | (with_reducible assumption) | assumption)
                      have q17 : x5_1 < (t264.size : Int) := of_decide_eq_true (by first | (with_reducible assumption) | assumption)
                      have hx17 := bt_at t264 x5_1
                      replace p17 := eq_true p17
                      replace q17 := eq_true q17
                      go_wp2
                      repeat (go_quiet (fail); try go_wp2)
                      go_roundg kj6
                      case measure => have := HK1.out; have := HJ6.out; omega
                      case rel => exact ⟨(wrap64 (x5_1 + 1)), (by first | rfl | (simp; done) | (simp [*]; done)), H', ⟨by have := HK1.out; have := HJ6.out; omega⟩, ⟨by repeat (first | (with_reducible first | exact HB.out | apply below_alloc | apply pw_below_drewN | apply below_drew1) | exact HB.out)⟩⟩
                · rw [if_neg c13] at H
                  exact absurd H (by simp)
              · rw [if_neg c11] at H
                exact absurd H (by simp)
            · rw [if_neg c10] at H
              exact absurd H (by simp)
          · replace c9 := Bool.eq_false_iff.mpr c9
            subst c9
            have H1 : (if (t263.size : Int) < (t264.size : Int) then (some (-1)) else (if (t263.size : Int) > (t264.size : Int) then (some 1) else (some 0))) = some r := by rw [if_neg (show ¬ (false = true) by decide)] at H; exact H
            clear H
            have H := H1
            clear H1
            by_cases c19 : (t263.size : Int) < (t264.size : Int)
            · rw [if_pos c19] at H
              have c19b0 : decide ((t263.size : Int) < (t264.size : Int)) = true := decide_eq_true c19
              have c19b1 : decide (t263.size < t264.size) = true := decide_eq_true (Int.ofNat_lt.mp c19)
              clear c19
              obtain rfl := Option.some.inj H
              go_wp2
              repeat (go_quiet (fail); try go_wp2)
              go_ret
              exact ⟨by first | rfl | (simp [errW_none, errW_some] <;> rfl) | (simp [*, errW_none, errW_some] <;> rfl), by repeat (first | (with_reducible first | exact HB.out | apply below_alloc | apply pw_below_drewN | apply below_drew1) | exact HB.out)⟩
            · rw [if_neg c19] at H
              have c19b0 : decide ((t263.size : Int) < (t264.size : Int)) = false := decide_eq_false c19
              have c19b1 : decide (t263.size < t264.size) = false := decide_eq_false (fun h => c19 (Int.ofNat_lt.mpr h))
              clear c19
              by_cases c20 : (t263.size : Int) > (t264.size : Int)
              · rw [if_pos c20] at H
                have c20b0 : decide ((t264.size : Int) < (t263.size : Int)) = true := decide_eq_true c20
                have c20b1 : decide (t264.size < t263.size) = true := decide_eq_true (Int.ofNat_lt.mp c20)
                clear c20
                obtain rfl := Option.some.inj H
                go_wp2
                repeat (go_quiet (fail); try go_wp2)
                go_ret
                exact ⟨by first | rfl | (simp [errW_none, errW_some] <;> rfl) | (simp [*, errW_none, errW_some] <;> rfl), by repeat (first | (with_reducible first | exact HB.out | apply below_alloc | apply pw_below_drewN | apply below_drew1) | exact HB.out)⟩
              · rw [if_neg c20] at H
                have c20b0 : decide ((t264.size : Int) < (t263.size : Int)) = false := decide_eq_false c20
                have c20b1 : decide (t264.size < t263.size) = false := decide_eq_false (fun h => c20 (Int.ofNat_lt.mpr h))
                clear c20
                obtain rfl := Option.some.inj H
                go_wp2
                repeat (go_quiet (fail); try go_wp2)
                go_ret
                exact ⟨by first | rfl | (simp [errW_none, errW_some] <;> rfl) | (simp [*, errW_none, errW_some] <;> rfl), by repeat (first | (with_reducible first | exact HB.out | apply below_alloc | apply pw_below_drewN | apply below_drew1) | exact HB.out)⟩

end Go.Proofs.Ytfpdmmpjoejmiaa.OCalls
